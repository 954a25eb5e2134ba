/- The state of an abstract run, what it says of memory, and how the elementary changes of memory keep that. -/
import Derived.Test.YtmcadfejkcpblaaQa
set_option linter.unusedVariables false
set_option linter.unusedSimpArgs false
namespace Go.Proofs.Ytmcadfejkcpblaa.Q
open Go Go.RowKit

inductive Ob where
  | cells (cs : List V)
  | tcells (t : TypeId) (cs : List V)
  | dead
  | unb
  | mp (es : List (V × V))
  | lp (tm : List V) (ps : Array Tmp) (asg body : Code)
  | lpB (tm : List V) (ps : Array Tmp) (asg body : Code)
  | lpD (c : Code)
  deriving Inhabited

structure St where
  objs : List Ob
  toks : List Bool

/-- Nobody may read it: it has ended, or is yet to be born. -/
def Ob.gone : Ob → Prop
  | .dead => True
  | .unb => True
  | _ => False
def ObjOk (base : Nat) (g : Gh) (toks : List Bool) (w : World) (r : Nat) : Ob → Prop
  | .dead => True
  | .unb => True
  | .cells cs => base ≤ g.ρ r ∧ g.L (g.ρ r) = 0 ∧ ∃ c ty us, w.heap[g.ρ r]? = some (.cells c ty (0, 0)) ∧ VRs g toks w cs us ∧ g.ob r + us.length ≤ c.size ∧ ∀ i u, us[i]? = some u → c[g.ob r + i]? = some u
  | .tcells t cs => base ≤ g.ρ r ∧ g.L (g.ρ r) = 0 ∧ g.ob r = 0 ∧ ∃ us, w.heap[g.ρ r]? = some (.cells us.toArray t (0, 0)) ∧ VRs g toks w cs us
  | .mp es => base ≤ g.ρ r ∧ g.L (g.ρ r) = 0 ∧ ∃ (a : Array MapEntry) (clock : Nat), w.heap[g.ρ r]? = some (.map a clock) ∧ VRs g toks w (es.map (·.1)) (a.toList.map (·.key)) ∧ VRs g toks w (es.map (·.2)) (a.toList.map (·.val))
  | .lp tm ps asg body => base ≤ g.ρ r ∧ g.L (g.ρ r) = 0 ∧ ∃ (fn df : Nat) (us : List Value), w.heap[g.ρ r]? = some (.loop { state := .ready, pending := none, fn := fn, tmps := us.toArray, params := ps, assign := asg, body := body, defers := df }) ∧ VRs g toks w tm us
  | .lpB tm ps asg body => base ≤ g.ρ r ∧ g.L (g.ρ r) = 0 ∧ ∃ (fn df : Nat) (us : List Value), w.heap[g.ρ r]? = some (.loop { state := .busy, pending := none, fn := fn, tmps := us.toArray, params := ps, assign := asg, body := body, defers := df }) ∧ VRs g toks w tm us
  | .lpD c => base ≤ g.ρ r ∧ g.L (g.ρ r) = 0 ∧ ∃ rec : Loop, w.heap[g.ρ r]? = some (.loop rec) ∧ rec.state = .done ∧ rec.pending = some c

def aliveAt (objs : List Ob) (r : Nat) : Prop := ∃ o, objs[r]? = some o ∧ (∀ h : o.gone, False)
theorem ObjOk.gone {base : Nat} {g : Gh} {toks : List Bool} {w : World} {r : Nat} {o : Ob} (h : o.gone) : ObjOk base g toks w r o := by
  cases o <;> first | trivial | exact h.elim

structure Rel (base : Nat) (w0 : World) (g : Gh) (σ : St) (w : World) : Prop where
  below : Below base w0 w
  bs : base ≤ w.heap.size
  n : g.n = σ.objs.length
  hid : ∀ r, g.hid r = true ↔ σ.objs[r]? = some .unb
  obj : ∀ r o, σ.objs[r]? = some o → ObjOk base g σ.toks w r o
  inj : ∀ r r', aliveAt σ.objs r → aliveAt σ.objs r' → g.ρ r = g.ρ r' → r = r'
  tok : ∀ t, tokLive σ.toks t = true → base ≤ g.tk t ∧ g.tk t < w.heap.size ∧ ∀ r, aliveAt σ.objs r → g.ρ r ≠ g.tk t
  tinj : ∀ t t', tokLive σ.toks t = true → tokLive σ.toks t' = true → g.tk t = g.tk t' → t = t'
  lim : ∀ b, w.heap.size ≤ b → g.L b = 0

theorem Rel.hasO {base : Nat} {w0 : World} {g : Gh} {σ : St} {w : World} (h : Rel base w0 g σ w) {r : Nat} {o : Ob} (ho : σ.objs[r]? = some o) : g.has r ∨ o.gone := by
  cases hh : g.hid r with
  | true => have := (h.hid r).1 hh; rw [ho] at this; injection this with this; subst this; exact .inr trivial
  | false => exact .inl ⟨by rw [h.n]; exact (List.getElem?_eq_some_iff.1 ho).1, hh⟩
theorem Rel.hasA {base : Nat} {w0 : World} {g : Gh} {σ : St} {w : World} (h : Rel base w0 g σ w) {r : Nat} (ha : aliveAt σ.objs r) : g.has r := by
  obtain ⟨o, ho, hd⟩ := ha
  exact (h.hasO ho).resolve_right hd
theorem tokLive_lt {toks : List Bool} {t : Nat} (h : tokLive toks t = true) : t < toks.length := by
  unfold tokLive at h
  rcases Nat.lt_or_ge t toks.length with h1 | h1
  · exact h1
  · simp [List.getD_eq_getElem?_getD, List.getElem?_eq_none h1] at h

theorem alive_lt {objs : List Ob} {r : Nat} (h : aliveAt objs r) : r < objs.length := by
  obtain ⟨o, h, _⟩ := h
  rcases Nat.lt_or_ge r objs.length with h1 | h1
  · exact h1
  · simp [List.getElem?_eq_none h1] at h

theorem ObjOk.lt {base : Nat} {g : Gh} {toks : List Bool} {w : World} {r : Nat} {o : Ob} (h : ObjOk base g toks w r o) (ho : ∀ h : o.gone, False) : g.ρ r < w.heap.size := by
  cases o with
  | dead => exact (ho trivial).elim
  | unb => exact (ho trivial).elim
  | mp es =>
    obtain ⟨_, _, a, cl, hh, _⟩ := h
    exact (Array.getElem?_eq_some_iff.1 hh).1
  | lp tm ps asg body =>
    obtain ⟨_, _, fn, df, us, hh, _⟩ := h
    exact (Array.getElem?_eq_some_iff.1 hh).1
  | lpB tm ps asg body =>
    obtain ⟨_, _, fn, df, us, hh, _⟩ := h
    exact (Array.getElem?_eq_some_iff.1 hh).1
  | lpD c =>
    obtain ⟨_, _, rec, hh, _⟩ := h
    exact (Array.getElem?_eq_some_iff.1 hh).1
  | tcells t cs =>
    obtain ⟨_, _, _, us, hh, _⟩ := h
    exact (Array.getElem?_eq_some_iff.1 hh).1
  | cells cs =>
    obtain ⟨_, _, c, ty, us, hh, _⟩ := h
    exact (Array.getElem?_eq_some_iff.1 hh).1

theorem Rel.alive_block {base : Nat} {w0 : World} {g : Gh} {σ : St} {w : World} (h : Rel base w0 g σ w) {r : Nat} (hr : aliveAt σ.objs r) : g.ρ r < w.heap.size := by
  obtain ⟨o, ho, hd⟩ := hr
  exact (h.obj r o ho).lt hd

/-! ### A draw -/
theorem Ext.drew (g : Gh) (s : List Bool) (w : World) : Ext g s w g s w.drew :=
  ⟨⟨Nat.le_refl _, fun _ h => h, fun _ _ => rfl, fun _ _ => rfl, fun _ => Nat.le_refl _, fun _ _ _ => rfl, fun _ c _ fr h => ⟨c, fr, h, rfl, .inl rfl⟩, Nat.le_refl _, fun _ _ h => ⟨h, rfl, rfl⟩⟩, fun _ _ h => h⟩

theorem ObjOk.ext0 {base : Nat} {g g' : Gh} {s s' : List Bool} {w w' : World} (e : Ext0 g s w g' s' w') {r : Nat} {o : Ob} (hr' : g.has r ∨ o.gone) (hh : w'.heap[g.ρ r]? = w.heap[g.ρ r]?) (hL : g'.L (g.ρ r) = g.L (g.ρ r)) (h : ObjOk base g s w r o) : ObjOk base g' s' w' r o := by
  cases o with
  | dead => trivial
  | unb => trivial
  | mp es =>
    obtain ⟨h1, h2, a, cl, h3, h4, h5⟩ := h
    simp only [ObjOk]
    have hr := hr'.resolve_right (fun e => e.elim)
    rw [e.ρ r hr, hL]
    exact ⟨h1, h2, a, cl, hh.trans h3, VRs.ext0 e _ h4, VRs.ext0 e _ h5⟩
  | lp tm ps asg body =>
    obtain ⟨h1, h2, fn, df, us, h3, h4⟩ := h
    simp only [ObjOk]
    have hr := hr'.resolve_right (fun e => e.elim)
    rw [e.ρ r hr, hL]
    exact ⟨h1, h2, fn, df, us, hh.trans h3, VRs.ext0 e _ h4⟩
  | lpB tm ps asg body =>
    obtain ⟨h1, h2, fn, df, us, h3, h4⟩ := h
    simp only [ObjOk]
    have hr := hr'.resolve_right (fun e => e.elim)
    rw [e.ρ r hr, hL]
    exact ⟨h1, h2, fn, df, us, hh.trans h3, VRs.ext0 e _ h4⟩
  | lpD c =>
    obtain ⟨h1, h2, rec, h3, h4⟩ := h
    simp only [ObjOk]
    have hr := hr'.resolve_right (fun e => e.elim)
    rw [e.ρ r hr, hL]
    exact ⟨h1, h2, rec, hh.trans h3, h4⟩
  | tcells t cs =>
    obtain ⟨h1, h2, h0, us, h3, h4⟩ := h
    simp only [ObjOk]
    have hr := hr'.resolve_right (fun e => e.elim)
    rw [e.ρ r hr, e.ob r hr, hL]
    exact ⟨h1, h2, h0, us, hh.trans h3, VRs.ext0 e cs h4⟩
  | cells cs =>
    obtain ⟨h1, h2, c, ty, us, h3, h4, h5, h6⟩ := h
    simp only [ObjOk]
    have hr := hr'.resolve_right (fun e => e.elim)
    rw [e.ρ r hr, e.ob r hr, hL]
    exact ⟨h1, h2, c, ty, us, hh.trans h3, VRs.ext0 e cs h4, h5, h6⟩

theorem ObjOk.ext {base : Nat} {g g' : Gh} {s s' : List Bool} {w w' : World} (e : Ext g s w g' s' w') {r : Nat} {o : Ob} (hr' : g.has r ∨ o.gone) (hh : w'.heap[g.ρ r]? = w.heap[g.ρ r]?) (hL : g'.L (g.ρ r) = g.L (g.ρ r)) (h : ObjOk base g s w r o) : ObjOk base g' s' w' r o := h.ext0 e.toExt0 hr' hh hL

theorem Rel.drew {base : Nat} {w0 : World} {g : Gh} {σ : St} {w : World} (h : Rel base w0 g σ w) : Rel base w0 g σ w.drew where
  below := h.below.drew
  bs := h.bs
  n := h.n
  hid := h.hid
  obj r o ho := (h.obj r o ho).ext (Ext.drew g σ.toks w) (h.hasO ho) rfl rfl
  inj := h.inj
  tok := h.tok
  tinj := h.tinj
  lim := h.lim

/-! ### A new block whose first k cells nobody writes any more -/
def Gh.row (g : Gh) (B k : Nat) : Gh := { g with L := fun b => if b = B then k else g.L b }

theorem heap_alloc_lt (w : World) (o : Obj) (k : Nat) (h : k < w.heap.size) : (w.alloc o).heap[k]? = w.heap[k]? := Below.heap_alloc w o k h

theorem heap_alloc_eq (w : World) (o : Obj) : (w.alloc o).heap[w.heap.size]? = some o := by
  show (w.heap.push o)[w.heap.size]? = _
  rw [Array.getElem?_push, if_pos rfl]

theorem Ext.row {base : Nat} {w0 : World} {g : Gh} {σ : St} {w : World} (h : Rel base w0 g σ w) (o : Obj) (k : Nat) : Ext g σ.toks w (g.row w.heap.size k) σ.toks (w.alloc o) where
  n := Nat.le_refl _
  has _ h := h
  ρ _ _ := rfl
  ob _ _ := rfl
  L b := by
    simp only [Gh.row]
    split
    · rename_i hb; rw [hb, h.lim _ (Nat.le_refl _)]; exact Nat.zero_le _
    · exact Nat.le_refl _
  cells b o' ho := by
    have hb : b < w.heap.size := by
      rcases Nat.lt_or_ge b w.heap.size with h1 | h1
      · exact h1
      · rw [h.lim b h1] at ho; omega
    exact World.cell?_alloc_lt (a := ⟨b, o', none⟩) _ _ hb
  shape b c t fr hb := ⟨c, fr, by rw [heap_alloc_lt _ _ _ (Array.getElem?_eq_some_iff.1 hb).1]; exact hb, rfl, .inl rfl⟩
  dfr b x hb := by rw [heap_alloc_lt _ _ _ (Array.getElem?_eq_some_iff.1 hb).1]; exact hb
  nt := Nat.le_refl _
  tok t ht hl := by
    refine ⟨hl, rfl, ?_⟩
    simp only [Gh.row]
    rw [if_neg]
    have := (h.tok t hl).2.1
    omega

theorem Rel.row {base : Nat} {w0 : World} {g : Gh} {σ : St} {w : World} (h : Rel base w0 g σ w) (o : Obj) (k : Nat) : Rel base w0 (g.row w.heap.size k) σ (w.alloc o) where
  below := h.below.alloc h.bs o
  bs := by rw [World.size_alloc]; have := h.bs; omega
  n := h.n
  hid := h.hid
  obj r ob ho := by
    by_cases hob : ob.gone
    · exact ObjOk.gone hob
    · have hlt := (h.obj r ob ho).lt hob
      exact (h.obj r ob ho).ext (Ext.row h o k) (h.hasO ho) (heap_alloc_lt _ _ _ hlt) (by simp only [Gh.row]; rw [if_neg (by omega)])
  inj := h.inj
  tok t ht := by
    obtain ⟨h1, h2, h3⟩ := h.tok t ht
    exact ⟨h1, by rw [World.size_alloc]; exact Nat.lt_succ_of_lt h2, h3⟩
  tinj := h.tinj
  lim b hb := by
    rw [World.size_alloc] at hb
    simp only [Gh.row]
    rw [if_neg (by omega)]
    exact h.lim b (by omega)

/-- A token for a row. -/
def Gh.token (g : Gh) (t B : Nat) : Gh := { g with tk := fun s => if s = t then B else g.tk s }

theorem tokLive_append_old {toks : List Bool} {t : Nat} (h : t < toks.length) (b : Bool) : tokLive (toks ++ [b]) t = tokLive toks t := by
  simp [tokLive, List.getD_eq_getElem?_getD, List.getElem?_append_left h]
theorem tokLive_append_new (toks : List Bool) (b : Bool) : tokLive (toks ++ [b]) toks.length = b := by
  simp [tokLive, List.getD_eq_getElem?_getD]

theorem Ext.token {g : Gh} {s : List Bool} (w : World) (B : Nat) (b : Bool) : Ext g s w (g.token s.length B) (s ++ [b]) w where
  n := Nat.le_refl _
  has _ h := h
  ρ _ _ := rfl
  ob _ _ := rfl
  L _ := Nat.le_refl _
  cells _ _ _ := rfl
  shape _ c _ fr h := ⟨c, fr, h, rfl, .inl rfl⟩
  dfr _ _ h := h
  nt := by simp
  tok t ht hl := by
    rw [tokLive_append_old ht] at hl
    refine ⟨hl, ?_, rfl⟩
    simp only [Gh.token]
    rw [if_neg (by omega)]

theorem Rel.token {base : Nat} {w0 : World} {g : Gh} {σ : St} {w : World} (h : Rel base w0 g σ w) (B : Nat) (hB : base ≤ B) (hlt : B < w.heap.size) (ho : ∀ r, aliveAt σ.objs r → g.ρ r ≠ B)
    (ht : ∀ t, tokLive σ.toks t = true → g.tk t ≠ B) : Rel base w0 (g.token σ.toks.length B) ⟨σ.objs, σ.toks ++ [true]⟩ w where
  below := h.below
  bs := h.bs
  n := h.n
  hid := h.hid
  obj r ob hob := (h.obj r ob hob).ext (Ext.token w B true) (h.hasO hob) rfl rfl
  inj := h.inj
  tok t hl := by
    have hlt' := tokLive_lt hl
    simp only [List.length_append, List.length_singleton] at hlt'
    by_cases e : t = σ.toks.length
    · subst e
      simp only [Gh.token, if_pos]
      exact ⟨hB, hlt, ho⟩
    · simp only [Gh.token]
      rw [if_neg e]
      rw [tokLive_append_old (by omega)] at hl
      exact h.tok t hl
  tinj t t' hl hl' he := by
    have h1 := tokLive_lt hl
    have h2 := tokLive_lt hl'
    simp only [List.length_append, List.length_singleton] at h1 h2
    simp only [Gh.token] at he
    by_cases e : t = σ.toks.length
    · by_cases e' : t' = σ.toks.length
      · omega
      · rw [if_pos e, if_neg e'] at he
        rw [tokLive_append_old (by omega)] at hl'
        exact absurd he.symm (ht t' hl')
    · rw [tokLive_append_old (by omega)] at hl
      by_cases e' : t' = σ.toks.length
      · rw [if_pos e', if_neg e] at he
        exact absurd he (ht t hl)
      · rw [if_neg e, if_neg e'] at he
        rw [tokLive_append_old (by omega)] at hl'
        exact h.tinj t t' hl hl' he
  lim := h.lim

/-- A token is given up. -/
def killTok (toks : List Bool) (t : Nat) : List Bool := toks.set t false

theorem tokLive_kill {toks : List Bool} {t s : Nat} (h : tokLive (killTok toks t) s = true) : tokLive toks s = true ∧ s ≠ t := by
  unfold tokLive killTok at *
  rw [List.getD_eq_getElem?_getD] at *
  rw [List.getElem?_set] at h
  split at h
  · split at h <;> simp at h
  · rename_i hne
    exact ⟨h, fun e => hne e.symm⟩

theorem length_kill (toks : List Bool) (t : Nat) : (killTok toks t).length = toks.length := by simp [killTok]

theorem Ext.kill (g : Gh) (s : List Bool) (w : World) (t : Nat) : Ext g s w g (killTok s t) w where
  n := Nat.le_refl _
  has _ h := h
  ρ _ _ := rfl
  ob _ _ := rfl
  L _ := Nat.le_refl _
  cells _ _ _ := rfl
  shape _ c _ fr h := ⟨c, fr, h, rfl, .inl rfl⟩
  dfr _ _ h := h
  nt := by rw [length_kill]; exact Nat.le_refl _
  tok u hu hl := ⟨(tokLive_kill hl).1, rfl, rfl⟩

theorem Rel.kill {base : Nat} {w0 : World} {g : Gh} {σ : St} {w : World} (h : Rel base w0 g σ w) (t : Nat) : Rel base w0 g ⟨σ.objs, killTok σ.toks t⟩ w where
  below := h.below
  bs := h.bs
  n := h.n
  hid := h.hid
  obj r ob hob := (h.obj r ob hob).ext (Ext.kill g σ.toks w t) (h.hasO hob) rfl rfl
  inj := h.inj
  tok u hu := h.tok u (tokLive_kill hu).1
  tinj u u' hu hu' := h.tinj u u' (tokLive_kill hu).1 (tokLive_kill hu').1
  lim := h.lim

/-! ### A new object -/
def Gh.obj (g : Gh) (B : Nat) : Gh := { g with n := g.n + 1, hid := fun r => if r = g.n then false else g.hid r, ρ := fun r => if r = g.n then B else g.ρ r, ob := fun r => if r = g.n then 0 else g.ob r }

theorem Ext.obj {base : Nat} {w0 : World} {g : Gh} {σ : St} {w : World} (h : Rel base w0 g σ w) (o : Obj) : Ext g σ.toks w (g.obj w.heap.size) σ.toks (w.alloc o) where
  n := by simp [Gh.obj]
  has r hr := by obtain ⟨h1, h2⟩ := hr; exact ⟨by simp [Gh.obj]; omega, by simp only [Gh.obj]; rw [if_neg (by omega)]; exact h2⟩
  ρ r hr := by have := hr.1; simp only [Gh.obj]; rw [if_neg (by omega)]
  ob r hr := by have := hr.1; simp only [Gh.obj]; rw [if_neg (by omega)]
  L _ := Nat.le_refl _
  cells b o' ho := by
    have hb : b < w.heap.size := by
      rcases Nat.lt_or_ge b w.heap.size with h1 | h1
      · exact h1
      · rw [h.lim b h1] at ho; omega
    exact World.cell?_alloc_lt (a := ⟨b, o', none⟩) _ _ hb
  shape b c t fr hb := ⟨c, fr, by rw [heap_alloc_lt _ _ _ (Array.getElem?_eq_some_iff.1 hb).1]; exact hb, rfl, .inl rfl⟩
  dfr b x hb := by rw [heap_alloc_lt _ _ _ (Array.getElem?_eq_some_iff.1 hb).1]; exact hb
  nt := Nat.le_refl _
  tok t ht hl := ⟨hl, rfl, rfl⟩

theorem alive_append {objs : List Ob} {o : Ob} {r : Nat} (h : aliveAt (objs ++ [o]) r) : aliveAt objs r ∨ r = objs.length := by
  have hlt := alive_lt h
  simp only [List.length_append, List.length_singleton] at hlt
  rcases Nat.lt_or_ge r objs.length with h1 | h1
  · obtain ⟨o', ho, hd⟩ := h
    rw [List.getElem?_append_left h1] at ho
    exact .inl ⟨o', ho, hd⟩
  · exact .inr (by omega)

theorem Rel.newA {base : Nat} {w0 : World} {g : Gh} {σ : St} {w : World} (h : Rel base w0 g σ w) (x : Obj) (o : Ob) (hok : ObjOk base (g.obj w.heap.size) σ.toks (w.alloc x) σ.objs.length o) (hnu : ¬ o = .unb := by intro h; cases h) :
    Rel base w0 (g.obj w.heap.size) ⟨σ.objs ++ [o], σ.toks⟩ (w.alloc x) where
  below := h.below.alloc h.bs _
  bs := by rw [World.size_alloc]; have := h.bs; omega
  n := by simp [Gh.obj, h.n]
  hid r := by
    simp only [Gh.obj]
    rcases Nat.lt_or_ge r σ.objs.length with h1 | h1
    · rw [if_neg (by rw [h.n]; omega), List.getElem?_append_left h1]
      exact h.hid r
    · have h2 : g.hid r = false := by
        cases e : g.hid r with
        | false => rfl
        | true => have := (List.getElem?_eq_some_iff.1 ((h.hid r).1 e)).1; omega
      rw [h2]
      constructor
      · intro h; split at h <;> cases h
      · intro hu
        have h3 := (List.getElem?_eq_some_iff.1 hu).1
        simp only [List.length_append, List.length_singleton] at h3
        have : r = σ.objs.length := by omega
        subst this
        simp at hu
        exact absurd hu hnu
  obj r ob hob := by
    rcases Nat.lt_or_ge r σ.objs.length with h1 | h1
    · rw [List.getElem?_append_left h1] at hob
      by_cases hd : ob.gone
      · exact ObjOk.gone hd
      · have hlt := (h.obj r ob hob).lt hd
        exact (h.obj r ob hob).ext (Ext.obj h _) (h.hasO hob) (heap_alloc_lt _ _ _ hlt) rfl
    · have hr : r = σ.objs.length := by
        have := (List.getElem?_eq_some_iff.1 hob).1
        simp only [List.length_append, List.length_singleton] at this
        omega
      subst hr
      simp at hob
      subst hob
      exact hok
  inj r r' hr hr' he := by
    simp only [Gh.obj] at he
    rcases alive_append hr with h1 | h1 <;> rcases alive_append hr' with h2 | h2
    · have a := alive_lt h1
      have b := alive_lt h2
      rw [if_neg (by rw [h.n]; omega), if_neg (by rw [h.n]; omega)] at he
      exact h.inj r r' h1 h2 he
    · have a := alive_lt h1
      rw [if_neg (by rw [h.n]; omega), if_pos (by rw [h.n]; exact h2)] at he
      have := h.alive_block h1
      omega
    · have a := alive_lt h2
      rw [if_pos (by rw [h.n]; exact h1), if_neg (by rw [h.n]; omega)] at he
      have := h.alive_block h2
      omega
    · omega
  tok t hl := by
    obtain ⟨h1, h2, h3⟩ := h.tok t hl
    refine ⟨h1, by rw [World.size_alloc]; exact Nat.lt_succ_of_lt h2, fun r hr => ?_⟩
    simp only [Gh.obj]
    rcases alive_append hr with h4 | h4
    · have a := alive_lt h4
      have hg : (g.obj w.heap.size).tk t = g.tk t := rfl
      rw [if_neg (by rw [h.n]; omega)]
      exact h3 r h4
    · rw [if_pos (by rw [h.n]; exact h4)]
      omega
  tinj := h.tinj
  lim b hb := by rw [World.size_alloc] at hb; exact h.lim b (by omega)

theorem Rel.newG {base : Nat} {w0 : World} {g : Gh} {σ : St} {w : World} (h : Rel base w0 g σ w) (c : Array Value) (ty : TypeId) (o : Ob) (hok : ObjOk base (g.obj w.heap.size) σ.toks (w.alloc (.cells c ty)) σ.objs.length o) (hnu : ¬ o = .unb := by intro h; cases h) :
    Rel base w0 (g.obj w.heap.size) ⟨σ.objs ++ [o], σ.toks⟩ (w.alloc (.cells c ty)) := h.newA _ o hok hnu
theorem Rel.newObj {base : Nat} {w0 : World} {g : Gh} {σ : St} {w : World} (h : Rel base w0 g σ w) (c : Array Value) (ty : TypeId) (cs : List V) (hc : VRs g σ.toks w cs c.toList) :
    Rel base w0 (g.obj w.heap.size) ⟨σ.objs ++ [.cells cs], σ.toks⟩ (w.alloc (.cells c ty)) := by
  refine h.newG c ty _ ?_
  simp only [ObjOk, Gh.obj]
  rw [if_pos h.n.symm, if_pos h.n.symm]
  exact ⟨h.bs, h.lim _ (Nat.le_refl _), c, ty, c.toList, heap_alloc_eq _ _, VRs.ext (Ext.obj h _) cs hc, by simp, fun i u hu => by simpa using hu⟩
theorem Rel.newT {base : Nat} {w0 : World} {g : Gh} {σ : St} {w : World} (h : Rel base w0 g σ w) (c : Array Value) (ty : TypeId) (cs : List V) (hc : VRs g σ.toks w cs c.toList) :
    Rel base w0 (g.obj w.heap.size) ⟨σ.objs ++ [.tcells ty cs], σ.toks⟩ (w.alloc (.cells c ty)) := by
  refine h.newG c ty _ ?_
  simp only [ObjOk, Gh.obj]
  rw [if_pos h.n.symm, if_pos h.n.symm]
  exact ⟨h.bs, h.lim _ (Nat.le_refl _), rfl, c.toList, heap_alloc_eq _ _, VRs.ext (Ext.obj h _) cs hc⟩

/-! ### A store into an object's cell -/
theorem heap_setCell_other (w : World) (a : Addr) (u : Value) (k : Nat) (h : k ≠ a.block) : (w.setCell a u).heap[k]? = w.heap[k]? := Below.heap_setCell w a u k h

theorem heap_setCell_same (w : World) (b off : Nat) (u : Value) (c : Array Value) (t : TypeId) (fr : Nat × Nat) (h : w.heap[b]? = some (.cells c t fr)) : (w.setCell ⟨b, off, none⟩ u).heap[b]? = some (.cells (c.setIfInBounds off u) t fr) := by
  simp [World.setCell, Array.getElem?_modify, h]

theorem cell?_heap {w w' : World} {b : Nat} (h : w'.heap[b]? = w.heap[b]?) (o : Nat) : w'.cell? ⟨b, o, none⟩ = w.cell? ⟨b, o, none⟩ := World.cell?_of_block (a := ⟨b, o, none⟩) h

theorem Ext.setCell {g : Gh} (s : List Bool) {w : World} (b off : Nat) (u : Value) (hL : g.L b = 0) : Ext g s w g s (w.setCell ⟨b, off, none⟩ u) where
  n := Nat.le_refl _
  has _ h := h
  ρ _ _ := rfl
  ob _ _ := rfl
  L _ := Nat.le_refl _
  cells k o ho := by
    by_cases e : k = b
    · subst e; rw [hL] at ho; omega
    · exact cell?_heap (heap_setCell_other w ⟨b, off, none⟩ u k e) o
  shape k c t fr h := by
    by_cases e : k = b
    · subst e
      exact ⟨_, fr, heap_setCell_same w k off u c t fr h, by simp, .inl rfl⟩
    · exact ⟨c, fr, (heap_setCell_other w ⟨b, off, none⟩ u k e).trans h, rfl, .inl rfl⟩
  dfr k x h := by
    by_cases e : k = b
    · subst e
      simp only [World.setCell, Array.getElem?_modify, h]
      simp
    · exact (heap_setCell_other w ⟨b, off, none⟩ u k e).trans h
  nt := Nat.le_refl _
  tok _ _ hl := ⟨hl, rfl, rfl⟩

theorem alive_set {objs : List Ob} {r k : Nat} {o o' : Ob} (h : objs[r]? = some o) (hd : ∀ h : o.gone, False) (hk : aliveAt (objs.set r o') k) : aliveAt objs k := by
  obtain ⟨p, hp, hpd⟩ := hk
  rw [List.getElem?_set] at hp
  split at hp
  · rename_i e; subst e; exact ⟨o, h, hd⟩
  · exact ⟨p, hp, hpd⟩

theorem Rel.setG {base : Nat} {w0 : World} {g : Gh} {σ : St} {w : World} (h : Rel base w0 g σ w) {r : Nat} {o o' : Ob} (hr : σ.objs[r]? = some o) (hd : ∀ h : o.gone, False) (hb : base ≤ g.ρ r) (hL : g.L (g.ρ r) = 0) (n : Nat) {u : Value}
    (hok : Ext g σ.toks w g σ.toks (w.setCell ⟨g.ρ r, n, none⟩ u) → ObjOk base g σ.toks (w.setCell ⟨g.ρ r, n, none⟩ u) r o') (hnu : ¬ o' = .unb := by intro h; cases h) : Rel base w0 g ⟨σ.objs.set r o', σ.toks⟩ (w.setCell ⟨g.ρ r, n, none⟩ u) := by
  have e : Ext g σ.toks w g σ.toks (w.setCell ⟨g.ρ r, n, none⟩ u) := Ext.setCell σ.toks (g.ρ r) n u hL
  have halr : aliveAt σ.objs r := ⟨_, hr, hd⟩
  exact {
    below := h.below.setCell hb u
    bs := by rw [World.size_setCell]; exact h.bs
    n := by simpa using h.n
    hid := fun k => by
      by_cases e : r = k
      · subst e
        rw [List.getElem?_set_self (List.getElem?_eq_some_iff.1 hr).1, h.hid, hr]
        constructor
        · intro h; injection h with h; subst h; exact (hd trivial).elim
        · intro h; injection h with h; exact absurd h hnu
      · rw [List.getElem?_set_ne e]
        exact h.hid k
    obj := by
      intro k p hk
      by_cases ek : k = r
      · subst ek
        rw [List.getElem?_set_self (by have := (List.getElem?_eq_some_iff.1 hr).1; exact this)] at hk
        injection hk with hk
        subst hk
        exact hok e
      · rw [List.getElem?_set_ne (by omega)] at hk
        by_cases hd : p.gone
        · exact ObjOk.gone hd
        · have hne : g.ρ k ≠ g.ρ r := fun ee => ek (h.inj k r ⟨p, hk, hd⟩ halr ee)
          exact (h.obj k p hk).ext e (h.hasO hk) (heap_setCell_other w ⟨g.ρ r, n, none⟩ u _ hne) rfl
    inj := fun a b ha hb' => h.inj a b (alive_set hr hd ha) (alive_set hr hd hb')
    tok := fun t ht => by
      obtain ⟨h1, h2, h3⟩ := h.tok t ht
      exact ⟨h1, by rw [World.size_setCell]; exact h2, fun a ha => h3 a (alive_set hr hd ha)⟩
    tinj := h.tinj
    lim := fun b hb' => h.lim b (by rw [World.size_setCell] at hb'; exact hb') }

theorem Rel.setCell {base : Nat} {w0 : World} {g : Gh} {σ : St} {w : World} (h : Rel base w0 g σ w) {r : Nat} {cs : List V} (hr : σ.objs[r]? = some (.cells cs)) (off : Nat) (hoff : off < cs.length) {v : V} {u : Value}
    (hv : VR g σ.toks w v u) : Rel base w0 g ⟨σ.objs.set r (.cells (cs.set off v)), σ.toks⟩ (w.setCell ⟨g.ρ r, g.ob r + off, none⟩ u) := by
  have hob := h.obj r _ hr
  obtain ⟨hb, hL, c, ty, us, hh, hus, hlen, hcells⟩ := hob
  have hl : cs.length = us.length := hus.length
  refine h.setG hr (by intro h; cases h) hb hL _ fun e => ?_
  refine ⟨hb, hL, _, ty, us.set off u, heap_setCell_same w _ _ u c ty (0, 0) hh, VRs.set (VRs.ext e cs hus) off (VR.ext e v hv), by simpa using hlen, fun i x hx => ?_⟩
  rw [List.getElem?_set] at hx
  rw [Array.getElem?_setIfInBounds]
  split at hx
  · rename_i ei
    subst ei
    rw [if_pos rfl]
    split at hx
    · rw [if_pos (by omega)]; exact hx
    · cases hx
  · rename_i ei
    rw [if_neg (by omega)]
    exact hcells i x hx
theorem Rel.setT {base : Nat} {w0 : World} {g : Gh} {σ : St} {w : World} (h : Rel base w0 g σ w) {r : Nat} {t : TypeId} {cs : List V} (hr : σ.objs[r]? = some (.tcells t cs)) (off : Nat) {v : V} {u : Value}
    (hv : VR g σ.toks w v u) : Rel base w0 g ⟨σ.objs.set r (.tcells t (cs.set off v)), σ.toks⟩ (w.setCell ⟨g.ρ r, g.ob r + off, none⟩ u) := by
  have hob := h.obj r _ hr
  obtain ⟨hb, hL, h0, us, hh, hus⟩ := hob
  refine h.setG hr (by intro h; cases h) hb hL _ fun e => ?_
  refine ⟨hb, hL, h0, us.set off u, ?_, VRs.set (VRs.ext e cs hus) off (VR.ext e v hv)⟩
  rw [heap_setCell_same w _ _ u _ t (0, 0) hh, h0, Nat.zero_add]
  congr 2
  simp

/-- Objects of cells, of a known type or not. -/
def Ob.of : Option TypeId → List V → Ob
  | none, cs => .cells cs
  | some t, cs => .tcells t cs
theorem Rel.cellsOf {base : Nat} {w0 : World} {g : Gh} {σ : St} {w : World} (h : Rel base w0 g σ w) {r : Nat} {m : Option TypeId} {cs : List V} (hr : σ.objs[r]? = some (Ob.of m cs)) :
    base ≤ g.ρ r ∧ g.L (g.ρ r) = 0 ∧ ∃ c ty us, w.heap[g.ρ r]? = some (.cells c ty (0, 0)) ∧ VRs g σ.toks w cs us ∧ g.ob r + us.length ≤ c.size ∧ ∀ i u, us[i]? = some u → c[g.ob r + i]? = some u := by
  cases m with
  | none => exact h.obj r _ hr
  | some t =>
    obtain ⟨h1, h2, h0, us, hh, hus⟩ := h.obj r _ hr
    refine ⟨h1, h2, us.toArray, t, us, hh, hus, by simp [h0], fun i u hu => by rw [h0, Nat.zero_add]; simpa using hu⟩
theorem Rel.setOf {base : Nat} {w0 : World} {g : Gh} {σ : St} {w : World} (h : Rel base w0 g σ w) {r : Nat} {m : Option TypeId} {cs : List V} (hr : σ.objs[r]? = some (Ob.of m cs)) (off : Nat) (hoff : off < cs.length) {v : V} {u : Value}
    (hv : VR g σ.toks w v u) : Rel base w0 g ⟨σ.objs.set r (Ob.of m (cs.set off v)), σ.toks⟩ (w.setCell ⟨g.ρ r, g.ob r + off, none⟩ u) := by
  cases m with
  | none => exact h.setCell hr off hoff hv
  | some t => exact h.setT hr off hv

/-! ### An append in place -/
theorem bool_append_fin {a b : Nat} (h : a ≤ b) : a ≤ b := h

theorem Rel.appendIn {base : Nat} {w0 : World} {g : Gh} {σ : St} {w w' : World} (h : Rel base w0 g σ w) {t : Nat} (ht : tokLive σ.toks t = true) {cur cur' : Array Value} {e : TypeId}
    (hb : w.heap[g.tk t]? = some (.cells cur e (0, 0))) (hb' : w'.heap[g.tk t]? = some (.cells cur' e (0, 0))) (hs : cur'.size = cur.size) (ho : ∀ k, k ≠ g.tk t → w'.heap[k]? = w.heap[k]?)
    (hsz : w'.heap.size = w.heap.size) (hos : w'.os = w.os) (htp : w'.tape = w.tape) (hout : w'.output = w.output) (hpre : ∀ o, o < g.L (g.tk t) → cur'[o]? = cur[o]?) (k : Nat) (hk : g.L (g.tk t) ≤ k) :
    Ext g σ.toks w ((g.row (g.tk t) k).token σ.toks.length (g.tk t)) (killTok σ.toks t ++ [true]) w' ∧
    Rel base w0 ((g.row (g.tk t) k).token σ.toks.length (g.tk t)) ⟨σ.objs, killTok σ.toks t ++ [true]⟩ w' := by
  have htok := h.tok t ht
  have hlk := length_kill σ.toks t
  have E : Ext g σ.toks w ((g.row (g.tk t) k).token σ.toks.length (g.tk t)) (killTok σ.toks t ++ [true]) w' := {
    n := Nat.le_refl _
    has := fun _ h => h
    ρ := fun _ _ => rfl
    ob := fun _ _ => rfl
    L := fun b => by
      simp only [Gh.token, Gh.row]
      split
      · rename_i e; rw [e]; exact hk
      · exact Nat.le_refl _
    cells := fun b o hlo => by
      by_cases eb : b = g.tk t
      · subst eb
        simp only [World.cell?, hb, hb']
        exact hpre o hlo
      · exact cell?_heap (ho b eb) o
    shape := fun b c ty fr hbb => by
      by_cases eb : b = g.tk t
      · subst eb
        rw [hb] at hbb
        injection hbb with hbb
        injection hbb with h1 h2 h3
        subst h1 h2 h3
        exact ⟨cur', _, hb', hs, .inl rfl⟩
      · exact ⟨c, fr, (ho b eb).trans hbb, rfl, .inl rfl⟩
    dfr := fun b x hbb => by
      by_cases eb : b = g.tk t
      · subst eb; rw [hb] at hbb; cases hbb
      · exact (ho b eb).trans hbb
    nt := by rw [List.length_append, hlk]; omega
    tok := fun s hs' hl => by
      rw [tokLive_append_old (by rw [hlk]; exact hs')] at hl
      obtain ⟨hl0, hne⟩ := tokLive_kill hl
      refine ⟨hl0, ?_, ?_⟩
      · simp only [Gh.token, Gh.row]
        rw [if_neg (by omega)]
      · simp only [Gh.token, Gh.row]
        rw [if_neg (fun ee => hne (h.tinj s t hl0 ht ee))] }
  refine ⟨E, ?_⟩
  exact {
    below := h.below.trans ⟨hos, htp, hout, by omega, fun i hi => ho i (by omega)⟩
    bs := by rw [hsz]; exact h.bs
    n := h.n
    hid := h.hid
    obj := fun r o hr => by
      by_cases hd : o.gone
      · exact ObjOk.gone hd
      · have hal : aliveAt σ.objs r := ⟨o, hr, hd⟩
        have hne := htok.2.2 r hal
        exact (h.obj r o hr).ext E (.inl (h.hasA hal)) (ho _ hne) (by simp only [Gh.token, Gh.row]; rw [if_neg hne])
    inj := h.inj
    tok := fun s hl => by
      have hlt := tokLive_lt hl
      rw [List.length_append, hlk, List.length_singleton] at hlt
      by_cases es : s = σ.toks.length
      · subst es
        simp only [Gh.token, if_pos]
        exact ⟨htok.1, by rw [hsz]; exact htok.2.1, htok.2.2⟩
      · rw [tokLive_append_old (by rw [hlk]; omega)] at hl
        simp only [Gh.token, Gh.row]
        rw [if_neg es, hsz]
        exact h.tok s (tokLive_kill hl).1
    tinj := fun s s' hl hl' he => by
      have h1 := tokLive_lt hl
      have h2 := tokLive_lt hl'
      rw [List.length_append, hlk, List.length_singleton] at h1 h2
      simp only [Gh.token, Gh.row] at he
      by_cases es : s = σ.toks.length
      · by_cases es' : s' = σ.toks.length
        · omega
        · rw [if_pos es, if_neg es'] at he
          rw [tokLive_append_old (by rw [hlk]; omega)] at hl'
          obtain ⟨a, b⟩ := tokLive_kill hl'
          exact absurd (h.tinj s' t a ht he.symm) b
      · rw [tokLive_append_old (by rw [hlk]; omega)] at hl
        obtain ⟨a, b⟩ := tokLive_kill hl
        by_cases es' : s' = σ.toks.length
        · rw [if_neg es, if_pos es'] at he
          exact absurd (h.tinj s t a ht he) b
        · rw [tokLive_append_old (by rw [hlk]; omega)] at hl'
          rw [if_neg es, if_neg es'] at he
          exact h.tinj s s' a (tokLive_kill hl').1 he
    lim := fun b hbb => by
      rw [hsz] at hbb
      simp only [Gh.token, Gh.row]
      have := htok.2.1
      rw [if_neg (by omega)]
      exact h.lim b hbb }

end Go.Proofs.Ytmcadfejkcpblaa.Q
