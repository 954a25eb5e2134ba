/- A loop over a function: its record. -/
import Derived.Test.YtmcadfejkcpblaaQgm
import Derived.RangeFuncRecord
set_option linter.unusedVariables false
set_option linter.unusedSimpArgs false
namespace Go.Proofs.Ytmcadfejkcpblaa.Q
open Go Go.RowKit

section
variable {P : Program} {base : Nat} {w0 : World} {g : Gh} {σ : St} {w : World}

/-- A loop's record is another; it lies where it lay. -/
theorem Rel.loopSet (h : Rel base w0 g σ w) {r : Nat} {o : Ob} (hr : σ.objs[r]? = some o) (hd : ∀ h : o.gone, False) {rec : Loop} (hb : base ≤ g.ρ r) (hL : g.L (g.ρ r) = 0) (hh : w.heap[g.ρ r]? = some (.loop rec)) (x : Loop) (o' : Ob) (hnu : ¬ o' = .unb)
    (hok : Ext g σ.toks w g σ.toks (w.putObj (g.ρ r) (.loop x)) → (w.putObj (g.ρ r) (.loop x)).heap[g.ρ r]? = some (.loop x) → ObjOk base g σ.toks (w.putObj (g.ρ r) (.loop x)) r o') :
    Ext g σ.toks w g σ.toks (w.putObj (g.ρ r) (.loop x)) ∧ Rel base w0 g ⟨σ.objs.set r o', σ.toks⟩ (w.putObj (g.ρ r) (.loop x)) := by
  have hlt := (Array.getElem?_eq_some_iff.1 hh).1
  have halr : aliveAt σ.objs r := ⟨_, hr, hd⟩
  have other : ∀ k, k ≠ g.ρ r → (w.putObj (g.ρ r) (.loop x)).heap[k]? = w.heap[k]? := fun k hk => World.putObj_heap_other hk
  have same : (w.putObj (g.ρ r) (.loop x)).heap[g.ρ r]? = some (.loop x) := World.putObj_heap_same hlt
  have E : Ext g σ.toks w g σ.toks (w.putObj (g.ρ r) (.loop x)) := {
    n := Nat.le_refl _
    has := fun _ h => h
    ρ := fun _ _ => rfl
    ob := fun _ _ => rfl
    L := fun _ => Nat.le_refl _
    cells := fun b q hlo => by
      by_cases eb : b = g.ρ r
      · subst eb; rw [hL] at hlo; omega
      · exact cell?_heap (other b eb) q
    shape := fun b c ty fr hbb => by
      by_cases eb : b = g.ρ r
      · subst eb; rw [hh] at hbb; cases hbb
      · exact ⟨c, fr, (other b eb).trans hbb, rfl, .inl rfl⟩
    nt := Nat.le_refl _
    tok := fun s _ hl => ⟨hl, rfl, rfl⟩
    dfr := fun b x hbb => by
      by_cases eb : b = g.ρ r
      · subst eb; rw [hh] at hbb; cases hbb
      · exact (other b eb).trans hbb }
  refine ⟨E, ?_⟩
  exact {
    below := h.below.trans ⟨rfl, rfl, rfl, by simp, fun i hi => other i (by omega)⟩
    bs := by simpa using h.bs
    n := by simpa using h.n
    hid := fun k => by
      by_cases e : r = k
      · subst e
        rw [List.getElem?_set_self (List.getElem?_eq_some_iff.1 hr).1, h.hid, hr]
        constructor
        · intro h; injection h with h; subst h; exact (hd trivial).elim
        · intro h; injection h with h; exact (hnu h).elim
      · rw [List.getElem?_set_ne e]
        exact h.hid k
    obj := fun k o2 hk2 => by
      rw [List.getElem?_set] at hk2
      by_cases ek : r = k
      · subst ek
        rw [if_pos rfl] at hk2
        split at hk2
        · injection hk2 with hk2
          subst hk2
          exact hok E same
        · cases hk2
      · rw [if_neg ek] at hk2
        by_cases hdd : o2.gone
        · exact ObjOk.gone hdd
        · have hne : g.ρ k ≠ g.ρ r := fun ee => ek (h.inj k r ⟨o2, hk2, hdd⟩ halr ee).symm
          exact (h.obj k o2 hk2).ext E (h.hasO hk2) (other _ hne) rfl
    inj := fun a b ha hb' => h.inj a b (alive_set hr hd ha) (alive_set hr hd hb')
    tok := fun t ht => by
      obtain ⟨h1, h2, h3⟩ := h.tok t ht
      exact ⟨h1, by simpa using h2, fun a ha => h3 a (alive_set hr hd ha)⟩
    tinj := h.tinj
    lim := fun b hb' => h.lim b (by simpa using hb') }

/-- A loop begins. -/
theorem Rel.loopNew (h : Rel base w0 g σ w) {tm : List V} {us : Array Value} (hT : VRs g σ.toks w tm us.toList) (fn : Nat) (ps : Array Tmp) (asg body : Code) :
    ∃ g', Ext g σ.toks w g' σ.toks ((w.alloc (.deferred (some []))).alloc (.loop { state := .ready, pending := none, fn := fn, tmps := us, params := ps, assign := asg, body := body, defers := w.heap.size })) ∧
      Rel base w0 g' ⟨σ.objs ++ [.lp tm ps asg body], σ.toks⟩ ((w.alloc (.deferred (some []))).alloc (.loop { state := .ready, pending := none, fn := fn, tmps := us, params := ps, assign := asg, body := body, defers := w.heap.size })) ∧
      g'.has σ.objs.length ∧ g'.ρ σ.objs.length = w.heap.size + 1 := by
  have E1 := Ext.row h (.deferred (some [])) 0
  have R1 := h.row (.deferred (some [])) 0
  have E2 := Ext.obj R1 (.loop { state := .ready, pending := none, fn := fn, tmps := us, params := ps, assign := asg, body := body, defers := w.heap.size })
  have hs : (w.alloc (.deferred (some []))).heap.size = w.heap.size + 1 := World.size_alloc _ _
  have E := E1.trans E2
  refine ⟨_, E, R1.newA _ (.lp tm ps asg body) ?_ (by intro h; cases h), ?_, ?_⟩
  · simp only [ObjOk]
    have hn : σ.objs.length = (g.row w.heap.size 0).n := h.n.symm
    have hρ : ((g.row w.heap.size 0).obj (w.alloc (.deferred (some []))).heap.size).ρ σ.objs.length = (w.alloc (.deferred (some []))).heap.size := by
      simp only [Gh.obj]; rw [if_pos hn]
    rw [hρ]
    refine ⟨by rw [hs]; have := h.bs; omega, ?_, fn, w.heap.size, us.toList, ?_, VRs.ext E _ hT⟩
    · exact R1.lim _ (Nat.le_refl _)
    · rw [heap_alloc_eq]
  · have hn : σ.objs.length = (g.row w.heap.size 0).n := h.n.symm
    refine ⟨by simp only [Gh.obj]; rw [hn]; exact Nat.lt_succ_self _, ?_⟩
    simp only [Gh.obj]; rw [if_pos hn]
  · have hn : σ.objs.length = (g.row w.heap.size 0).n := h.n.symm
    simp only [Gh.obj]; rw [if_pos hn, hs]
/-- A mark is taken: its block is shut. -/
theorem Rel.spend (h : Rel base w0 g σ w) {D : Nat} (hD : w.heap[D]? = some (.deferred (some []))) (hb : base ≤ D) :
    Ext0 g σ.toks w g σ.toks (w.putObj D (.deferred none)) ∧ Rel base w0 g σ (w.putObj D (.deferred none)) := by
  have other : ∀ k, k ≠ D → (w.putObj D (.deferred none)).heap[k]? = w.heap[k]? := fun k hk => World.putObj_heap_other hk
  have hlt := (Array.getElem?_eq_some_iff.1 hD).1
  have same : (w.putObj D (.deferred none)).heap[D]? = some (.deferred none) := World.putObj_heap_same hlt
  have E : Ext0 g σ.toks w g σ.toks (w.putObj D (.deferred none)) := {
    n := Nat.le_refl _
    has := fun _ h => h
    ρ := fun _ _ => rfl
    ob := fun _ _ => rfl
    L := fun _ => Nat.le_refl _
    cells := fun b q hlo => by
      by_cases eb : b = D
      · subst eb; simp only [World.cell?, hD, same]
      · exact cell?_heap (other b eb) q
    shape := fun b c ty fr hbb => by
      by_cases eb : b = D
      · subst eb; rw [hD] at hbb; cases hbb
      · exact ⟨c, fr, (other b eb).trans hbb, rfl, .inl rfl⟩
    nt := Nat.le_refl _
    tok := fun s _ hl => ⟨hl, rfl, rfl⟩ }
  refine ⟨E, {
    below := h.below.trans ⟨rfl, rfl, rfl, by simp, fun i hi => other i (by omega)⟩
    bs := by simpa using h.bs
    n := h.n
    hid := h.hid
    obj := fun k o hk => by
      by_cases hdd : o.gone
      · exact ObjOk.gone hdd
      · have ho := h.obj k o hk
        have hne : g.ρ k ≠ D := fun e => by
          cases o with
          | dead => exact hdd trivial
          | unb => exact hdd trivial
          | cells cs => obtain ⟨_, _, c, ty, us, h3, _⟩ := ho; rw [e, hD] at h3; cases h3
          | tcells t cs => obtain ⟨_, _, _, us, h3, _⟩ := ho; rw [e, hD] at h3; cases h3
          | mp es => obtain ⟨_, _, a, cl, h3, _⟩ := ho; rw [e, hD] at h3; cases h3
          | lp tm ps asg body => obtain ⟨_, _, fn, df, us, h3, _⟩ := ho; rw [e, hD] at h3; cases h3
          | lpB tm ps asg body => obtain ⟨_, _, fn, df, us, h3, _⟩ := ho; rw [e, hD] at h3; cases h3
          | lpD c => obtain ⟨_, _, rec, h3, _⟩ := ho; rw [e, hD] at h3; cases h3
        exact ho.ext0 E (h.hasO hk) (other _ hne) rfl
    inj := h.inj
    tok := fun t ht => by
      obtain ⟨h1, h2, h3⟩ := h.tok t ht
      exact ⟨h1, by simpa using h2, h3⟩
    tinj := h.tinj
    lim := fun b hb' => h.lim b (by simpa using hb') }⟩
end
end Go.Proofs.Ytmcadfejkcpblaa.Q
