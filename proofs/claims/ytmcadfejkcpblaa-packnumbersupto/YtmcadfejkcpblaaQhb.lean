/- Objects that are yet to be born: two variables that are made side by side. -/
import Derived.Test.YtmcadfejkcpblaaQh
set_option linter.unusedVariables false
namespace Go.Proofs.Ytmcadfejkcpblaa.Q
open Go Go.RowKit

def Gh.hide (g : Gh) : Gh := { g with n := g.n + 1, hid := fun r => if r = g.n then true else g.hid r }
theorem Ext.hide (g : Gh) (s : List Bool) (w : World) : Ext g s w g.hide s w where
  n := Nat.le_succ _
  has r h := ⟨Nat.lt_succ_of_lt h.1, by simp only [Gh.hide]; rw [if_neg (by have := h.1; omega)]; exact h.2⟩
  ρ _ _ := rfl
  ob _ _ := rfl
  L _ := Nat.le_refl _
  cells _ _ _ := rfl
  shape _ c _ fr h := ⟨c, fr, h, rfl, .inl rfl⟩
  dfr _ _ h := h
  nt := Nat.le_refl _
  tok _ _ h := ⟨h, rfl, rfl⟩
section
variable {P : Program} {base : Nat} {w0 : World} {g : Gh} {σ : St} {w : World}
theorem alive_hide {objs : List Ob} {r : Nat} (h : aliveAt (objs ++ [Ob.unb]) r) : aliveAt objs r := by
  rcases alive_append h with h1 | h1
  · exact h1
  · obtain ⟨o, ho, hd⟩ := h
    rw [h1] at ho
    simp at ho
    subst ho
    exact (hd trivial).elim
theorem Rel.hide (h : Rel base w0 g σ w) : Rel base w0 g.hide ⟨σ.objs ++ [.unb], σ.toks⟩ w where
  below := h.below
  bs := h.bs
  n := by simp [Gh.hide, h.n]
  hid r := by
    simp only [Gh.hide]
    by_cases e : r = g.n
    · rw [if_pos e, e, h.n]; simp
    · rw [if_neg e, h.hid r]
      rcases Nat.lt_or_ge r σ.objs.length with h1 | h1
      · rw [List.getElem?_append_left h1]
      · rw [List.getElem?_eq_none h1, List.getElem?_eq_none (by simp; have := h.n; omega)]
  obj r o ho := by
    rcases Nat.lt_or_ge r σ.objs.length with h1 | h1
    · rw [List.getElem?_append_left h1] at ho
      exact (h.obj r o ho).ext (Ext.hide g σ.toks w) (h.hasO ho) rfl rfl
    · have : o = .unb := by
        have h2 := (List.getElem?_eq_some_iff.1 ho).1
        simp only [List.length_append, List.length_singleton] at h2
        have : r = σ.objs.length := by omega
        subst this
        simp at ho
        exact ho.symm
      subst this
      trivial
  inj r r' hr hr' := h.inj r r' (alive_hide hr) (alive_hide hr')
  tok t ht := by
    obtain ⟨h1, h2, h3⟩ := h.tok t ht
    exact ⟨h1, h2, fun r hr => h3 r (alive_hide hr)⟩
  tinj := h.tinj
  lim := h.lim

def Gh.born (g : Gh) (r B : Nat) : Gh := { g with hid := fun k => if k = r then false else g.hid k, ρ := fun k => if k = r then B else g.ρ k, ob := fun k => if k = r then 0 else g.ob k }
theorem Ext.born (h : Rel base w0 g σ w) {r : Nat} (hr : g.hid r = true) (x : Obj) : Ext g σ.toks w (g.born r w.heap.size) σ.toks (w.alloc x) where
  n := Nat.le_refl _
  has k hk := ⟨hk.1, by simp only [Gh.born]; split; rfl; exact hk.2⟩
  ρ k hk := by
    have : k ≠ r := fun e => by subst e; rw [hk.2] at hr; cases hr
    simp only [Gh.born]; rw [if_neg this]
  ob k hk := by
    have : k ≠ r := fun e => by subst e; rw [hk.2] at hr; cases hr
    simp only [Gh.born]; rw [if_neg this]
  L _ := Nat.le_refl _
  cells b o' ho := by
    have hb : b < w.heap.size := by
      rcases Nat.lt_or_ge b w.heap.size with h1 | h1
      · exact h1
      · rw [h.lim b h1] at ho; omega
    exact World.cell?_alloc_lt (a := ⟨b, o', none⟩) _ _ hb
  shape b c t fr hb := ⟨c, fr, by rw [heap_alloc_lt _ _ _ (Array.getElem?_eq_some_iff.1 hb).1]; exact hb, rfl, .inl rfl⟩
  dfr b x hb := by rw [heap_alloc_lt _ _ _ (Array.getElem?_eq_some_iff.1 hb).1]; exact hb
  nt := Nat.le_refl _
  tok t ht hl := ⟨hl, rfl, rfl⟩
theorem alive_set2 {objs : List Ob} {r a : Nat} {o : Ob} (h : aliveAt (objs.set r o) a) : a = r ∨ (a ≠ r ∧ aliveAt objs a) := by
  by_cases e : a = r
  · exact .inl e
  · obtain ⟨p, hp, hd⟩ := h
    rw [List.getElem?_set_ne (fun h => e h.symm)] at hp
    exact .inr ⟨e, p, hp, hd⟩
theorem Rel.bornA (h : Rel base w0 g σ w) {r : Nat} (hr : g.hid r = true) (x : Obj) (o : Ob) (hok : ObjOk base (g.born r w.heap.size) σ.toks (w.alloc x) r o) (hnu : ¬ o = .unb := by intro h; cases h) :
    Rel base w0 (g.born r w.heap.size) ⟨σ.objs.set r o, σ.toks⟩ (w.alloc x) where
  below := h.below.alloc h.bs _
  bs := by rw [World.size_alloc]; have := h.bs; omega
  n := by simpa [Gh.born] using h.n
  hid k := by
    simp only [Gh.born]
    by_cases e : k = r
    · subst e
      rw [if_pos rfl, List.getElem?_set_self (List.getElem?_eq_some_iff.1 ((h.hid k).1 hr)).1]
      constructor
      · intro h; cases h
      · intro h; injection h with h; exact absurd h hnu
    · rw [if_neg e, List.getElem?_set_ne (fun h => e h.symm)]
      exact h.hid k
  obj k ob hk := by
    have hrl := (List.getElem?_eq_some_iff.1 ((h.hid r).1 hr)).1
    by_cases e : k = r
    · subst e
      rw [List.getElem?_set_self hrl] at hk
      injection hk with hk
      subst hk
      exact hok
    · rw [List.getElem?_set_ne (fun h => e h.symm)] at hk
      by_cases hd : ob.gone
      · exact ObjOk.gone hd
      · have hlt := (h.obj k ob hk).lt hd
        exact (h.obj k ob hk).ext (Ext.born h hr x) (h.hasO hk) (heap_alloc_lt _ _ _ hlt) rfl
  inj a b ha hb he := by
    simp only [Gh.born] at he
    rcases alive_set2 ha with h1 | ⟨h1, h2⟩ <;> rcases alive_set2 hb with h3 | ⟨h3, h4⟩
    · omega
    · rw [if_pos h1, if_neg h3] at he
      have := h.alive_block h4
      omega
    · rw [if_neg h1, if_pos h3] at he
      have := h.alive_block h2
      omega
    · rw [if_neg h1, if_neg h3] at he
      exact h.inj a b h2 h4 he
  tok t hl := by
    obtain ⟨h1, h2, h3⟩ := h.tok t hl
    refine ⟨h1, by rw [World.size_alloc]; exact Nat.lt_succ_of_lt h2, fun k hk => ?_⟩
    simp only [Gh.born]
    rcases alive_set2 hk with h4 | ⟨h4, h5⟩
    · rw [if_pos h4]; omega
    · rw [if_neg h4]; exact h3 k h5
  tinj := h.tinj
  lim b hb := h.lim b (by rw [World.size_alloc] at hb; omega)

/-- What a variable's making leaves, wherever. -/
theorem valloc_any {t : TypeId} {v : V} {σ' : St} (h : valloc P σ t = some (v, σ')) : ∃ z o, zeroT P t = some z ∧ v = .optr σ.objs.length 0 ∧ σ' = ⟨σ.objs ++ [o], σ.toks⟩ ∧ (o = .cells (vcells z) ∨ o = .tcells t (vcells z)) ∧ ∀ τ : St, valloc P τ t = some (.optr τ.objs.length 0, ⟨τ.objs ++ [o], τ.toks⟩) := by
  unfold valloc at h
  split at h
  · rename_i hs
    rw [Option.map_eq_some_iff] at h
    obtain ⟨z, hz, e⟩ := h
    injection e with e1 e2
    exact ⟨z, .tcells t (vcells z), hz, e1.symm, e2.symm, .inr rfl, fun τ => by unfold valloc; rw [if_pos hs, hz]; rfl⟩
  · rename_i hs
    rw [Option.map_eq_some_iff] at h
    obtain ⟨z, hz, e⟩ := h
    injection e with e1 e2
    exact ⟨z, .cells (vcells z), hz, e1.symm, e2.symm, .inl rfl, fun τ => by unfold valloc; rw [if_neg hs, hz]; rfl⟩

theorem alloc_born (h : Rel base w0 g σ w) {r : Nat} (hr : g.hid r = true) {a : Act} {o : Oper} {t : TypeId} (ho : o.op = .alloc t) {z : V} (hz : zeroT P t = some z) {ob : Ob} (hob : ob = .cells (vcells z) ∨ ob = .tcells t (vcells z)) :
    OOk P base w0 g σ w (execOp a.eval o) (.optr r 0) ⟨σ.objs.set r ob, σ.toks⟩ := by
  obtain ⟨u, hu, hou⟩ := run_zeroT hz
  have hv := vcells_ok (ofVal_ok (g := g) (s := σ.toks) (w := w) hou)
  have hrn : r < g.n := by rw [h.n]; exact (List.getElem?_eq_some_iff.1 ((h.hid r).1 hr)).1
  unfold execOp
  rw [ho]
  have E := Ext.born h hr (.cells u.cells t)
  have e1 : (g.born r w.heap.size).ρ r = w.heap.size := by simp [Gh.born]
  have e2 : (g.born r w.heap.size).ob r = 0 := by simp [Gh.born]
  refine ⟨.value (.pointer (some ⟨w.heap.size, 0, none⟩)), .pointer (some ⟨w.heap.size, 0, none⟩), w.alloc (.cells u.cells t), g.born r w.heap.size, by simp [Instr.alloc, hu, newVar, newRow, newObj, Sem.run], .inl rfl, E, h.bornA hr _ _ ?_ (by rcases hob with rfl | rfl <;> (intro h; cases h)), ?_⟩
  · rcases hob with rfl | rfl
    · simp only [ObjOk]
      rw [e1, e2]
      exact ⟨h.bs, h.lim _ (Nat.le_refl _), u.cells, t, u.cells.toList, heap_alloc_eq _ _, VRs.ext E _ hv, by simp, fun i u hu => by simpa using hu⟩
    · simp only [ObjOk]
      rw [e1, e2]
      exact ⟨h.bs, h.lim _ (Nat.le_refl _), rfl, u.cells.toList, heap_alloc_eq _ _, VRs.ext E _ hv⟩
  · simp [VR, Gh.born, Gh.has, hrn]

theorem vload_ext {objs : List Ob} {t : TypeId} {x v : V} (h : vload P objs t x = some v) (xs : List Ob) : vload P (objs ++ xs) t x = some v := by
  unfold vload at h ⊢
  have key : ∀ p, vcellsAt objs x = some p → vcellsAt (objs ++ xs) x = some p := by
    intro p hp
    unfold vcellsAt at hp ⊢
    split at hp
    · rename_i r off
      have : ∀ o, objs[r]? = some o → (objs ++ xs)[r]? = some o := fun o ho => by rw [List.getElem?_append_left (List.getElem?_eq_some_iff.1 ho).1]; exact ho
      split at hp
      · rename_i cs hc; simp only [this _ hc]; exact hp
      · rename_i cs hc; simp only [this _ hc]; exact hp
      · cases hp
    · exact hp
    · cases hp
  split at h
  · rename_i cs off hc
    rw [key _ hc]
    exact h
  · cases h
end
end Go.Proofs.Ytmcadfejkcpblaa.Q
