/- A part of the proof: Qa, Qb, Qc, Qd, Qe, Qf, Qg, Qgm. -/
import Derived.Test.YtnegdinonfjdfaaDoorProg
import Derived.Below
import Derived.RowKit3
import Derived.Laws.AppendOwn
import Derived.Laws.OwnMore
import Derived.Laws.MakeOwn
import Derived.Deep.AppendLies
import Derived.Maps.AppendAt
import Derived.Calls
import Derived.Tactics
import Derived.KernelRfl
import Derived.Laws.StructEq
import Derived.Laws.BytesArg
import Derived.Lib.ConvBytes
import Derived.Lib.AppendStr
import Derived.Laws.Tables
import Derived.Laws.CopyRow
import Derived.MapKept
set_option linter.unusedVariables false
set_option linter.unusedSimpArgs false
namespace Go.Proofs.YtnegdinonfjdfaaDoor.Q
open Go Go.RowKit
inductive Perm where
  | ro | exact | tok (t : Nat) (e : TypeId)
  deriving DecidableEq
inductive V where
  | bool (b : Bool)
  | int (k : IntKind) (n : Int)
  | str (s : List UInt8)
  | nilp
  | optr (r off : Nat)
  | eptr (cs : List V) (off : Nat)
  | nils
  | slice (p : Perm) (esz : Nat) (cs : List V) (len : Nat)
  | hslice (r off esz len : Nat)
  | hfull (r off esz len : Nat)
  | func (f : FuncId) (caps : List V)
  | nilf
  | iface (t : TypeId) (v : V)
  | nili
  | agg (cs : List V)
  | tuple (vs : List V)
  | nilm
  | omap (r : Nat)
  | yld (r : Nat)
  deriving Inhabited
structure Gh where
  n : Nat
  hid : Nat → Bool
  ρ : Nat → Nat
  ob : Nat → Nat
  L : Nat → Nat
  tk : Nat → Nat
def Gh.has (g : Gh) (r : Nat) : Prop := r < g.n ∧ g.hid r = false
def World.bsize (w : World) (b : Nat) : Nat := match w.heap[b]? with | some (.cells c _ _) => c.size | _ => 0
def tokLive (toks : List Bool) (t : Nat) : Bool := toks.getD t false
def RowAt (g : Gh) (w : World) (b o : Nat) (us : List Value) : Prop :=
  o + us.length ≤ g.L b ∧ ∀ i u, us[i]? = some u → w.cell? ⟨b, o + i, none⟩ = some u
def RowA (g : Gh) (w : World) (ad : Addr) (us : List Value) : Prop :=
  us ≠ [] → ad.spot = none ∧ RowAt g w ad.block ad.off us
def PermOk (g : Gh) (toks : List Bool) (w : World) (ad : Addr) (cap esz len : Nat) : Perm → Prop
  | .ro => True
  | .exact => cap = len
  | .tok t e => t < toks.length ∧ (tokLive toks t = true → ad = ⟨g.tk t, 0, none⟩ ∧ len * esz = g.L (g.tk t) ∧ ∃ cur, w.heap[g.tk t]? = some (.cells cur e (0, 0)) ∧ cur.size = cap * esz)
mutual
def VR (g : Gh) (toks : List Bool) (w : World) : V → Value → Prop
  | .bool b, x => x = .bool b
  | .int k n, x => x = .int k n
  | .str s, x => x = .string ⟨s.toArray⟩
  | .nilp, x => x = .pointer none
  | .optr r off, x => g.has r ∧ x = .pointer (some ⟨g.ρ r, g.ob r + off, none⟩)
  | .eptr cs off, x => ∃ b o us, x = .pointer (some ⟨b, o + off, none⟩) ∧ RowAt g w b o us ∧ VRs g toks w cs us
  | .nils, x => x = .slice none 0 0
  | .slice p esz cs len, x => ∃ ad cap us, x = .slice (some ad) len cap ∧ cs.length = len * esz ∧ len ≤ cap ∧ cap ≤ maxLen ∧ RowA g w ad us ∧ VRs g toks w cs us ∧ PermOk g toks w ad cap esz len p
  | .hslice r off esz len, x => g.has r ∧ ∃ cap, x = .slice (some ⟨g.ρ r, g.ob r + off, none⟩) len cap ∧ len ≤ cap ∧ cap ≤ maxLen ∧ g.ob r + off + cap * esz ≤ World.bsize w (g.ρ r)
  | .hfull r off esz len, x => g.has r ∧ x = .slice (some ⟨g.ρ r, g.ob r + off, none⟩) len len ∧ len ≤ maxLen ∧ g.ob r + off + len * esz ≤ World.bsize w (g.ρ r)
  | .func f caps, x => ∃ us, x = .func (.func f) #[] us.toArray ∧ VRs g toks w caps us
  | .nilf, x => x = .nilFunc
  | .iface t v, x => ∃ u, x = .iface t u ∧ VR g toks w v u
  | .nili, x => x = .nilIface
  | .agg cs, x => ∃ us, x = .agg us.toArray ∧ VRs g toks w cs us
  | .tuple vs, x => ∃ us, x = .tuple us.toArray ∧ VRs g toks w vs us
  | .nilm, x => x = .map none
  | .omap r, x => g.has r ∧ x = .map (some (g.ρ r))
  | .yld r, x => g.has r ∧ x = .func (.yield (g.ρ r)) #[] #[]
def VRs (g : Gh) (toks : List Bool) (w : World) : List V → List Value → Prop
  | [], us => us = []
  | v :: vs, us => ∃ u us', us = u :: us' ∧ VR g toks w v u ∧ VRs g toks w vs us'
end
structure Ext0 (g : Gh) (toks : List Bool) (w : World) (g' : Gh) (toks' : List Bool) (w' : World) : Prop where
  n : g.n ≤ g'.n
  has : ∀ r, g.has r → g'.has r
  ρ : ∀ r, g.has r → g'.ρ r = g.ρ r
  ob : ∀ r, g.has r → g'.ob r = g.ob r
  L : ∀ b, g.L b ≤ g'.L b
  cells : ∀ b o, o < g.L b → w'.cell? ⟨b, o, none⟩ = w.cell? ⟨b, o, none⟩
  shape : ∀ (b : Nat) (c : Array Value) (t : TypeId) (fr : Nat × Nat), w.heap[b]? = some (Obj.cells c t fr) → ∃ (c' : Array Value) (fr' : Nat × Nat), w'.heap[b]? = some (Obj.cells c' t fr') ∧ c'.size = c.size ∧ (fr' = fr ∨ ∀ t, t < toks.length → tokLive toks' t = true → g.tk t ≠ b)
  nt : toks.length ≤ toks'.length
  tok : ∀ t, t < toks.length → tokLive toks' t = true → tokLive toks t = true ∧ g'.tk t = g.tk t ∧ g'.L (g.tk t) = g.L (g.tk t)
structure Ext (g : Gh) (toks : List Bool) (w : World) (g' : Gh) (toks' : List Bool) (w' : World) : Prop extends Ext0 g toks w g' toks' w' where
  dfr : ∀ (b : Nat) (x : Option (List Deferred)), w.heap[b]? = some (.deferred x) → w'.heap[b]? = some (.deferred x)
theorem Ext.bsize {g g' : Gh} {s s' : List Bool} {w w' : World} (e : ∀ (b : Nat) (c : Array Value) (t : TypeId) (fr : Nat × Nat), w.heap[b]? = some (Obj.cells c t fr) → ∃ (c' : Array Value) (fr' : Nat × Nat), w'.heap[b]? = some (Obj.cells c' t fr') ∧ c'.size = c.size ∧ (fr' = fr ∨ ∀ t, t < s.length → tokLive s' t = true → g.tk t ≠ b)) (b : Nat) : World.bsize w b ≤ World.bsize w' b := by
  unfold World.bsize
  split
  · rename_i c t fr h
    obtain ⟨c', fr', h', hs, _⟩ := e b c t fr h
    rw [h']
    simp only
    omega
  · exact Nat.zero_le _
theorem Ext.refl (g : Gh) (toks : List Bool) (w : World) : Ext g toks w g toks w :=
  ⟨⟨Nat.le_refl _, fun _ h => h, fun _ _ => rfl, fun _ _ => rfl, fun _ => Nat.le_refl _, fun _ _ _ => rfl, fun _ c _ fr h => ⟨c, fr, h, rfl, .inl rfl⟩, Nat.le_refl _, fun _ _ h => ⟨h, rfl, rfl⟩⟩, fun _ _ h => h⟩
theorem Ext0.trans0 {g g1 g2 : Gh} {s s1 s2 : List Bool} {w w1 w2 : World} (a : Ext0 g s w g1 s1 w1) (b : Ext0 g1 s1 w1 g2 s2 w2) : Ext0 g s w g2 s2 w2 where
  n := Nat.le_trans a.n b.n
  has r h := b.has r (a.has r h)
  ρ r h := (b.ρ r (a.has r h)).trans (a.ρ r h)
  ob r h := (b.ob r (a.has r h)).trans (a.ob r h)
  L k := Nat.le_trans (a.L k) (b.L k)
  cells k o h := (b.cells k o (Nat.lt_of_lt_of_le h (a.L k))).trans (a.cells k o h)
  shape k c t fr h := by
    obtain ⟨c1, fr1, h1, s1, f1⟩ := a.shape k c t fr h
    obtain ⟨c2, fr2, h2, s2, f2⟩ := b.shape k c1 t fr1 h1
    refine ⟨c2, fr2, h2, s2.trans s1, ?_⟩
    rcases f2 with rfl | f2
    · rcases f1 with rfl | f1
      · exact .inl rfl
      · exact .inr fun u hu hl => f1 u hu (b.tok u (Nat.lt_of_lt_of_le hu a.nt) hl).1
    · refine .inr fun u hu hl => ?_
      have hu1 := Nat.lt_of_lt_of_le hu a.nt
      have := f2 u hu1 hl
      rwa [(a.tok u hu (b.tok u hu1 hl).1).2.1] at this
  nt := Nat.le_trans a.nt b.nt
  tok t h h2 := by
    obtain ⟨l1, t1, e1⟩ := b.tok t (Nat.lt_of_lt_of_le h a.nt) h2
    obtain ⟨l0, t0, e0⟩ := a.tok t h l1
    rw [t0] at e1 t1
    exact ⟨l0, t1, e1.trans e0⟩
theorem Ext.trans {g g1 g2 : Gh} {s s1 s2 : List Bool} {w w1 w2 : World} (a : Ext g s w g1 s1 w1) (b : Ext g1 s1 w1 g2 s2 w2) : Ext g s w g2 s2 w2 where
  n := Nat.le_trans a.n b.n
  has r h := b.has r (a.has r h)
  ρ r h := (b.ρ r (a.has r h)).trans (a.ρ r h)
  ob r h := (b.ob r (a.has r h)).trans (a.ob r h)
  L k := Nat.le_trans (a.L k) (b.L k)
  cells k o h := (b.cells k o (Nat.lt_of_lt_of_le h (a.L k))).trans (a.cells k o h)
  shape k c t fr h := by
    obtain ⟨c1, fr1, h1, s1, f1⟩ := a.shape k c t fr h
    obtain ⟨c2, fr2, h2, s2, f2⟩ := b.shape k c1 t fr1 h1
    refine ⟨c2, fr2, h2, s2.trans s1, ?_⟩
    rcases f2 with rfl | f2
    · rcases f1 with rfl | f1
      · exact .inl rfl
      · exact .inr fun u hu hl => f1 u hu (b.tok u (Nat.lt_of_lt_of_le hu a.nt) hl).1
    · refine .inr fun u hu hl => ?_
      have hu1 := Nat.lt_of_lt_of_le hu a.nt
      have := f2 u hu1 hl
      rwa [(a.tok u hu (b.tok u hu1 hl).1).2.1] at this
  nt := Nat.le_trans a.nt b.nt
  tok t h h2 := by
    obtain ⟨l1, t1, e1⟩ := b.tok t (Nat.lt_of_lt_of_le h a.nt) h2
    obtain ⟨l0, t0, e0⟩ := a.tok t h l1
    rw [t0] at e1 t1
    exact ⟨l0, t1, e1.trans e0⟩
  dfr k x h := b.dfr k x (a.dfr k x h)
theorem RowAt.ext0 {g g' : Gh} {s s' : List Bool} {w w' : World} (e : Ext0 g s w g' s' w') {b o : Nat} {us : List Value} (h : RowAt g w b o us) : RowAt g' w' b o us := by
  refine ⟨Nat.le_trans h.1 (e.L b), fun i u hu => ?_⟩
  have hi : i < us.length := by
    rcases Nat.lt_or_ge i us.length with h | h
    · exact h
    · simp [List.getElem?_eq_none h] at hu
  rw [e.cells b (o + i) (by have := h.1; omega)]
  exact h.2 i u hu
theorem RowA.ext0 {g g' : Gh} {s s' : List Bool} {w w' : World} (e : Ext0 g s w g' s' w') {ad : Addr} {us : List Value} (h : RowA g w ad us) : RowA g' w' ad us :=
  fun hne => ⟨(h hne).1, (h hne).2.ext0 e⟩
theorem RowA.cell {g : Gh} {w : World} {ad : Addr} {us : List Value} (h : RowA g w ad us) (i : Nat) (u : Value) (hu : us[i]? = some u) : w.cell? (ad.add i) = some u := by
  obtain ⟨hs, hr⟩ := h (fun e => by subst e; simp at hu)
  obtain ⟨b, o, sp⟩ := ad
  simp only at hs hr
  subst hs
  have := hr.2 i u hu
  unfold Addr.add
  split
  · rename_i h0; subst h0; exact this
  · exact this
theorem PermOk.ext0 {g g' : Gh} {s s' : List Bool} {w w' : World} (e : Ext0 g s w g' s' w') {ad : Addr} {cap esz len : Nat} {p : Perm} (h : PermOk g s w ad cap esz len p) : PermOk g' s' w' ad cap esz len p := by
  cases p with
  | ro => trivial
  | exact => exact h
  | tok t ty =>
    refine ⟨Nat.lt_of_lt_of_le h.1 e.nt, fun hl => ?_⟩
    obtain ⟨l0, t0, e0⟩ := e.tok t h.1 hl
    obtain ⟨h1, h3, c, h4, h5⟩ := h.2 l0
    obtain ⟨c', fr', h6, h7, h8⟩ := e.shape _ c ty (0, 0) h4
    rw [t0]
    rcases h8 with rfl | h8
    · exact ⟨h1, by rw [e0]; exact h3, c', h6, h7.trans h5⟩
    · exact absurd rfl (h8 t h.1 hl)
mutual
theorem VR.ext0 {g g' : Gh} {s s' : List Bool} {w w' : World} (e : Ext0 g s w g' s' w') : ∀ (v : V) {x : Value}, VR g s w v x → VR g' s' w' v x
  | .bool b, x, h => by simp only [VR] at h ⊢; exact h
  | .int k n, x, h => by simp only [VR] at h ⊢; exact h
  | .str _, x, h => by simp only [VR] at h ⊢; exact h
  | .nilp, x, h => by simp only [VR] at h ⊢; exact h
  | .optr r off, x, h => by
    simp only [VR] at h ⊢
    exact ⟨e.has r h.1, by rw [e.ρ r h.1, e.ob r h.1]; exact h.2⟩
  | .eptr cs off, x, h => by
    simp only [VR] at h ⊢
    obtain ⟨b, o, us, hx, hr, hc⟩ := h
    exact ⟨b, o, us, hx, hr.ext0 e, VRs.ext0 e cs hc⟩
  | .nils, x, h => by simp only [VR] at h ⊢; exact h
  | .slice p esz cs len, x, h => by
    simp only [VR] at h ⊢
    obtain ⟨ad, cap, us, hx, hl, hc, hm, hr, hs, hp⟩ := h
    exact ⟨ad, cap, us, hx, hl, hc, hm, hr.ext0 e, VRs.ext0 e cs hs, hp.ext0 e⟩
  | .hslice r off esz len, x, h => by
    simp only [VR] at h ⊢
    obtain ⟨hr, cap, hx, hc, hm, hb⟩ := h
    exact ⟨e.has r hr, cap, by rw [e.ρ r hr, e.ob r hr]; exact hx, hc, hm, by rw [e.ρ r hr, e.ob r hr]; exact Nat.le_trans hb (Ext.bsize (g := g) (g' := g') (s := s) (s' := s') e.shape _)⟩
  | .hfull r off esz len, x, h => by
    simp only [VR] at h ⊢
    obtain ⟨hr, hx, hm, hb⟩ := h
    exact ⟨e.has r hr, by rw [e.ρ r hr, e.ob r hr]; exact hx, hm, by rw [e.ρ r hr, e.ob r hr]; exact Nat.le_trans hb (Ext.bsize (g := g) (g' := g') (s := s) (s' := s') e.shape _)⟩
  | .func f caps, x, h => by
    simp only [VR] at h ⊢
    obtain ⟨us, hx, hc⟩ := h
    exact ⟨us, hx, VRs.ext0 e caps hc⟩
  | .nilf, x, h => by simp only [VR] at h ⊢; exact h
  | .iface t v, x, h => by
    simp only [VR] at h ⊢
    obtain ⟨u, hx, hc⟩ := h
    exact ⟨u, hx, VR.ext0 e v hc⟩
  | .nili, x, h => by simp only [VR] at h ⊢; exact h
  | .agg cs, x, h => by
    simp only [VR] at h ⊢
    obtain ⟨us, hx, hc⟩ := h
    exact ⟨us, hx, VRs.ext0 e cs hc⟩
  | .tuple cs, x, h => by
    simp only [VR] at h ⊢
    obtain ⟨us, hx, hc⟩ := h
    exact ⟨us, hx, VRs.ext0 e cs hc⟩
  | .nilm, x, h => by simp only [VR] at h ⊢; exact h
  | .omap r, x, h => by
    simp only [VR] at h ⊢
    exact ⟨e.has r h.1, by rw [e.ρ r h.1]; exact h.2⟩
  | .yld r, x, h => by
    simp only [VR] at h ⊢
    exact ⟨e.has r h.1, by rw [e.ρ r h.1]; exact h.2⟩
theorem VRs.ext0 {g g' : Gh} {s s' : List Bool} {w w' : World} (e : Ext0 g s w g' s' w') : ∀ (vs : List V) {us : List Value}, VRs g s w vs us → VRs g' s' w' vs us
  | [], us, h => by simp only [VRs] at h ⊢; exact h
  | v :: vs, us, h => by
    simp only [VRs] at h ⊢
    obtain ⟨u, us', hu, hv, hvs⟩ := h
    exact ⟨u, us', hu, VR.ext0 e v hv, VRs.ext0 e vs hvs⟩
end
theorem RowAt.ext {g g' : Gh} {s s' : List Bool} {w w' : World} (e : Ext g s w g' s' w') {b o : Nat} {us : List Value} (h : RowAt g w b o us) : RowAt g' w' b o us := h.ext0 e.toExt0
theorem RowA.ext {g g' : Gh} {s s' : List Bool} {w w' : World} (e : Ext g s w g' s' w') {ad : Addr} {us : List Value} (h : RowA g w ad us) : RowA g' w' ad us := h.ext0 e.toExt0
theorem PermOk.ext {g g' : Gh} {s s' : List Bool} {w w' : World} (e : Ext g s w g' s' w') {ad : Addr} {cap esz len : Nat} {p : Perm} (h : PermOk g s w ad cap esz len p) : PermOk g' s' w' ad cap esz len p := h.ext0 e.toExt0
theorem VR.ext {g g' : Gh} {s s' : List Bool} {w w' : World} (e : Ext g s w g' s' w') (v : V) {x : Value} (h : VR g s w v x) : VR g' s' w' v x := VR.ext0 e.toExt0 v h
theorem VRs.ext {g g' : Gh} {s s' : List Bool} {w w' : World} (e : Ext g s w g' s' w') (vs : List V) {us : List Value} (h : VRs g s w vs us) : VRs g' s' w' vs us := VRs.ext0 e.toExt0 vs h
section
variable {g : Gh} {s : List Bool} {w : World}
theorem VRs.length : ∀ {vs : List V} {us : List Value}, VRs g s w vs us → vs.length = us.length
  | [], us, h => by simp only [VRs] at h; subst h; rfl
  | v :: vs, us, h => by
    simp only [VRs] at h
    obtain ⟨u, us', rfl, _, h⟩ := h
    simp [VRs.length h]
theorem VRs.get : ∀ {vs : List V} {us : List Value} (i : Nat) {v : V}, VRs g s w vs us → vs[i]? = some v → ∃ u, us[i]? = some u ∧ VR g s w v u
  | [], us, i, v, h, hv => by simp at hv
  | x :: vs, us, 0, v, h, hv => by
    simp only [VRs] at h
    obtain ⟨u, us', rfl, h0, _⟩ := h
    simp at hv
    subst hv
    exact ⟨u, by simp, h0⟩
  | x :: vs, us, i + 1, v, h, hv => by
    simp only [VRs] at h
    obtain ⟨u, us', rfl, _, h⟩ := h
    simp at hv
    obtain ⟨u', hu, hr⟩ := VRs.get i h hv
    exact ⟨u', by simpa using hu, hr⟩
theorem VRs.of_get : ∀ {vs : List V} {us : List Value}, vs.length = us.length → (∀ (i : Nat) (v : V) (u : Value), vs[i]? = some v → us[i]? = some u → VR g s w v u) → VRs g s w vs us
  | [], us, hl, _ => by
    simp only [VRs]
    exact List.eq_nil_of_length_eq_zero hl.symm
  | x :: vs, [], hl, _ => by simp at hl
  | x :: vs, u :: us, hl, h => by
    simp only [VRs]
    exact ⟨u, us, rfl, h 0 x u rfl rfl, VRs.of_get (by simpa using hl) fun i v u hv hu => h (i + 1) v u (by simpa using hv) (by simpa using hu)⟩
theorem VRs.append {vs vs' : List V} {us us' : List Value} (h : VRs g s w vs us) (h' : VRs g s w vs' us') : VRs g s w (vs ++ vs') (us ++ us') := by
  induction vs generalizing us with
  | nil => simp only [VRs] at h; subst h; exact h'
  | cons v vs ih =>
    simp only [VRs] at h
    obtain ⟨u, us1, rfl, h0, h1⟩ := h
    simp only [List.cons_append, VRs]
    exact ⟨u, us1 ++ us', rfl, h0, ih h1⟩
theorem VRs.take {vs : List V} {us : List Value} (h : VRs g s w vs us) : ∀ n, VRs g s w (vs.take n) (us.take n) := by
  induction vs generalizing us with
  | nil => intro n; simp only [VRs] at h; subst h; simp [VRs]
  | cons v vs ih =>
    intro n
    simp only [VRs] at h
    obtain ⟨u, us1, rfl, h0, h1⟩ := h
    cases n with
    | zero => simp [VRs]
    | succ n => simp only [List.take_succ_cons, VRs]; exact ⟨u, us1.take n, rfl, h0, ih h1 n⟩
theorem VRs.drop {vs : List V} {us : List Value} (h : VRs g s w vs us) : ∀ n, VRs g s w (vs.drop n) (us.drop n) := by
  induction vs generalizing us with
  | nil => intro n; simp only [VRs] at h; subst h; simp [VRs]
  | cons v vs ih =>
    intro n
    simp only [VRs] at h
    obtain ⟨u, us1, rfl, h0, h1⟩ := h
    cases n with
    | zero => simp only [List.drop_zero, VRs]; exact ⟨u, us1, rfl, h0, h1⟩
    | succ n => simpa using ih h1 n
theorem VRs.set {vs : List V} {us : List Value} (h : VRs g s w vs us) : ∀ (i : Nat) {v : V} {u : Value}, VR g s w v u → VRs g s w (vs.set i v) (us.set i u) := by
  induction vs generalizing us with
  | nil => intro i v u _; simp only [VRs] at h; subst h; simp [VRs]
  | cons x vs ih =>
    intro i v u hu
    simp only [VRs] at h
    obtain ⟨u0, us1, rfl, h0, h1⟩ := h
    cases i with
    | zero => simp only [List.set_cons_zero, VRs]; exact ⟨u, us1, rfl, hu, h1⟩
    | succ i => simp only [List.set_cons_succ, VRs]; exact ⟨u0, us1.set i u, rfl, h0, ih h1 i hu⟩
theorem VRs.replicate {v : V} {u : Value} (h : VR g s w v u) : ∀ n, VRs g s w (List.replicate n v) (List.replicate n u)
  | 0 => by simp [VRs]
  | n + 1 => by
    simp only [List.replicate_succ, VRs]
    exact ⟨u, _, rfl, h, VRs.replicate h n⟩
end
theorem gA0 : type_of% @List.getElem?_eq_some_iff := @List.getElem?_eq_some_iff
theorem gA1 : type_of% @Option.map_eq_some_iff := @Option.map_eq_some_iff
theorem gA2 : type_of% @List.getElem?_append_left := @List.getElem?_append_left
theorem gA3 : type_of% @List.getElem?_set_ne := @List.getElem?_set_ne
theorem gA4 : type_of% @List.getElem?_append_right := @List.getElem?_append_right
theorem gA5 : type_of% @List.getElem?_set_self := @List.getElem?_set_self
theorem gA6 : type_of% @List.getD_eq_getElem?_getD := @List.getD_eq_getElem?_getD
end Go.Proofs.YtnegdinonfjdfaaDoor.Q
namespace Go.Proofs.YtnegdinonfjdfaaDoor.Q
open Go Go.RowKit
inductive Ob where
  | cells (cs : List V)
  | tcells (t : TypeId) (cs : List V)
  | dead
  | unb
  | mp (es : List (V × V))
  | lp (tm : List V) (ps : Array Tmp) (asg body : Code)
  | lpB (tm : List V) (ps : Array Tmp) (asg body : Code)
  | lpD (c : Code)
  | it (b since : Nat) (seen : Array Nat) (last : Nat)
  | mpR (b : Nat) (es : List (V × V)) (a : Array MapEntry) (clock : Nat)
  deriving Inhabited
structure St where
  objs : List Ob
  toks : List Bool
def Ob.gone : Ob → Prop
  | .dead => True
  | .unb => True
  | _ => False
def ObjOk (base : Nat) (g : Gh) (toks : List Bool) (w : World) (r : Nat) : Ob → Prop
  | .dead => True
  | .unb => True
  | .cells cs => base ≤ g.ρ r ∧ g.L (g.ρ r) = 0 ∧ ∃ c ty us, w.heap[g.ρ r]? = some (.cells c ty (0, 0)) ∧ VRs g toks w cs us ∧ g.ob r + us.length ≤ c.size ∧ ∀ i u, us[i]? = some u → c[g.ob r + i]? = some u
  | .tcells t cs => base ≤ g.ρ r ∧ g.L (g.ρ r) = 0 ∧ g.ob r = 0 ∧ ∃ us, w.heap[g.ρ r]? = some (.cells us.toArray t (0, 0)) ∧ VRs g toks w cs us
  | .mp es => base ≤ g.ρ r ∧ g.L (g.ρ r) = 0 ∧ ∃ (a : Array MapEntry) (clock : Nat), w.heap[g.ρ r]? = some (.map a clock) ∧ VRs g toks w (es.map (·.1)) (a.toList.map (·.key)) ∧ VRs g toks w (es.map (·.2)) (a.toList.map (·.val)) ∧ (∀ x ∈ a.toList, x.born < clock) ∧ (a.toList.map (·.born)).Nodup
  | .lp tm ps asg body => base ≤ g.ρ r ∧ g.L (g.ρ r) = 0 ∧ ∃ (fn df : Nat) (us : List Value), w.heap[g.ρ r]? = some (.loop { state := .ready, pending := none, fn := fn, tmps := us.toArray, params := ps, assign := asg, body := body, defers := df }) ∧ VRs g toks w tm us
  | .lpB tm ps asg body => base ≤ g.ρ r ∧ g.L (g.ρ r) = 0 ∧ ∃ (fn df : Nat) (us : List Value), w.heap[g.ρ r]? = some (.loop { state := .busy, pending := none, fn := fn, tmps := us.toArray, params := ps, assign := asg, body := body, defers := df }) ∧ VRs g toks w tm us
  | .lpD c => base ≤ g.ρ r ∧ g.L (g.ρ r) = 0 ∧ ∃ rec : Loop, w.heap[g.ρ r]? = some (.loop rec) ∧ rec.state = .done ∧ rec.pending = some c
  | .it b since seen last => base ≤ g.ρ r ∧ g.L (g.ρ r) = 0 ∧ g.ob r = 0 ∧ w.heap[g.ρ r]? = some (.mapIter (some b) since seen last)
  | .mpR b es a clock => base ≤ g.ρ r ∧ g.L (g.ρ r) = 0 ∧ g.ρ r = b ∧ w.heap[g.ρ r]? = some (.map a clock) ∧ VRs g toks w (es.map (·.1)) (a.toList.map (·.key)) ∧ VRs g toks w (es.map (·.2)) (a.toList.map (·.val)) ∧ (∀ x ∈ a.toList, x.born < clock) ∧ (a.toList.map (·.born)).Nodup
def aliveAt (objs : List Ob) (r : Nat) : Prop := ∃ o, objs[r]? = some o ∧ (∀ h : o.gone, False)
theorem ObjOk.gone {base : Nat} {g : Gh} {toks : List Bool} {w : World} {r : Nat} {o : Ob} (h : o.gone) : ObjOk base g toks w r o := by
  cases o <;> first | trivial | exact h.elim
structure Rel (base : Nat) (w0 : World) (g : Gh) (σ : St) (w : World) : Prop where
  below : Below base w0 w
  bs : base ≤ w.heap.size
  n : g.n = σ.objs.length
  hid : ∀ r, g.hid r = true ↔ σ.objs[r]? = some .unb
  obj : ∀ r o, σ.objs[r]? = some o → ObjOk base g σ.toks w r o
  inj : ∀ r r', aliveAt σ.objs r → aliveAt σ.objs r' → g.ρ r = g.ρ r' → r = r'
  tok : ∀ t, tokLive σ.toks t = true → base ≤ g.tk t ∧ g.tk t < w.heap.size ∧ ∀ r, aliveAt σ.objs r → g.ρ r ≠ g.tk t
  tinj : ∀ t t', tokLive σ.toks t = true → tokLive σ.toks t' = true → g.tk t = g.tk t' → t = t'
  lim : ∀ b, w.heap.size ≤ b → g.L b = 0
theorem Rel.hasO {base : Nat} {w0 : World} {g : Gh} {σ : St} {w : World} (h : Rel base w0 g σ w) {r : Nat} {o : Ob} (ho : σ.objs[r]? = some o) : g.has r ∨ o.gone := by
  cases hh : g.hid r with
  | true => have := (h.hid r).1 hh; rw [ho] at this; injection this with this; subst this; exact .inr trivial
  | false => exact .inl ⟨by rw [h.n]; exact (gA0.1 ho).1, hh⟩
theorem Rel.hasA {base : Nat} {w0 : World} {g : Gh} {σ : St} {w : World} (h : Rel base w0 g σ w) {r : Nat} (ha : aliveAt σ.objs r) : g.has r := by
  obtain ⟨o, ho, hd⟩ := ha
  exact (h.hasO ho).resolve_right hd
theorem tokLive_lt {toks : List Bool} {t : Nat} (h : tokLive toks t = true) : t < toks.length := by
  unfold tokLive at h
  rcases Nat.lt_or_ge t toks.length with h1 | h1
  · exact h1
  · simp [gA6, List.getElem?_eq_none h1] at h
theorem alive_lt {objs : List Ob} {r : Nat} (h : aliveAt objs r) : r < objs.length := by
  obtain ⟨o, h, _⟩ := h
  rcases Nat.lt_or_ge r objs.length with h1 | h1
  · exact h1
  · simp [List.getElem?_eq_none h1] at h
theorem ObjOk.lt {base : Nat} {g : Gh} {toks : List Bool} {w : World} {r : Nat} {o : Ob} (h : ObjOk base g toks w r o) (ho : ∀ h : o.gone, False) : g.ρ r < w.heap.size := by
  cases o with
  | dead => exact (ho trivial).elim
  | unb => exact (ho trivial).elim
  | mp es =>
    obtain ⟨_, _, a, cl, hh, _⟩ := h
    exact (Array.getElem?_eq_some_iff.1 hh).1
  | lp tm ps asg body =>
    obtain ⟨_, _, fn, df, us, hh, _⟩ := h
    exact (Array.getElem?_eq_some_iff.1 hh).1
  | lpB tm ps asg body =>
    obtain ⟨_, _, fn, df, us, hh, _⟩ := h
    exact (Array.getElem?_eq_some_iff.1 hh).1
  | lpD c =>
    obtain ⟨_, _, rec, hh, _⟩ := h
    exact (Array.getElem?_eq_some_iff.1 hh).1
  | it b since seen last =>
    obtain ⟨_, _, _, hh⟩ := h
    exact (Array.getElem?_eq_some_iff.1 hh).1
  | mpR b es a clock =>
    obtain ⟨_, _, _, hh, _⟩ := h
    exact (Array.getElem?_eq_some_iff.1 hh).1
  | tcells t cs =>
    obtain ⟨_, _, _, us, hh, _⟩ := h
    exact (Array.getElem?_eq_some_iff.1 hh).1
  | cells cs =>
    obtain ⟨_, _, c, ty, us, hh, _⟩ := h
    exact (Array.getElem?_eq_some_iff.1 hh).1
theorem Rel.alive_block {base : Nat} {w0 : World} {g : Gh} {σ : St} {w : World} (h : Rel base w0 g σ w) {r : Nat} (hr : aliveAt σ.objs r) : g.ρ r < w.heap.size := by
  obtain ⟨o, ho, hd⟩ := hr
  exact (h.obj r o ho).lt hd
theorem Ext.drew (g : Gh) (s : List Bool) (w : World) : Ext g s w g s w.drew :=
  ⟨⟨Nat.le_refl _, fun _ h => h, fun _ _ => rfl, fun _ _ => rfl, fun _ => Nat.le_refl _, fun _ _ _ => rfl, fun _ c _ fr h => ⟨c, fr, h, rfl, .inl rfl⟩, Nat.le_refl _, fun _ _ h => ⟨h, rfl, rfl⟩⟩, fun _ _ h => h⟩
theorem ObjOk.ext0 {base : Nat} {g g' : Gh} {s s' : List Bool} {w w' : World} (e : Ext0 g s w g' s' w') {r : Nat} {o : Ob} (hr' : g.has r ∨ o.gone) (hh : w'.heap[g.ρ r]? = w.heap[g.ρ r]?) (hL : g'.L (g.ρ r) = g.L (g.ρ r)) (h : ObjOk base g s w r o) : ObjOk base g' s' w' r o := by
  cases o with
  | dead => trivial
  | unb => trivial
  | mp es =>
    obtain ⟨h1, h2, a, cl, h3, h4, h5, h6⟩ := h
    simp only [ObjOk]
    have hr := hr'.resolve_right (fun e => e.elim)
    rw [e.ρ r hr, hL]
    exact ⟨h1, h2, a, cl, hh.trans h3, VRs.ext0 e _ h4, VRs.ext0 e _ h5, h6⟩
  | lp tm ps asg body =>
    obtain ⟨h1, h2, fn, df, us, h3, h4⟩ := h
    simp only [ObjOk]
    have hr := hr'.resolve_right (fun e => e.elim)
    rw [e.ρ r hr, hL]
    exact ⟨h1, h2, fn, df, us, hh.trans h3, VRs.ext0 e _ h4⟩
  | lpB tm ps asg body =>
    obtain ⟨h1, h2, fn, df, us, h3, h4⟩ := h
    simp only [ObjOk]
    have hr := hr'.resolve_right (fun e => e.elim)
    rw [e.ρ r hr, hL]
    exact ⟨h1, h2, fn, df, us, hh.trans h3, VRs.ext0 e _ h4⟩
  | it b since seen last =>
    obtain ⟨h1, h2, h3, h4⟩ := h
    simp only [ObjOk]
    have hr := hr'.resolve_right (fun e => e.elim)
    rw [e.ρ r hr, e.ob r hr, hL]
    exact ⟨h1, h2, h3, hh.trans h4⟩
  | mpR b es a clock =>
    obtain ⟨h1, h2, h3, h4, h5, h6, h7⟩ := h
    simp only [ObjOk]
    have hr := hr'.resolve_right (fun e => e.elim)
    rw [e.ρ r hr, hL]
    exact ⟨h1, h2, h3, hh.trans h4, VRs.ext0 e _ h5, VRs.ext0 e _ h6, h7⟩
  | lpD c =>
    obtain ⟨h1, h2, rec, h3, h4⟩ := h
    simp only [ObjOk]
    have hr := hr'.resolve_right (fun e => e.elim)
    rw [e.ρ r hr, hL]
    exact ⟨h1, h2, rec, hh.trans h3, h4⟩
  | tcells t cs =>
    obtain ⟨h1, h2, h0, us, h3, h4⟩ := h
    simp only [ObjOk]
    have hr := hr'.resolve_right (fun e => e.elim)
    rw [e.ρ r hr, e.ob r hr, hL]
    exact ⟨h1, h2, h0, us, hh.trans h3, VRs.ext0 e cs h4⟩
  | cells cs =>
    obtain ⟨h1, h2, c, ty, us, h3, h4, h5, h6⟩ := h
    simp only [ObjOk]
    have hr := hr'.resolve_right (fun e => e.elim)
    rw [e.ρ r hr, e.ob r hr, hL]
    exact ⟨h1, h2, c, ty, us, hh.trans h3, VRs.ext0 e cs h4, h5, h6⟩
theorem ObjOk.ext {base : Nat} {g g' : Gh} {s s' : List Bool} {w w' : World} (e : Ext g s w g' s' w') {r : Nat} {o : Ob} (hr' : g.has r ∨ o.gone) (hh : w'.heap[g.ρ r]? = w.heap[g.ρ r]?) (hL : g'.L (g.ρ r) = g.L (g.ρ r)) (h : ObjOk base g s w r o) : ObjOk base g' s' w' r o := h.ext0 e.toExt0 hr' hh hL
theorem Rel.drew {base : Nat} {w0 : World} {g : Gh} {σ : St} {w : World} (h : Rel base w0 g σ w) : Rel base w0 g σ w.drew where
  below := h.below.drew
  bs := h.bs
  n := h.n
  hid := h.hid
  obj r o ho := (h.obj r o ho).ext (Ext.drew g σ.toks w) (h.hasO ho) rfl rfl
  inj := h.inj
  tok := h.tok
  tinj := h.tinj
  lim := h.lim
def Gh.row (g : Gh) (B k : Nat) : Gh := { g with L := fun b => if b = B then k else g.L b }
theorem heap_alloc_lt (w : World) (o : Obj) (k : Nat) (h : k < w.heap.size) : (w.alloc o).heap[k]? = w.heap[k]? := Below.heap_alloc w o k h
theorem heap_alloc_eq (w : World) (o : Obj) : (w.alloc o).heap[w.heap.size]? = some o := by
  show (w.heap.push o)[w.heap.size]? = _
  rw [Array.getElem?_push, if_pos rfl]
theorem Ext.row {base : Nat} {w0 : World} {g : Gh} {σ : St} {w : World} (h : Rel base w0 g σ w) (o : Obj) (k : Nat) : Ext g σ.toks w (g.row w.heap.size k) σ.toks (w.alloc o) where
  n := Nat.le_refl _
  has _ h := h
  ρ _ _ := rfl
  ob _ _ := rfl
  L b := by
    simp only [Gh.row]
    split
    · rename_i hb; rw [hb, h.lim _ (Nat.le_refl _)]; exact Nat.zero_le _
    · exact Nat.le_refl _
  cells b o' ho := by
    have hb : b < w.heap.size := by
      rcases Nat.lt_or_ge b w.heap.size with h1 | h1
      · exact h1
      · rw [h.lim b h1] at ho; omega
    exact World.cell?_alloc_lt (a := ⟨b, o', none⟩) _ _ hb
  shape b c t fr hb := ⟨c, fr, by rw [heap_alloc_lt _ _ _ (Array.getElem?_eq_some_iff.1 hb).1]; exact hb, rfl, .inl rfl⟩
  dfr b x hb := by rw [heap_alloc_lt _ _ _ (Array.getElem?_eq_some_iff.1 hb).1]; exact hb
  nt := Nat.le_refl _
  tok t ht hl := by
    refine ⟨hl, rfl, ?_⟩
    simp only [Gh.row]
    rw [if_neg]
    have := (h.tok t hl).2.1
    omega
theorem Rel.row {base : Nat} {w0 : World} {g : Gh} {σ : St} {w : World} (h : Rel base w0 g σ w) (o : Obj) (k : Nat) : Rel base w0 (g.row w.heap.size k) σ (w.alloc o) where
  below := h.below.alloc h.bs o
  bs := by rw [World.size_alloc]; have := h.bs; omega
  n := h.n
  hid := h.hid
  obj r ob ho := by
    by_cases hob : ob.gone
    · exact ObjOk.gone hob
    · have hlt := (h.obj r ob ho).lt hob
      exact (h.obj r ob ho).ext (Ext.row h o k) (h.hasO ho) (heap_alloc_lt _ _ _ hlt) (by simp only [Gh.row]; rw [if_neg (by omega)])
  inj := h.inj
  tok t ht := by
    obtain ⟨h1, h2, h3⟩ := h.tok t ht
    exact ⟨h1, by rw [World.size_alloc]; exact Nat.lt_succ_of_lt h2, h3⟩
  tinj := h.tinj
  lim b hb := by
    rw [World.size_alloc] at hb
    simp only [Gh.row]
    rw [if_neg (by omega)]
    exact h.lim b (by omega)
def Gh.token (g : Gh) (t B : Nat) : Gh := { g with tk := fun s => if s = t then B else g.tk s }
theorem tokLive_append_old {toks : List Bool} {t : Nat} (h : t < toks.length) (b : Bool) : tokLive (toks ++ [b]) t = tokLive toks t := by
  simp [tokLive, gA6, gA2 h]
theorem Ext.token {g : Gh} {s : List Bool} (w : World) (B : Nat) (b : Bool) : Ext g s w (g.token s.length B) (s ++ [b]) w where
  n := Nat.le_refl _
  has _ h := h
  ρ _ _ := rfl
  ob _ _ := rfl
  L _ := Nat.le_refl _
  cells _ _ _ := rfl
  shape _ c _ fr h := ⟨c, fr, h, rfl, .inl rfl⟩
  dfr _ _ h := h
  nt := by simp
  tok t ht hl := by
    rw [tokLive_append_old ht] at hl
    refine ⟨hl, ?_, rfl⟩
    simp only [Gh.token]
    rw [if_neg (by omega)]
theorem Rel.token {base : Nat} {w0 : World} {g : Gh} {σ : St} {w : World} (h : Rel base w0 g σ w) (B : Nat) (hB : base ≤ B) (hlt : B < w.heap.size) (ho : ∀ r, aliveAt σ.objs r → g.ρ r ≠ B)
    (ht : ∀ t, tokLive σ.toks t = true → g.tk t ≠ B) : Rel base w0 (g.token σ.toks.length B) ⟨σ.objs, σ.toks ++ [true]⟩ w where
  below := h.below
  bs := h.bs
  n := h.n
  hid := h.hid
  obj r ob hob := (h.obj r ob hob).ext (Ext.token w B true) (h.hasO hob) rfl rfl
  inj := h.inj
  tok t hl := by
    have hlt' := tokLive_lt hl
    simp only [List.length_append, List.length_singleton] at hlt'
    by_cases e : t = σ.toks.length
    · subst e
      simp only [Gh.token, if_pos]
      exact ⟨hB, hlt, ho⟩
    · simp only [Gh.token]
      rw [if_neg e]
      rw [tokLive_append_old (by omega)] at hl
      exact h.tok t hl
  tinj t t' hl hl' he := by
    have h1 := tokLive_lt hl
    have h2 := tokLive_lt hl'
    simp only [List.length_append, List.length_singleton] at h1 h2
    simp only [Gh.token] at he
    by_cases e : t = σ.toks.length
    · by_cases e' : t' = σ.toks.length
      · omega
      · rw [if_pos e, if_neg e'] at he
        rw [tokLive_append_old (by omega)] at hl'
        exact absurd he.symm (ht t' hl')
    · rw [tokLive_append_old (by omega)] at hl
      by_cases e' : t' = σ.toks.length
      · rw [if_pos e', if_neg e] at he
        exact absurd he (ht t hl)
      · rw [if_neg e, if_neg e'] at he
        rw [tokLive_append_old (by omega)] at hl'
        exact h.tinj t t' hl hl' he
  lim := h.lim
def killTok (toks : List Bool) (t : Nat) : List Bool := toks.set t false
theorem tokLive_kill {toks : List Bool} {t s : Nat} (h : tokLive (killTok toks t) s = true) : tokLive toks s = true ∧ s ≠ t := by
  unfold tokLive killTok at *
  rw [gA6] at *
  rw [List.getElem?_set] at h
  split at h
  · split at h <;> simp at h
  · rename_i hne
    exact ⟨h, fun e => hne e.symm⟩
theorem length_kill (toks : List Bool) (t : Nat) : (killTok toks t).length = toks.length := by simp [killTok]
theorem Ext.kill (g : Gh) (s : List Bool) (w : World) (t : Nat) : Ext g s w g (killTok s t) w where
  n := Nat.le_refl _
  has _ h := h
  ρ _ _ := rfl
  ob _ _ := rfl
  L _ := Nat.le_refl _
  cells _ _ _ := rfl
  shape _ c _ fr h := ⟨c, fr, h, rfl, .inl rfl⟩
  dfr _ _ h := h
  nt := by rw [length_kill]; exact Nat.le_refl _
  tok u hu hl := ⟨(tokLive_kill hl).1, rfl, rfl⟩
theorem Rel.kill {base : Nat} {w0 : World} {g : Gh} {σ : St} {w : World} (h : Rel base w0 g σ w) (t : Nat) : Rel base w0 g ⟨σ.objs, killTok σ.toks t⟩ w where
  below := h.below
  bs := h.bs
  n := h.n
  hid := h.hid
  obj r ob hob := (h.obj r ob hob).ext (Ext.kill g σ.toks w t) (h.hasO hob) rfl rfl
  inj := h.inj
  tok u hu := h.tok u (tokLive_kill hu).1
  tinj u u' hu hu' := h.tinj u u' (tokLive_kill hu).1 (tokLive_kill hu').1
  lim := h.lim
def Gh.obj (g : Gh) (B : Nat) : Gh := { g with n := g.n + 1, hid := fun r => if r = g.n then false else g.hid r, ρ := fun r => if r = g.n then B else g.ρ r, ob := fun r => if r = g.n then 0 else g.ob r }
theorem Ext.obj {base : Nat} {w0 : World} {g : Gh} {σ : St} {w : World} (h : Rel base w0 g σ w) (o : Obj) : Ext g σ.toks w (g.obj w.heap.size) σ.toks (w.alloc o) where
  n := by simp [Gh.obj]
  has r hr := by obtain ⟨h1, h2⟩ := hr; exact ⟨by simp [Gh.obj]; omega, by simp only [Gh.obj]; rw [if_neg (by omega)]; exact h2⟩
  ρ r hr := by have := hr.1; simp only [Gh.obj]; rw [if_neg (by omega)]
  ob r hr := by have := hr.1; simp only [Gh.obj]; rw [if_neg (by omega)]
  L _ := Nat.le_refl _
  cells b o' ho := by
    have hb : b < w.heap.size := by
      rcases Nat.lt_or_ge b w.heap.size with h1 | h1
      · exact h1
      · rw [h.lim b h1] at ho; omega
    exact World.cell?_alloc_lt (a := ⟨b, o', none⟩) _ _ hb
  shape b c t fr hb := ⟨c, fr, by rw [heap_alloc_lt _ _ _ (Array.getElem?_eq_some_iff.1 hb).1]; exact hb, rfl, .inl rfl⟩
  dfr b x hb := by rw [heap_alloc_lt _ _ _ (Array.getElem?_eq_some_iff.1 hb).1]; exact hb
  nt := Nat.le_refl _
  tok t ht hl := ⟨hl, rfl, rfl⟩
theorem alive_append {objs : List Ob} {o : Ob} {r : Nat} (h : aliveAt (objs ++ [o]) r) : aliveAt objs r ∨ r = objs.length := by
  have hlt := alive_lt h
  simp only [List.length_append, List.length_singleton] at hlt
  rcases Nat.lt_or_ge r objs.length with h1 | h1
  · obtain ⟨o', ho, hd⟩ := h
    rw [gA2 h1] at ho
    exact .inl ⟨o', ho, hd⟩
  · exact .inr (by omega)
theorem Rel.newA {base : Nat} {w0 : World} {g : Gh} {σ : St} {w : World} (h : Rel base w0 g σ w) (x : Obj) (o : Ob) (hok : ObjOk base (g.obj w.heap.size) σ.toks (w.alloc x) σ.objs.length o) (hnu : ¬ o = .unb := by intro h; cases h) :
    Rel base w0 (g.obj w.heap.size) ⟨σ.objs ++ [o], σ.toks⟩ (w.alloc x) where
  below := h.below.alloc h.bs _
  bs := by rw [World.size_alloc]; have := h.bs; omega
  n := by simp [Gh.obj, h.n]
  hid r := by
    simp only [Gh.obj]
    rcases Nat.lt_or_ge r σ.objs.length with h1 | h1
    · rw [if_neg (by rw [h.n]; omega), gA2 h1]
      exact h.hid r
    · have h2 : g.hid r = false := by
        cases e : g.hid r with
        | false => rfl
        | true => have := (gA0.1 ((h.hid r).1 e)).1; omega
      rw [h2]
      constructor
      · intro h; split at h <;> cases h
      · intro hu
        have h3 := (gA0.1 hu).1
        simp only [List.length_append, List.length_singleton] at h3
        have : r = σ.objs.length := by omega
        subst this
        simp at hu
        exact absurd hu hnu
  obj r ob hob := by
    rcases Nat.lt_or_ge r σ.objs.length with h1 | h1
    · rw [gA2 h1] at hob
      by_cases hd : ob.gone
      · exact ObjOk.gone hd
      · have hlt := (h.obj r ob hob).lt hd
        exact (h.obj r ob hob).ext (Ext.obj h _) (h.hasO hob) (heap_alloc_lt _ _ _ hlt) rfl
    · have hr : r = σ.objs.length := by
        have := (gA0.1 hob).1
        simp only [List.length_append, List.length_singleton] at this
        omega
      subst hr
      simp at hob
      subst hob
      exact hok
  inj r r' hr hr' he := by
    simp only [Gh.obj] at he
    rcases alive_append hr with h1 | h1 <;> rcases alive_append hr' with h2 | h2
    · have a := alive_lt h1
      have b := alive_lt h2
      rw [if_neg (by rw [h.n]; omega), if_neg (by rw [h.n]; omega)] at he
      exact h.inj r r' h1 h2 he
    · have a := alive_lt h1
      rw [if_neg (by rw [h.n]; omega), if_pos (by rw [h.n]; exact h2)] at he
      have := h.alive_block h1
      omega
    · have a := alive_lt h2
      rw [if_pos (by rw [h.n]; exact h1), if_neg (by rw [h.n]; omega)] at he
      have := h.alive_block h2
      omega
    · omega
  tok t hl := by
    obtain ⟨h1, h2, h3⟩ := h.tok t hl
    refine ⟨h1, by rw [World.size_alloc]; exact Nat.lt_succ_of_lt h2, fun r hr => ?_⟩
    simp only [Gh.obj]
    rcases alive_append hr with h4 | h4
    · have a := alive_lt h4
      have hg : (g.obj w.heap.size).tk t = g.tk t := rfl
      rw [if_neg (by rw [h.n]; omega)]
      exact h3 r h4
    · rw [if_pos (by rw [h.n]; exact h4)]
      omega
  tinj := h.tinj
  lim b hb := by rw [World.size_alloc] at hb; exact h.lim b (by omega)
theorem Rel.newG {base : Nat} {w0 : World} {g : Gh} {σ : St} {w : World} (h : Rel base w0 g σ w) (c : Array Value) (ty : TypeId) (o : Ob) (hok : ObjOk base (g.obj w.heap.size) σ.toks (w.alloc (.cells c ty)) σ.objs.length o) (hnu : ¬ o = .unb := by intro h; cases h) :
    Rel base w0 (g.obj w.heap.size) ⟨σ.objs ++ [o], σ.toks⟩ (w.alloc (.cells c ty)) := h.newA _ o hok hnu
theorem Rel.newObj {base : Nat} {w0 : World} {g : Gh} {σ : St} {w : World} (h : Rel base w0 g σ w) (c : Array Value) (ty : TypeId) (cs : List V) (hc : VRs g σ.toks w cs c.toList) :
    Rel base w0 (g.obj w.heap.size) ⟨σ.objs ++ [.cells cs], σ.toks⟩ (w.alloc (.cells c ty)) := by
  refine h.newG c ty _ ?_
  simp only [ObjOk, Gh.obj]
  rw [if_pos h.n.symm, if_pos h.n.symm]
  exact ⟨h.bs, h.lim _ (Nat.le_refl _), c, ty, c.toList, heap_alloc_eq _ _, VRs.ext (Ext.obj h _) cs hc, by simp, fun i u hu => by simpa using hu⟩
theorem Rel.newT {base : Nat} {w0 : World} {g : Gh} {σ : St} {w : World} (h : Rel base w0 g σ w) (c : Array Value) (ty : TypeId) (cs : List V) (hc : VRs g σ.toks w cs c.toList) :
    Rel base w0 (g.obj w.heap.size) ⟨σ.objs ++ [.tcells ty cs], σ.toks⟩ (w.alloc (.cells c ty)) := by
  refine h.newG c ty _ ?_
  simp only [ObjOk, Gh.obj]
  rw [if_pos h.n.symm, if_pos h.n.symm]
  exact ⟨h.bs, h.lim _ (Nat.le_refl _), rfl, c.toList, heap_alloc_eq _ _, VRs.ext (Ext.obj h _) cs hc⟩
theorem heap_setCell_other (w : World) (a : Addr) (u : Value) (k : Nat) (h : k ≠ a.block) : (w.setCell a u).heap[k]? = w.heap[k]? := Below.heap_setCell w a u k h
theorem heap_setCell_same (w : World) (b off : Nat) (u : Value) (c : Array Value) (t : TypeId) (fr : Nat × Nat) (h : w.heap[b]? = some (.cells c t fr)) : (w.setCell ⟨b, off, none⟩ u).heap[b]? = some (.cells (c.setIfInBounds off u) t fr) := by
  simp [World.setCell, Array.getElem?_modify, h]
theorem cell?_heap {w w' : World} {b : Nat} (h : w'.heap[b]? = w.heap[b]?) (o : Nat) : w'.cell? ⟨b, o, none⟩ = w.cell? ⟨b, o, none⟩ := World.cell?_of_block (a := ⟨b, o, none⟩) h
theorem Ext.setCell {g : Gh} (s : List Bool) {w : World} (b off : Nat) (u : Value) (hL : g.L b = 0) : Ext g s w g s (w.setCell ⟨b, off, none⟩ u) where
  n := Nat.le_refl _
  has _ h := h
  ρ _ _ := rfl
  ob _ _ := rfl
  L _ := Nat.le_refl _
  cells k o ho := by
    by_cases e : k = b
    · subst e; rw [hL] at ho; omega
    · exact cell?_heap (heap_setCell_other w ⟨b, off, none⟩ u k e) o
  shape k c t fr h := by
    by_cases e : k = b
    · subst e
      exact ⟨_, fr, heap_setCell_same w k off u c t fr h, by simp, .inl rfl⟩
    · exact ⟨c, fr, (heap_setCell_other w ⟨b, off, none⟩ u k e).trans h, rfl, .inl rfl⟩
  dfr k x h := by
    by_cases e : k = b
    · subst e
      simp only [World.setCell, Array.getElem?_modify, h]
      simp
    · exact (heap_setCell_other w ⟨b, off, none⟩ u k e).trans h
  nt := Nat.le_refl _
  tok _ _ hl := ⟨hl, rfl, rfl⟩
theorem alive_set {objs : List Ob} {r k : Nat} {o o' : Ob} (h : objs[r]? = some o) (hd : ∀ h : o.gone, False) (hk : aliveAt (objs.set r o') k) : aliveAt objs k := by
  obtain ⟨p, hp, hpd⟩ := hk
  rw [List.getElem?_set] at hp
  split at hp
  · rename_i e; subst e; exact ⟨o, h, hd⟩
  · exact ⟨p, hp, hpd⟩
theorem Rel.setG {base : Nat} {w0 : World} {g : Gh} {σ : St} {w : World} (h : Rel base w0 g σ w) {r : Nat} {o o' : Ob} (hr : σ.objs[r]? = some o) (hd : ∀ h : o.gone, False) (hb : base ≤ g.ρ r) (hL : g.L (g.ρ r) = 0) (n : Nat) {u : Value}
    (hok : Ext g σ.toks w g σ.toks (w.setCell ⟨g.ρ r, n, none⟩ u) → ObjOk base g σ.toks (w.setCell ⟨g.ρ r, n, none⟩ u) r o') (hnu : ¬ o' = .unb := by intro h; cases h) : Rel base w0 g ⟨σ.objs.set r o', σ.toks⟩ (w.setCell ⟨g.ρ r, n, none⟩ u) := by
  have e : Ext g σ.toks w g σ.toks (w.setCell ⟨g.ρ r, n, none⟩ u) := Ext.setCell σ.toks (g.ρ r) n u hL
  have halr : aliveAt σ.objs r := ⟨_, hr, hd⟩
  exact {
    below := h.below.setCell hb u
    bs := by rw [World.size_setCell]; exact h.bs
    n := by simpa using h.n
    hid := fun k => by
      by_cases e : r = k
      · subst e
        rw [gA5 (gA0.1 hr).1, h.hid, hr]
        constructor
        · intro h; injection h with h; subst h; exact (hd trivial).elim
        · intro h; injection h with h; exact absurd h hnu
      · rw [gA3 e]
        exact h.hid k
    obj := by
      intro k p hk
      by_cases ek : k = r
      · subst ek
        rw [gA5 (by have := (gA0.1 hr).1; exact this)] at hk
        injection hk with hk
        subst hk
        exact hok e
      · rw [gA3 (by omega)] at hk
        by_cases hd : p.gone
        · exact ObjOk.gone hd
        · have hne : g.ρ k ≠ g.ρ r := fun ee => ek (h.inj k r ⟨p, hk, hd⟩ halr ee)
          exact (h.obj k p hk).ext e (h.hasO hk) (heap_setCell_other w ⟨g.ρ r, n, none⟩ u _ hne) rfl
    inj := fun a b ha hb' => h.inj a b (alive_set hr hd ha) (alive_set hr hd hb')
    tok := fun t ht => by
      obtain ⟨h1, h2, h3⟩ := h.tok t ht
      exact ⟨h1, by rw [World.size_setCell]; exact h2, fun a ha => h3 a (alive_set hr hd ha)⟩
    tinj := h.tinj
    lim := fun b hb' => h.lim b (by rw [World.size_setCell] at hb'; exact hb') }
theorem Rel.setCell {base : Nat} {w0 : World} {g : Gh} {σ : St} {w : World} (h : Rel base w0 g σ w) {r : Nat} {cs : List V} (hr : σ.objs[r]? = some (.cells cs)) (off : Nat) (hoff : off < cs.length) {v : V} {u : Value}
    (hv : VR g σ.toks w v u) : Rel base w0 g ⟨σ.objs.set r (.cells (cs.set off v)), σ.toks⟩ (w.setCell ⟨g.ρ r, g.ob r + off, none⟩ u) := by
  have hob := h.obj r _ hr
  obtain ⟨hb, hL, c, ty, us, hh, hus, hlen, hcells⟩ := hob
  have hl : cs.length = us.length := hus.length
  refine h.setG hr (by intro h; cases h) hb hL _ fun e => ?_
  refine ⟨hb, hL, _, ty, us.set off u, heap_setCell_same w _ _ u c ty (0, 0) hh, VRs.set (VRs.ext e cs hus) off (VR.ext e v hv), by simpa using hlen, fun i x hx => ?_⟩
  rw [List.getElem?_set] at hx
  rw [Array.getElem?_setIfInBounds]
  split at hx
  · rename_i ei
    subst ei
    rw [if_pos rfl]
    split at hx
    · rw [if_pos (by omega)]; exact hx
    · cases hx
  · rename_i ei
    rw [if_neg (by omega)]
    exact hcells i x hx
theorem Rel.setT {base : Nat} {w0 : World} {g : Gh} {σ : St} {w : World} (h : Rel base w0 g σ w) {r : Nat} {t : TypeId} {cs : List V} (hr : σ.objs[r]? = some (.tcells t cs)) (off : Nat) {v : V} {u : Value}
    (hv : VR g σ.toks w v u) : Rel base w0 g ⟨σ.objs.set r (.tcells t (cs.set off v)), σ.toks⟩ (w.setCell ⟨g.ρ r, g.ob r + off, none⟩ u) := by
  have hob := h.obj r _ hr
  obtain ⟨hb, hL, h0, us, hh, hus⟩ := hob
  refine h.setG hr (by intro h; cases h) hb hL _ fun e => ?_
  refine ⟨hb, hL, h0, us.set off u, ?_, VRs.set (VRs.ext e cs hus) off (VR.ext e v hv)⟩
  rw [heap_setCell_same w _ _ u _ t (0, 0) hh, h0, Nat.zero_add]
  congr 2
  simp
def Ob.of : Option TypeId → List V → Ob
  | none, cs => .cells cs
  | some t, cs => .tcells t cs
theorem Rel.cellsOf {base : Nat} {w0 : World} {g : Gh} {σ : St} {w : World} (h : Rel base w0 g σ w) {r : Nat} {m : Option TypeId} {cs : List V} (hr : σ.objs[r]? = some (Ob.of m cs)) :
    base ≤ g.ρ r ∧ g.L (g.ρ r) = 0 ∧ ∃ c ty us, w.heap[g.ρ r]? = some (.cells c ty (0, 0)) ∧ VRs g σ.toks w cs us ∧ g.ob r + us.length ≤ c.size ∧ ∀ i u, us[i]? = some u → c[g.ob r + i]? = some u := by
  cases m with
  | none => exact h.obj r _ hr
  | some t =>
    obtain ⟨h1, h2, h0, us, hh, hus⟩ := h.obj r _ hr
    refine ⟨h1, h2, us.toArray, t, us, hh, hus, by simp [h0], fun i u hu => by rw [h0, Nat.zero_add]; simpa using hu⟩
theorem Rel.setOf {base : Nat} {w0 : World} {g : Gh} {σ : St} {w : World} (h : Rel base w0 g σ w) {r : Nat} {m : Option TypeId} {cs : List V} (hr : σ.objs[r]? = some (Ob.of m cs)) (off : Nat) (hoff : off < cs.length) {v : V} {u : Value}
    (hv : VR g σ.toks w v u) : Rel base w0 g ⟨σ.objs.set r (Ob.of m (cs.set off v)), σ.toks⟩ (w.setCell ⟨g.ρ r, g.ob r + off, none⟩ u) := by
  cases m with
  | none => exact h.setCell hr off hoff hv
  | some t => exact h.setT hr off hv
theorem Rel.appendIn {base : Nat} {w0 : World} {g : Gh} {σ : St} {w w' : World} (h : Rel base w0 g σ w) {t : Nat} (ht : tokLive σ.toks t = true) {cur cur' : Array Value} {e : TypeId}
    (hb : w.heap[g.tk t]? = some (.cells cur e (0, 0))) (hb' : w'.heap[g.tk t]? = some (.cells cur' e (0, 0))) (hs : cur'.size = cur.size) (ho : ∀ k, k ≠ g.tk t → w'.heap[k]? = w.heap[k]?)
    (hsz : w'.heap.size = w.heap.size) (hos : w'.os = w.os) (htp : w'.tape = w.tape) (hout : w'.output = w.output) (hpre : ∀ o, o < g.L (g.tk t) → cur'[o]? = cur[o]?) (k : Nat) (hk : g.L (g.tk t) ≤ k) :
    Ext g σ.toks w ((g.row (g.tk t) k).token σ.toks.length (g.tk t)) (killTok σ.toks t ++ [true]) w' ∧
    Rel base w0 ((g.row (g.tk t) k).token σ.toks.length (g.tk t)) ⟨σ.objs, killTok σ.toks t ++ [true]⟩ w' := by
  have htok := h.tok t ht
  have hlk := length_kill σ.toks t
  have E : Ext g σ.toks w ((g.row (g.tk t) k).token σ.toks.length (g.tk t)) (killTok σ.toks t ++ [true]) w' := {
    n := Nat.le_refl _
    has := fun _ h => h
    ρ := fun _ _ => rfl
    ob := fun _ _ => rfl
    L := fun b => by
      simp only [Gh.token, Gh.row]
      split
      · rename_i e; rw [e]; exact hk
      · exact Nat.le_refl _
    cells := fun b o hlo => by
      by_cases eb : b = g.tk t
      · subst eb
        simp only [World.cell?, hb, hb']
        exact hpre o hlo
      · exact cell?_heap (ho b eb) o
    shape := fun b c ty fr hbb => by
      by_cases eb : b = g.tk t
      · subst eb
        rw [hb] at hbb
        injection hbb with hbb
        injection hbb with h1 h2 h3
        subst h1 h2 h3
        exact ⟨cur', _, hb', hs, .inl rfl⟩
      · exact ⟨c, fr, (ho b eb).trans hbb, rfl, .inl rfl⟩
    dfr := fun b x hbb => by
      by_cases eb : b = g.tk t
      · subst eb; rw [hb] at hbb; cases hbb
      · exact (ho b eb).trans hbb
    nt := by rw [List.length_append, hlk]; omega
    tok := fun s hs' hl => by
      rw [tokLive_append_old (by rw [hlk]; exact hs')] at hl
      obtain ⟨hl0, hne⟩ := tokLive_kill hl
      refine ⟨hl0, ?_, ?_⟩
      · simp only [Gh.token, Gh.row]
        rw [if_neg (by omega)]
      · simp only [Gh.token, Gh.row]
        rw [if_neg (fun ee => hne (h.tinj s t hl0 ht ee))] }
  refine ⟨E, ?_⟩
  exact {
    below := h.below.trans ⟨hos, htp, hout, by omega, fun i hi => ho i (by omega)⟩
    bs := by rw [hsz]; exact h.bs
    n := h.n
    hid := h.hid
    obj := fun r o hr => by
      by_cases hd : o.gone
      · exact ObjOk.gone hd
      · have hal : aliveAt σ.objs r := ⟨o, hr, hd⟩
        have hne := htok.2.2 r hal
        exact (h.obj r o hr).ext E (.inl (h.hasA hal)) (ho _ hne) (by simp only [Gh.token, Gh.row]; rw [if_neg hne])
    inj := h.inj
    tok := fun s hl => by
      have hlt := tokLive_lt hl
      rw [List.length_append, hlk, List.length_singleton] at hlt
      by_cases es : s = σ.toks.length
      · subst es
        simp only [Gh.token, if_pos]
        exact ⟨htok.1, by rw [hsz]; exact htok.2.1, htok.2.2⟩
      · rw [tokLive_append_old (by rw [hlk]; omega)] at hl
        simp only [Gh.token, Gh.row]
        rw [if_neg es, hsz]
        exact h.tok s (tokLive_kill hl).1
    tinj := fun s s' hl hl' he => by
      have h1 := tokLive_lt hl
      have h2 := tokLive_lt hl'
      rw [List.length_append, hlk, List.length_singleton] at h1 h2
      simp only [Gh.token, Gh.row] at he
      by_cases es : s = σ.toks.length
      · by_cases es' : s' = σ.toks.length
        · omega
        · rw [if_pos es, if_neg es'] at he
          rw [tokLive_append_old (by rw [hlk]; omega)] at hl'
          obtain ⟨a, b⟩ := tokLive_kill hl'
          exact absurd (h.tinj s' t a ht he.symm) b
      · rw [tokLive_append_old (by rw [hlk]; omega)] at hl
        obtain ⟨a, b⟩ := tokLive_kill hl
        by_cases es' : s' = σ.toks.length
        · rw [if_neg es, if_pos es'] at he
          exact absurd (h.tinj s t a ht he) b
        · rw [tokLive_append_old (by rw [hlk]; omega)] at hl'
          rw [if_neg es, if_neg es'] at he
          exact h.tinj s s' a (tokLive_kill hl').1 he
    lim := fun b hbb => by
      rw [hsz] at hbb
      simp only [Gh.token, Gh.row]
      have := htok.2.1
      rw [if_neg (by omega)]
      exact h.lim b hbb }
end Go.Proofs.YtnegdinonfjdfaaDoor.Q
namespace Go.Proofs.YtnegdinonfjdfaaDoor.Q
open Go Go.RowKit
def ofVal1 : Value → Option V
  | .bool b => some (.bool b)
  | .int k n => some (.int k n)
  | .string s => some (.str s.data.toList)
  | .pointer none => some .nilp
  | .slice none 0 0 => some .nils
  | .map none => some .nilm
  | .nilFunc => some .nilf
  | .nilIface => some .nili
  | .tuple vs => if vs = #[] then some (.tuple []) else none
  | _ => none
def ofVals : List Value → Option (List V)
  | [] => some []
  | x :: xs => match ofVal1 x, ofVals xs with
    | some v, some vs => some (v :: vs)
    | _, _ => none
def ofVal : Value → Option V
  | .agg cs => (ofVals cs.toList).map .agg
  | v => ofVal1 v
def evs (tmps : List V) : Operand → Option V
  | .tmp t => some (tmps.getD t (.tuple []))
  | .const v => ofVal v
  | .global _ => none
  | .func f => some (.func f [])
section
variable {P : Program} {g : Gh} {s : List Bool} {w : World}
theorem ofVal1_ok {x : Value} {v : V} (h : ofVal1 x = some v) : VR g s w v x := by
  unfold ofVal1 at h
  split at h <;> first | (injection h with h; subst h; simp [VR]; done) | (split at h <;> first | (injection h with h; subst h; simp_all [VR, VRs]; done) | cases h) | cases h
theorem ofVals_ok : ∀ {xs : List Value} {vs : List V}, ofVals xs = some vs → VRs g s w vs xs
  | [], vs, h => by simp only [ofVals] at h; injection h with h; subst h; simp [VRs]
  | x :: xs, vs, h => by
    simp only [ofVals] at h
    split at h
    · rename_i v vs' h1 h2
      injection h with h
      subst h
      simp only [VRs]
      exact ⟨x, xs, rfl, ofVal1_ok h1, ofVals_ok h2⟩
    · cases h
theorem ofVal_ok {x : Value} {v : V} (h : ofVal x = some v) : VR g s w v x := by
  unfold ofVal at h
  split at h
  · rename_i cs
    rw [gA1] at h
    obtain ⟨vs, h1, rfl⟩ := h
    simp only [VR]
    exact ⟨cs.toList, by simp, ofVals_ok h1⟩
  · exact ofVal1_ok h
theorem undef_ok : VR g s w (.tuple []) undef := by simp [VR, VRs, undef]
theorem VRs.getD {vs : List V} {us : List Value} (h : VRs g s w vs us) (i : Nat) : VR g s w (vs.getD i (.tuple [])) (us.getD i undef) := by
  rw [gA6, gA6]
  cases hv : vs[i]? with
  | none =>
    have : us[i]? = none := by
      rw [List.getElem?_eq_none_iff] at hv ⊢
      rw [← h.length]; exact hv
    rw [this]
    exact undef_ok
  | some v =>
    obtain ⟨u, hu, hr⟩ := h.get i hv
    rw [hu]
    exact hr
theorem evs_ok {tmps : List V} {a : Act} (h : VRs g s w tmps a.tmps.toList) {x : Operand} {v : V} (hv : evs tmps x = some v) : VR g s w v (a.eval x) := by
  cases x with
  | tmp t =>
    simp only [evs] at hv
    injection hv with hv
    subst hv
    simp only [Act.eval]
    have := h.getD t
    simpa [gA6, Array.getD_eq_getD_getElem?] using this
  | const c => exact ofVal_ok hv
  | global k => cases hv
  | func f =>
    simp only [evs] at hv
    injection hv with hv
    subst hv
    simp [VR, VRs, Act.eval]
def vcells : V → List V
  | .agg cs => cs
  | v => [v]
def one : V → Bool
  | .agg _ => false
  | .tuple _ => false
  | _ => true
theorem vcells_ok {v : V} {u : Value} (h : VR g s w v u) : VRs g s w (vcells v) u.cells.toList := by
  cases v <;> simp only [VR] at h <;> (try (obtain ⟨hr, rfl⟩ := h)) <;> (try subst h) <;> simp only [vcells]
  case agg cs => obtain ⟨us, rfl, hc⟩ := h; simpa [Value.cells] using hc
  case eptr cs off => obtain ⟨b, o, us, rfl, hr, hc⟩ := h; simp only [Value.cells, VRs]; exact ⟨_, _, rfl, by simp only [VR]; exact ⟨b, o, us, rfl, hr, hc⟩, rfl⟩
  case slice p e cs l => obtain ⟨ad, cap, us, rfl, hh⟩ := h; simp only [Value.cells, VRs]; exact ⟨_, _, rfl, by simp only [VR]; exact ⟨ad, cap, us, rfl, hh⟩, rfl⟩
  case hslice r o e l => obtain ⟨hr, cap, rfl, hh⟩ := h; simp only [Value.cells, VRs]; exact ⟨_, _, rfl, by simp only [VR]; exact ⟨hr, cap, rfl, hh⟩, rfl⟩
  case hfull r o e l => obtain ⟨hr, rfl, hh⟩ := h; simp only [Value.cells, VRs]; exact ⟨_, _, rfl, by simpa only [VR, true_and] using ⟨hr, hh⟩, rfl⟩
  case func f caps => obtain ⟨us, rfl, hh⟩ := h; simp only [Value.cells, VRs]; exact ⟨_, _, rfl, by simp only [VR]; exact ⟨us, rfl, hh⟩, rfl⟩
  case iface t x => obtain ⟨us, rfl, hh⟩ := h; simp only [Value.cells, VRs]; exact ⟨_, _, rfl, by simp only [VR]; exact ⟨us, rfl, hh⟩, rfl⟩
  case tuple cs => obtain ⟨us, rfl, hh⟩ := h; simp only [Value.cells, VRs]; exact ⟨_, _, rfl, by simp only [VR]; exact ⟨us, rfl, hh⟩, rfl⟩
  case optr r off => simp only [Value.cells, VRs]; exact ⟨_, _, rfl, by simp [VR, hr], rfl⟩
  case omap r => simp only [Value.cells, VRs]; exact ⟨_, _, rfl, by simp [VR, hr], rfl⟩
  case yld r => simp only [Value.cells, VRs]; exact ⟨_, _, rfl, by simp [VR, hr], rfl⟩
  all_goals simp only [Value.cells, VRs]; exact ⟨_, _, rfl, by simp only [VR], rfl⟩
theorem one_ok {v : V} {u : Value} (h : VR g s w v u) (h1 : one v = true) : u.oneCell' = true := by
  cases v <;> simp only [one, Bool.false_eq_true] at h1 <;> simp only [VR] at h <;> (try (obtain ⟨_, rfl⟩ := h)) <;> (try subst h) <;> first
    | rfl
    | (obtain ⟨_, _, _, rfl, _⟩ := h; rfl)
    | (obtain ⟨_, _, _, _, rfl, _⟩ := h; rfl)
    | (obtain ⟨_, _, rfl, _⟩ := h; rfl)
    | (obtain ⟨_, rfl, _⟩ := h; rfl)
theorem ones_ok {vs : List V} {us : List Value} (h : VRs g s w vs us) (h1 : vs.all one = true) : ∀ u ∈ us, u.oneCell' = true := by
  induction vs generalizing us with
  | nil => simp only [VRs] at h; subst h; simp
  | cons v vs ih =>
    simp only [VRs] at h
    obtain ⟨u, us', rfl, h2, h3⟩ := h
    simp only [List.all_cons, Bool.and_eq_true] at h1
    intro x hx
    cases hx with
    | head => exact one_ok h2 h1.1
    | tail _ hx => exact ih h3 h1.2 x hx
def sizeT (P : Program) (t : TypeId) : Option Nat := (P.info? t).map (·.size)
def zeroT (P : Program) (t : TypeId) : Option V := ((P.info? t).bind (·.zero)).bind ofVal
def isAggT (P : Program) (t : TypeId) : Option Bool := (P.underlying t).map fun | .struct _ | .array _ _ => true | _ => false
theorem run_sizeT {t : TypeId} {n : Nat} (h : sizeT P t = some n) (w : World) : (sizeOf t).run P w = .ok n w := by
  unfold sizeT at h
  rw [gA1] at h
  obtain ⟨i, hi, rfl⟩ := h
  simp [sizeOf, typeInfo, hi]
theorem run_zeroT {t : TypeId} {z : V} (h : zeroT P t = some z) : ∃ u, (∀ w, (zeroValue t).run P w = .ok u w) ∧ ofVal u = some z := by
  unfold zeroT at h
  rw [Option.bind_eq_some_iff] at h
  obtain ⟨u, hu, hz⟩ := h
  rw [Option.bind_eq_some_iff] at hu
  obtain ⟨i, hi, hu⟩ := hu
  exact ⟨u, fun w => by simp [zeroValue, typeInfo, hi, hu], hz⟩
theorem run_isAggT {t : TypeId} {b : Bool} (h : isAggT P t = some b) (w : World) : (isAgg t).run P w = .ok b w := by
  unfold isAggT at h
  rw [gA1] at h
  obtain ⟨d, hd, rfl⟩ := h
  simp [isAgg, run_underlying hd]
  cases d <;> simp
def vpart (P : Program) (t : TypeId) (cs : List V) (off : Nat) : Option V :=
  match isAggT P t, sizeT P t with
  | some true, some n => if off + n ≤ cs.length then some (.agg ((cs.drop off).take n)) else none
  | some false, _ => cs[off]?
  | _, _ => none
theorem vpart_ok {t : TypeId} {cs : List V} {us : Array Value} {off : Nat} {v : V} (hc : VRs g s w cs us.toList) (h : vpart P t cs off = some v) : ∃ u, (part t us off).run P w = .ok u w ∧ VR g s w v u := by
  unfold vpart at h
  split at h
  · rename_i n ha hn
    split at h
    · injection h with h
      subst h
      refine ⟨.agg (us.extract off (off + n)), by simp [part, run_isAggT ha, run_sizeT hn], ?_⟩
      simp only [VR]
      refine ⟨(us.toList.drop off).take n, congrArg Value.agg (by apply Array.ext'; simp [List.extract_eq_take_drop]), ?_⟩
      exact (hc.drop off).take n
    · cases h
  · rename_i ha
    obtain ⟨u, hu, hr⟩ := hc.get off h
    refine ⟨u, ?_, hr⟩
    rw [Array.getElem?_toList] at hu
    simp [part, run_isAggT ha, hu]
  · cases h
def vfield (P : Program) (t : TypeId) (x : V) (f : Nat) : Option V :=
  match P.underlying t, x with
  | some (.struct fields), .agg cs => match fields[f]? with
    | some fd => vpart P fd.type cs fd.offset
    | none => none
  | _, _ => none
theorem vfield_ok {t : TypeId} {x : V} {u : Value} {f : Nat} {v : V} (hx : VR g s w x u) (h : vfield P t x f = some v) : ∃ y, (Instr.field t u f).run P w = .ok y w ∧ VR g s w v y := by
  unfold vfield at h
  split at h
  · rename_i fields cs hu
    simp only [VR] at hx
    obtain ⟨us, rfl, hc⟩ := hx
    split at h
    · rename_i fd hfd
      obtain ⟨y, hy, hr⟩ := vpart_ok (us := us.toArray) (by simpa using hc) h
      exact ⟨y, by simp [Instr.field, run_underlying hu, hfd, asAgg, hy], hr⟩
    · cases h
  · cases h
def bitOp (op : BinOp) (k : IntKind) (x y : Int) : Option Int :=
  let a := BitVec.ofInt k.bits x
  let b := BitVec.ofInt k.bits y
  match op with
  | .and => some (k.wrap ((a &&& b).toNat : Int))
  | .or => some (k.wrap ((a ||| b).toNat : Int))
  | .xor => some (k.wrap ((a ^^^ b).toNat : Int))
  | .andNot => some (k.wrap ((a &&& ~~~b).toNat : Int))
  | _ => none
def intBin (op : BinOp) (k : IntKind) (x y : Int) : Option V :=
  match op with
  | .add => some (.int k (k.wrap (x + y)))
  | .sub => some (.int k (k.wrap (x - y)))
  | .mul => some (.int k (k.wrap (x * y)))
  | .quo => if y = 0 then none else some (.int k (k.wrap (x.tdiv y)))
  | .rem => if y = 0 then none else some (.int k (x.tmod y))
  | .eql => some (.bool (decide (x = y)))
  | .neq => some (.bool (!decide (x = y)))
  | .lss => some (.bool (decide (x < y)))
  | .leq => some (.bool (decide (x ≤ y)))
  | .gtr => some (.bool (decide (y < x)))
  | .geq => some (.bool (decide (y ≤ x)))
  | .shl | .shr => none
  | op => (bitOp op k x y).map (.int k)
def shiftBin (op : BinOp) (k : IntKind) (x y : Int) : Option V :=
  if y < 0 then none else
  match op with
  | .shl => some (.int k (k.wrap (x * 2 ^ (min y.toNat k.bits))))
  | .shr => some (.int k (x / 2 ^ (min y.toNat k.bits)))
  | _ => none
theorem intBin_ok {op : BinOp} {k : IntKind} {x y : Int} {t : TypeId} {v : V} (h : intBin op k x y = some v) : ∃ u, (binOp op t (.int k x) (.int k y)).run P w = .ok u w ∧ VR g s w v u := by
  cases op <;> simp only [intBin, bitOp, Option.map_some, Option.some.injEq] at h <;> (try cases h) <;> (try (split at h; · cases h))
    <;> (try (injection h with h; subst h))
  case eql => exact ⟨.bool (x == y), by simp [binOp, Op.intCmp], by simp only [VR]; exact congrArg _ (by rw [Bool.eq_iff_iff]; simp)⟩
  case neq => exact ⟨.bool (x != y), by simp [binOp, Op.intCmp], by simp only [VR]; exact congrArg _ (by rw [Bool.eq_iff_iff]; simp)⟩
  all_goals first
    | (refine ⟨_, by simp [binOp, Op.intArith]; rfl, ?_⟩; simp [VR]; done)
    | (refine ⟨_, by simp [binOp, Op.intBits]; rfl, ?_⟩; simp [VR]; done)
    | (refine ⟨_, by simp [binOp, Op.intCmp]; rfl, ?_⟩; simp [VR]; done)
    | (rename_i h0; injection h with h; subst h; exact ⟨_, by simp [binOp, Op.intDiv, h0], by simp only [VR]; rfl⟩)
    | (rename_i h0; injection h with h; subst h; exact ⟨_, by simp [binOp, Op.intDiv, h0]; rfl, by simp only [VR]⟩)
    | (rename_i h0; exact ⟨_, by simp [binOp, Op.intDiv, h0]; rfl, by simp only [VR]⟩)
    | (refine ⟨_, by simp [binOp, Op.intCmp]; rfl, ?_⟩; simp only [VR]; congr 1; rw [Bool.eq_iff_iff]; simp; done)
theorem shiftBin_ok {op : BinOp} {k k' : IntKind} {x y : Int} {t : TypeId} {v : V} (h : shiftBin op k x y = some v) : ∃ u, (binOp op t (.int k x) (.int k' y)).run P w = .ok u w ∧ VR g s w v u := by
  unfold shiftBin at h
  split at h
  · cases h
  · rename_i h0
    split at h
    · injection h with h
      subst h
      exact ⟨.int k (k.wrap (x * 2 ^ (min y.toNat k.bits))), by simp [binOp, Op.shift, h0], by simp [VR]⟩
    · injection h with h
      subst h
      refine ⟨.int k (x.fdiv (2 ^ (min y.toNat k.bits))), by simp [binOp, Op.shift, h0], ?_⟩
      simp only [VR]
      rw [Int.fdiv_eq_ediv_of_nonneg _ (Int.le_of_lt (Int.pow_pos (by decide)))]
    · cases h
def bytesLt : List UInt8 → List UInt8 → Bool
  | _, [] => false
  | [], _ :: _ => true
  | a :: x, b :: y => decide (a < b) || (a == b && bytesLt x y)
theorem bytesLt_eq : ∀ x y, Op.bytesLess x y = bytesLt x y
  | _, [] => by simp [Op.bytesLess, bytesLt]
  | [], _ :: _ => by simp [Op.bytesLess, bytesLt]
  | a :: x, b :: y => by simp [Op.bytesLess, bytesLt, bytesLt_eq x y]
theorem toList_mk (l : List UInt8) : (⟨l.toArray⟩ : ByteArray).toList = l := by
  have key : ∀ (n i : Nat) (acc : List UInt8), l.length - i = n → ByteArray.toList.loop ⟨l.toArray⟩ i acc = acc.reverse ++ l.drop i := by
    intro n
    induction n with
    | zero =>
      intro i acc hn
      unfold ByteArray.toList.loop
      rw [if_neg (by show ¬ i < l.toArray.size; simp; omega)]
      rw [List.drop_of_length_le (by omega)]
      simp
    | succ n ih =>
      intro i acc hn
      have hi : i < l.length := by omega
      unfold ByteArray.toList.loop
      rw [if_pos (by show i < l.toArray.size; simpa using hi), ih (i + 1) _ (by omega)]
      have hd : l.drop i = l[i] :: l.drop (i + 1) := List.drop_eq_getElem_cons hi
      have hg : (⟨l.toArray⟩ : ByteArray).get! i = l[i] := by
        show l.toArray[i]! = l[i]
        rw [getElem!_pos l.toArray i (by simpa using hi)]
        simp
      rw [hg, hd]
      simp
  have := key l.length 0 [] (by omega)
  simpa [ByteArray.toList] using this
theorem size_mk (l : List UInt8) : (⟨l.toArray⟩ : ByteArray).size = l.length := by show l.toArray.size = _; simp
theorem append_mk (x y : List UInt8) : (⟨x.toArray⟩ : ByteArray) ++ ⟨y.toArray⟩ = ⟨(x ++ y).toArray⟩ := by
  have h : ∀ a b : ByteArray, (a ++ b).data = a.data ++ b.data := fun a b => ByteArray.data_append ..
  have e := h ⟨x.toArray⟩ ⟨y.toArray⟩
  cases hh : (⟨x.toArray⟩ : ByteArray) ++ ⟨y.toArray⟩ with
  | mk d =>
    rw [hh] at e
    simp only at e
    rw [e]
    simp
def strBin (op : BinOp) (x y : List UInt8) : Option V :=
  match op with
  | .add => if x.length + y.length ≤ 9223372036854775807 then some (.str (x ++ y)) else none
  | .eql => some (.bool (decide (x = y)))
  | .neq => some (.bool (!decide (x = y)))
  | .lss => some (.bool (bytesLt x y))
  | .leq => some (.bool (bytesLt x y || decide (x = y)))
  | .gtr => some (.bool (!(bytesLt x y || decide (x = y))))
  | .geq => some (.bool (!bytesLt x y))
  | _ => none
theorem strBin_ok {op : BinOp} {x y : List UInt8} {t : TypeId} {v : V} (h : strBin op x y = some v) : ∃ u, (binOp op t (.string ⟨x.toArray⟩) (.string ⟨y.toArray⟩)).run P w = .ok u w ∧ VR g s w v u := by
  have hb : (x == y) = decide (x = y) := by rw [Bool.eq_iff_iff]; simp
  cases op <;> simp only [strBin] at h <;> (try cases h)
  case add =>
    split at h
    · rename_i h0
      injection h with h
      subst h
      have h1 : ¬ (9223372036854775807 : Int) < (x.length : Int) + (y.length : Int) := by omega
      exact ⟨_, by simp [binOp, Op.stringOp, size_mk, h1]; rfl, by simp [VR, append_mk]⟩
    · cases h
  all_goals exact ⟨_, by simp [binOp, Op.stringOp]; rfl, by simp [VR, toList_mk, bytesLt_eq, hb]⟩
def fieldsEqW (P : Program) (f : TypeId → V → V → Option Bool) : List Field → List V → List V → Option Bool
  | [], _, _ => some true
  | fd :: fs, xs, ys =>
    if fd.name ≠ "_" then
      match vpart P fd.type xs fd.offset, vpart P fd.type ys fd.offset with
      | some a, some b => match f fd.type a b with
        | some true => fieldsEqW P f fs xs ys
        | some false => some false
        | none => none
      | _, _ => none
    else fieldsEqW P f fs xs ys
def aggEq (P : Program) : Nat → TypeId → V → V → Option Bool
  | 0, _, _, _ => none
  | d + 1, t, x, y =>
    match P.underlying t, x, y with
    | some .bool, .bool a, .bool b => some (a == b)
    | some (.int _), .int k a, .int k' b => if k = k' then some (decide (a = b)) else none
    | some .string, .str a, .str b => some (decide (a = b))
    | some (.pointer _), .nilp, .nilp => some true
    | some (.pointer _), .nilp, .optr _ _ | some (.pointer _), .optr _ _, .nilp => some false
    | some (.pointer _), .nilp, .eptr _ _ | some (.pointer _), .eptr _ _, .nilp => some false
    | some (.slice _), .nils, .nils => some true
    | some (.slice _), .nils, .slice .. | some (.slice _), .slice .., .nils => some false
    | some (.slice _), .nils, .hslice .. | some (.slice _), .hslice .., .nils => some false
    | some (.map _ _), .nilm, .nilm => some true
    | some (.map _ _), .nilm, .omap _ | some (.map _ _), .omap _, .nilm => some false
    | some (.func ..), .nilf, .nilf => some true
    | some (.func ..), .nilf, .func .. | some (.func ..), .func .., .nilf => some false
    | some (.interface _), .nili, .nili => some true
    | some (.interface _), .nili, .iface _ _ | some (.interface _), .iface _ _, .nili => some false
    | some (.interface _), .iface tx vx, .iface ty vy =>
      if tx ≠ ty then some false else
      match (P.info? tx).map (·.comparable) with
      | some true => aggEq P d tx vx vy
      | _ => none
    | some (.struct fields), .agg xs, .agg ys => if P.stoodInHeld t then none else fieldsEqW P (fun t a b => aggEq P d t a b) fields.toList xs ys
    | _, _, _ => none
def aggEq.fieldsEq (P : Program) (d : Nat) (fs : List Field) (xs ys : List V) : Option Bool := fieldsEqW P (fun t a b => aggEq P d t a b) fs xs ys
theorem fieldsEq_nil {P : Program} {d : Nat} {xs ys : List V} : aggEq.fieldsEq P d [] xs ys = some true := rfl
theorem fieldsEq_cons {P : Program} {d : Nat} {f : Field} {fs : List Field} {xs ys : List V} : aggEq.fieldsEq P d (f :: fs) xs ys =
      if f.name ≠ "_" then
        match vpart P f.type xs f.offset, vpart P f.type ys f.offset with
        | some a, some b => match aggEq P d f.type a b with
          | some true => aggEq.fieldsEq P d fs xs ys
          | some false => some false
          | none => none
        | _, _ => none
      else aggEq.fieldsEq P d fs xs ys := rfl
end
end Go.Proofs.YtnegdinonfjdfaaDoor.Q
namespace Go.Proofs.YtnegdinonfjdfaaDoor.Q
open Go Go.RowKit
section
variable {P : Program} {g : Gh} {s : List Bool} {w : World}
theorem VR_nili {x : V} (h : VR g s w x .nilIface) : x = .nili := by cases x <;> simp [VR] at h ⊢
theorem VR_agg {x : V} {us : Array Value} (h : VR g s w x (.agg us)) : ∃ cs, x = .agg cs := by cases x <;> simp [VR] at h ⊢
theorem VR_intV {x : V} {k : IntKind} {n : Int} (h : VR g s w x (.int k n)) : x = .int k n := by cases x <;> simp [VR] at h ⊢; exact ⟨h.1.symm, h.2.symm⟩
theorem VR_strV {x : V} {z : ByteArray} (h : VR g s w x (.string z)) : ∃ l, x = .str l := by cases x <;> simp [VR] at h ⊢
set_option maxHeartbeats 4000000 in
mutual
theorem aggEq_ok : ∀ (d : Nat) {t : TypeId} {x y : V} {a b : Value} {r : Bool}, VR g s w x a → VR g s w y b → aggEq P d t x y = some r → (Op.equalIn d t a b).run P w = .ok r w
  | 0, t, x, y, a, b, r, hx, hy, h => by simp [aggEq] at h
  | d + 1, t, x, y, a, b, r, hx, hy, h => by
    unfold aggEq at h
    split at h
    case h_1 hu => simp only [VR] at hx hy; subst hx hy; injection h with h; subst h; rw [Op.equalIn]; simp only [Sem.run_bind, run_underlying hu, Result.andThen_ok]; rfl
    case h_2 hu =>
      simp only [VR] at hx hy; subst hx hy
      split at h
      · rename_i e; injection h with h; subst h; subst e; rw [Op.equalIn]; simp only [Sem.run_bind, run_underlying hu, Result.andThen_ok]; simp; rw [Bool.eq_iff_iff]; simp
      · cases h
    case h_3 p q hu =>
      simp only [VR] at hx hy; subst hx hy; injection h with h; subst h
      rw [run_equalIn_string (h := hu), toList_mk, toList_mk]
      congr 1
      rw [Bool.eq_iff_iff]; simp
    case h_4 hu => simp only [VR] at hx hy; subst hx hy; injection h with h; subst h; rw [Op.equalIn]; simp only [Sem.run_bind, run_underlying hu, Result.andThen_ok]; rfl
    case h_5 hu => simp only [VR] at hx hy; obtain ⟨_, hy⟩ := hy; subst hx hy; injection h with h; subst h; rw [Op.equalIn]; simp only [Sem.run_bind, run_underlying hu, Result.andThen_ok]; rfl
    case h_6 hu => simp only [VR] at hx hy; obtain ⟨_, hx⟩ := hx; subst hx hy; injection h with h; subst h; rw [Op.equalIn]; simp only [Sem.run_bind, run_underlying hu, Result.andThen_ok]; rfl
    case h_7 hu => simp only [VR] at hx hy; obtain ⟨_, _, _, hy, _⟩ := hy; subst hx hy; injection h with h; subst h; rw [Op.equalIn]; simp only [Sem.run_bind, run_underlying hu, Result.andThen_ok]; rfl
    case h_8 hu => simp only [VR] at hx hy; obtain ⟨_, _, _, hx, _⟩ := hx; subst hx hy; injection h with h; subst h; rw [Op.equalIn]; simp only [Sem.run_bind, run_underlying hu, Result.andThen_ok]; rfl
    case h_9 hu => simp only [VR] at hx hy; subst hx hy; injection h with h; subst h; rw [Op.equalIn]; simp only [Sem.run_bind, run_underlying hu, Result.andThen_ok]; rfl
    case h_10 hu => simp only [VR] at hx hy; obtain ⟨_, _, _, hy, _⟩ := hy; subst hx hy; injection h with h; subst h; rw [Op.equalIn]; simp only [Sem.run_bind, run_underlying hu, Result.andThen_ok]; rfl
    case h_11 hu => simp only [VR] at hx hy; obtain ⟨_, _, _, hx, _⟩ := hx; subst hx hy; injection h with h; subst h; rw [Op.equalIn]; simp only [Sem.run_bind, run_underlying hu, Result.andThen_ok]; rfl
    case h_12 hu => simp only [VR] at hx hy; obtain ⟨_, _, hy, _⟩ := hy; subst hx hy; injection h with h; subst h; rw [Op.equalIn]; simp only [Sem.run_bind, run_underlying hu, Result.andThen_ok]; rfl
    case h_13 hu => simp only [VR] at hx hy; obtain ⟨_, _, hx, _⟩ := hx; subst hx hy; injection h with h; subst h; rw [Op.equalIn]; simp only [Sem.run_bind, run_underlying hu, Result.andThen_ok]; rfl
    case h_14 hu => simp only [VR] at hx hy; subst hx hy; injection h with h; subst h; rw [Op.equalIn]; simp only [Sem.run_bind, run_underlying hu, Result.andThen_ok]; rfl
    case h_15 hu => simp only [VR] at hx hy; obtain ⟨_, hy⟩ := hy; subst hx hy; injection h with h; subst h; rw [Op.equalIn]; simp only [Sem.run_bind, run_underlying hu, Result.andThen_ok]; rfl
    case h_16 hu => simp only [VR] at hx hy; obtain ⟨_, hx⟩ := hx; subst hx hy; injection h with h; subst h; rw [Op.equalIn]; simp only [Sem.run_bind, run_underlying hu, Result.andThen_ok]; rfl
    case h_17 hu => simp only [VR] at hx hy; subst hx hy; injection h with h; subst h; rw [Op.equalIn]; simp only [Sem.run_bind, run_underlying hu, Result.andThen_ok]; rfl
    case h_18 hu => simp only [VR] at hx hy; obtain ⟨_, hy, _⟩ := hy; subst hx hy; injection h with h; subst h; rw [Op.equalIn]; simp only [Sem.run_bind, run_underlying hu, Result.andThen_ok]; rfl
    case h_19 hu => simp only [VR] at hx hy; obtain ⟨_, hx, _⟩ := hx; subst hx hy; injection h with h; subst h; rw [Op.equalIn]; simp only [Sem.run_bind, run_underlying hu, Result.andThen_ok]; rfl
    case h_20 hu => simp only [VR] at hx hy; subst hx hy; injection h with h; subst h; rw [Op.equalIn]; simp only [Sem.run_bind, run_underlying hu, Result.andThen_ok]; rfl
    case h_21 hu => simp only [VR] at hx hy; obtain ⟨_, hy, _⟩ := hy; subst hx hy; injection h with h; subst h; rw [Op.equalIn]; simp only [Sem.run_bind, run_underlying hu, Result.andThen_ok]; rfl
    case h_22 hu => simp only [VR] at hx hy; obtain ⟨_, hx, _⟩ := hx; subst hx hy; injection h with h; subst h; rw [Op.equalIn]; simp only [Sem.run_bind, run_underlying hu, Result.andThen_ok]; rfl
    case h_23 tx vx ty vy hu =>
      simp only [VR] at hx hy
      obtain ⟨ux, hx, hvx⟩ := hx
      obtain ⟨uy, hy, hvy⟩ := hy
      subst hx hy
      split at h
      · rename_i e; injection h with h; subst h; rw [Op.equalIn]; simp only [Sem.run_bind, run_underlying hu, Result.andThen_ok]; rw [if_pos e]; rfl
      · rename_i e
        split at h
        · rename_i hc
          rw [gA1] at hc
          obtain ⟨i, hi, hic⟩ := hc
          have e' : tx = ty := Classical.byContradiction e
          have := aggEq_ok d hvx hvy h
          subst e'
          rw [Op.equalIn]
          simp only [Sem.run_bind, run_underlying hu, Result.andThen_ok]
          rw [if_neg e]
          simp [typeInfo, hi, hic, this]
        · cases h
    case h_24 fields xs ys hu =>
      simp only [VR] at hx hy
      obtain ⟨us, hx, hxs⟩ := hx
      obtain ⟨vs, hy, hys⟩ := hy
      subst hx hy
      split at h
      · cases h
      · rename_i hp
        have hf : P.fieldsOf t = fields := by simp [Program.fieldsOf, hu]
        rw [run_equalIn_struct (P := P) w d t _ _ (by rw [hf]; exact hu) (by simpa using hp), hf]
        exact fieldsEq_ok d fields.toList (us := us.toArray) (vs := vs.toArray) (by simpa using hxs) (by simpa using hys) h
    case h_25 => cases h
theorem fieldsEq_ok : ∀ (d : Nat) (fs : List Field) {xs ys : List V} {us vs : Array Value} {r : Bool}, VRs g s w xs us.toList → VRs g s w ys vs.toList → aggEq.fieldsEq P d fs xs ys = some r → (Op.eqFields d us vs fs).run P w = .ok r w
  | d, [], xs, ys, us, vs, r, hx, hy, h => by simp only [fieldsEq_nil] at h; injection h with h; subst h; simp [Op.eqFields]
  | d, f :: fs, xs, ys, us, vs, r, hx, hy, h => by
    rw [fieldsEq_cons] at h
    split at h
    · rename_i hn
      split at h
      · rename_i a b ha hb
        obtain ⟨ua, hua, hra⟩ := vpart_ok hx ha
        obtain ⟨ub, hub, hrb⟩ := vpart_ok hy hb
        split at h
        · rename_i he
          have := aggEq_ok d hra hrb he
          have h2 := fieldsEq_ok d fs hx hy h
          simp only [Op.eqFields]
          rw [if_pos hn]
          simp [hua, hub, this, h2]
        · rename_i he
          injection h with h
          subst h
          have := aggEq_ok d hra hrb he
          simp only [Op.eqFields]
          rw [if_pos hn]
          simp [hua, hub, this]
        · cases h
      · cases h
    · rename_i hn
      simp only [Op.eqFields]
      rw [if_neg hn]
      exact fieldsEq_ok d fs hx hy h
end
def isC : Operand → Bool
  | .const _ => true
  | _ => false
def guardFree (P : Program) (t : TypeId) (xo yo : Operand) : V → V → Bool
  | .nili, .nili => isC xo || isC yo
  | .agg _, .agg _ => !P.eqGuardType P.depth t
  | _, _ => true
def bothSame : V → V → Bool
  | .int _ _, .int _ _ => true
  | .str _, .str _ => true
  | _, _ => false
def vbin (P : Program) (op : BinOp) (t : TypeId) (xo yo : Operand) (x y : V) : Option V :=
  match x, y with
  | .int k a, .int k' b => match op with
    | .shl => shiftBin .shl k a b
    | .shr => shiftBin .shr k a b
    | op => if k = k' then intBin op k a b else none
  | .str a, .str b => strBin op a b
  | x, y =>
    if bothSame x y then none else
    match op with
    | .eql => if guardFree P t xo yo x y then (aggEq P 10000 t x y).map .bool else none
    | .neq => if guardFree P t xo yo x y then (aggEq P 10000 t x y).map fun b => .bool (!b) else none
    | _ => none
theorem guard_ok {op : BinOp} {t : TypeId} {xo yo : Operand} {x y : V} {a b : Value} (hx : VR g s w x a) (hy : VR g s w y b) (h : guardFree P t xo yo x y = true) : (eqGuard op t xo yo a b).run P w = .ok () w := by
  cases op <;> (try (simp [eqGuard]; done))
  all_goals
    unfold eqGuard
    simp only [Bool.not_true, Bool.false_eq_true, if_false]
    split
    · rename_i e1 e2
      have h1 := VR_nili hx
      have h2 := VR_nili hy
      subst h1 h2
      simp only [guardFree, Bool.or_eq_true] at h
      rw [if_pos]
      · simp
      · simp only [Bool.or_eq_true]
        rcases h with h | h
        · left; cases xo <;> simp [isC] at h ⊢
        · right; cases yo <;> simp [isC] at h ⊢
    · rename_i e1 e2
      obtain ⟨c1, h1⟩ := VR_agg hx
      obtain ⟨c2, h2⟩ := VR_agg hy
      subst h1 h2
      simp only [guardFree] at h
      have h' : P.eqGuardType P.depth t = false := by simpa using h
      simp [run_program, h']
    · simp
theorem eql_run {t : TypeId} {a b : Value} {r : Bool} (h : (Op.equalIn 10000 t a b).run P w = .ok r w) (hn : ∀ k x k' y, a = .int k x → b = .int k' y → False) (hs : ∀ x y, a = .string x → b = .string y → False)
    (hf : ∀ k x k' y, a = .float k x → b = .float k' y → False) (hc : ∀ k x z k' y q, a = .complex k x z → b = .complex k' y q → False) :
    (binOp .eql t a b).run P w = .ok (.bool r) w ∧ (binOp .neq t a b).run P w = .ok (.bool (!r)) w := by
  have he : binOp .eql t a b = (do pure (.bool (← Op.equal t a b))) := by
    unfold binOp
    split <;> first | rfl | (exfalso; rename_i h1 h2 h3; cases h1; done) | (exfalso; first | exact hn _ _ _ _ rfl rfl | exact hs _ _ rfl rfl | exact hf _ _ _ _ rfl rfl | exact hc _ _ _ _ _ _ rfl rfl) | simp_all
  have hne : binOp .neq t a b = (do pure (.bool (!(← Op.equal t a b)))) := by
    unfold binOp
    split <;> first | rfl | (exfalso; first | exact hn _ _ _ _ rfl rfl | exact hs _ _ rfl rfl | exact hf _ _ _ _ rfl rfl | exact hc _ _ _ _ _ _ rfl rfl) | simp_all
  rw [he, hne]
  constructor <;> simp [Op.equal, Op.maxDepth, h]
end
end Go.Proofs.YtnegdinonfjdfaaDoor.Q
namespace Go.Proofs.YtnegdinonfjdfaaDoor.Q
open Go Go.RowKit
section
variable {P : Program} {g : Gh} {s : List Bool} {w : World}
def POk (P : Program) (g : Gh) (s : List Bool) (w : World) (m : Sem Value) (v : V) : Prop := ∃ u, m.run P w = .ok u w ∧ VR g s w v u
theorem vbin_ok {op : BinOp} {t : TypeId} {xo yo : Operand} {x y v : V} {a b : Value} (hx : VR g s w x a) (hy : VR g s w y b) (h : vbin P op t xo yo x y = some v) :
    POk P g s w (do eqGuard op t xo yo a b; binOp op t a b) v := by
  have gint : ∀ k n k' n', (eqGuard op t xo yo (.int k n) (.int k' n')).run P w = .ok () w := by intros; cases op <;> simp [eqGuard]
  have gstr : ∀ z z', (eqGuard op t xo yo (.string z) (.string z')).run P w = .ok () w := by intros; cases op <;> simp [eqGuard]
  unfold vbin at h
  split at h
  · simp only [VR] at hx hy
    subst hx hy
    split at h
    · obtain ⟨u, hu, hr⟩ := shiftBin_ok (P := P) (g := g) (s := s) (w := w) (t := t) (k' := _) h
      exact ⟨u, by simp only [Sem.run_bind, gint, Result.andThen_ok]; exact hu, hr⟩
    · obtain ⟨u, hu, hr⟩ := shiftBin_ok (P := P) (g := g) (s := s) (w := w) (t := t) (k' := _) h
      exact ⟨u, by simp only [Sem.run_bind, gint, Result.andThen_ok]; exact hu, hr⟩
    · split at h
      · rename_i e
        subst e
        obtain ⟨u, hu, hr⟩ := intBin_ok (P := P) (g := g) (s := s) (w := w) (t := t) h
        exact ⟨u, by simp only [Sem.run_bind, gint, Result.andThen_ok]; exact hu, hr⟩
      · cases h
  · simp only [VR] at hx hy
    subst hx hy
    obtain ⟨u, hu, hr⟩ := strBin_ok (P := P) (g := g) (s := s) (w := w) (t := t) h
    exact ⟨u, by simp only [Sem.run_bind, gstr, Result.andThen_ok]; exact hu, hr⟩
  · split at h
    · cases h
    · rename_i hb
      have hn : ∀ k p k' q, a = .int k p → b = .int k' q → False := by
        intro k p k' q e1 e2; subst e1 e2
        rw [VR_intV hx, VR_intV hy] at hb; simp [bothSame] at hb
      have hs : ∀ p q, a = .string p → b = .string q → False := by
        intro p q e1 e2; subst e1 e2
        obtain ⟨_, e1⟩ := VR_strV hx
        obtain ⟨_, e2⟩ := VR_strV hy
        rw [e1, e2] at hb; simp [bothSame] at hb
      have hf : ∀ k p k' q, a = .float k p → b = .float k' q → False := by
        intro k p k' q e1 e2; subst e1; cases x <;> simp [VR] at hx
      have hc : ∀ k p z k' q r, a = .complex k p z → b = .complex k' q r → False := by
        intro k p z k' q r e1 e2; subst e1; cases x <;> simp [VR] at hx
      split at h
      · split at h
        · rename_i hg
          rw [gA1] at h
          obtain ⟨r, hr, rfl⟩ := h
          have := (eql_run (P := P) (w := w) (aggEq_ok 10000 hx hy hr) hn hs hf hc).1
          exact ⟨.bool r, by simp only [Sem.run_bind, guard_ok hx hy hg, Result.andThen_ok]; exact this, by simp [VR]⟩
        · cases h
      · split at h
        · rename_i hg
          rw [gA1] at h
          obtain ⟨r, hr, rfl⟩ := h
          have := (eql_run (P := P) (w := w) (aggEq_ok 10000 hx hy hr) hn hs hf hc).2
          exact ⟨.bool (!r), by simp only [Sem.run_bind, guard_ok hx hy hg, Result.andThen_ok]; exact this, by simp [VR]⟩
        · cases h
      · cases h
def vun (op : UnOp) (x : V) : Option V :=
  match op, x with
  | .not, .bool b => some (.bool (!b))
  | .neg, .int k n => some (.int k (k.wrap (0 - n)))
  | .xor, .int k n => (bitOp .xor k (if k.signed then -1 else k.max) n).map (.int k)
  | _, _ => none
theorem vun_ok {op : UnOp} {x v : V} {a : Value} (hx : VR g s w x a) (h : vun op x = some v) : POk P g s w (Op.unary op a) v := by
  unfold vun at h
  split at h
  · simp only [VR] at hx; subst hx; injection h with h; subst h
    exact ⟨_, by simp [Op.unary]; rfl, by simp [VR]⟩
  · simp only [VR] at hx; subst hx; injection h with h; subst h
    rename_i k n
    exact ⟨.int k (k.wrap (0 - n)), by simp [Op.unary, Op.intArith], by simp [VR]⟩
  · simp only [VR] at hx; subst hx
    simp only [bitOp, Option.map_some] at h
    injection h with h; subst h
    exact ⟨_, by simp [Op.unary, Op.intBits]; rfl, by simp [VR]⟩
  · cases h
def byteOf1 : V → Option UInt8
  | .int .u8 n => some (UInt8.ofNat n.toNat)
  | _ => none
def bytesOf' : List V → Option (List UInt8)
  | [] => some []
  | v :: vs => match byteOf1 v, bytesOf' vs with
    | some b, some bs => some (b :: bs)
    | _, _ => none
theorem bytesOf'_ok : ∀ {cs : List V} {us : List Value} {l : List UInt8}, VRs g s w cs us → bytesOf' cs = some l → ∃ xs : List Int, us = xs.map (Value.int .u8) ∧ l = xs.map (fun n => UInt8.ofNat n.toNat)
  | [], us, l, h, hb => by
    simp only [VRs] at h; simp only [bytesOf'] at hb; injection hb with hb; subst h hb
    exact ⟨[], rfl, rfl⟩
  | c :: cs, us, l, h, hb => by
    simp only [VRs] at h
    obtain ⟨u, us', rfl, h1, h2⟩ := h
    simp only [bytesOf'] at hb
    split at hb
    · rename_i b bs e1 e2
      injection hb with hb
      subst hb
      obtain ⟨xs, rfl, rfl⟩ := bytesOf'_ok h2 e2
      unfold byteOf1 at e1
      split at e1
      · rename_i n
        injection e1 with e1
        subst e1
        simp only [VR] at h1
        subst h1
        exact ⟨n :: xs, rfl, rfl⟩
      · cases e1
    · cases hb
def isU8 (P : Program) (e : TypeId) : Bool := match P.underlying e with | some (.int .u8) => true | _ => false
theorem isU8_eq {e : TypeId} (h : isU8 P e = true) : P.underlying e = some (.int .u8) := by
  unfold isU8 at h
  split at h
  · assumption
  · cases h
def vconv (P : Program) (src dst : TypeId) (x : V) : Option V :=
  match P.underlying src, P.underlying dst, x with
  | some _, some (.int k), .int _ n => some (.int k (k.wrap n))
  | some _, some .string, .str l => some (.str l)
  | some _, some .string, .int _ n => some (.str (Utf8.encode n).data.toList)
  | some (.slice e), some .string, .nils => if isU8 P e then some (.str []) else none
  | some (.slice e), some .string, .slice _ _ cs len => if isU8 P e && cs.length == len then (bytesOf' cs).map .str else none
  | _, _, _ => none
theorem vconv_ok {src dst : TypeId} {x v : V} {a : Value} (hx : VR g s w x a) (h : vconv P src dst x = some v) : POk P g s w (convert src dst a) v := by
  unfold vconv at h
  split at h
  · rename_i h1 h2
    simp only [VR] at hx; subst hx; injection h with h; subst h
    exact ⟨_, by simp [convert, run_underlying h1, run_underlying h2, Conv.intToInt]; rfl, by simp [VR]⟩
  · rename_i h1 h2
    simp only [VR] at hx; subst hx; injection h with h; subst h
    exact ⟨_, by simp [convert, run_underlying h1, run_underlying h2]; rfl, by simp [VR]⟩
  · rename_i h1 h2
    simp only [VR] at hx; subst hx; injection h with h; subst h
    exact ⟨_, by simp [convert, run_underlying h1, run_underlying h2, Conv.intToString]; rfl, by simp [VR]⟩
  · rename_i e h1 h2
    simp only [VR] at hx; subst hx
    split at h
    · rename_i he
      injection h with h; subst h
      exact ⟨_, run_convert_bytes_nil w src e h1 (isU8_eq he) 0 0 dst h2, by simp [VR]; rfl⟩
    · cases h
  · rename_i e p es cs len h1 h2
    simp only [VR] at hx
    obtain ⟨ad, cap, us, rfl, hl, hc, hm, hr, hs, hp⟩ := hx
    split at h
    · rename_i he
      simp only [Bool.and_eq_true, beq_iff_eq] at he
      rw [gA1] at h
      obtain ⟨l, h3, rfl⟩ := h
      obtain ⟨xs, rfl, rfl⟩ := bytesOf'_ok hs h3
      have hlen : xs.length = len := by have := hs.length; simp at this; omega
      by_cases h0 : len = 0
      · have hx0 : xs = [] := List.eq_nil_of_length_eq_zero (by omega)
        subst h0 hx0
        refine ⟨.string ByteArray.empty, ?_, by simp [VR]; rfl⟩
        rw [run_convert_bytes_string w src dst e (some ad) 0 cap h1 (isU8_eq he.1) h2]
        simp [Conv.bytesToString, loadCells, loadCellsFrom]
      · obtain ⟨hsp, hrow⟩ := hr (fun e => by rw [List.map_eq_nil_iff] at e; subst e; simp at hlen; omega)
        obtain ⟨b, o, sp⟩ := ad
        simp only at hsp hrow
        subst hsp
        refine ⟨.string (strOfNums xs), run_convert_bytes_arg w src e h1 (isU8_eq he.1) b o len cap xs hlen (fun i hi => ?_) dst h2, by simp [VR, strOfNums]⟩
        exact hrow.2 i _ (by simp [List.getElem?_map, List.getElem?_eq_getElem (show i < xs.length by omega), gA6])
    · cases h
  · cases h
def vindex (P : Program) (t : TypeId) (x i : V) : Option V :=
  match P.underlying t, x, i with
  | some .string, .str l, .int _ n => if 0 ≤ n then (l[n.toNat]?).map fun b => .int .u8 (b.toNat : Int) else none
  | some (.array len e), .agg cs, .int _ n => match sizeT P e with
    | some sz => if 0 ≤ n ∧ n < len then vpart P e cs (n.toNat * sz) else none
    | none => none
  | _, _, _ => none
theorem vindex_ok {t : TypeId} {x i v : V} {a b : Value} (hx : VR g s w x a) (hi : VR g s w i b) (h : vindex P t x i = some v) : POk P g s w (Instr.index t a b) v := by
  unfold vindex at h
  split at h
  · rename_i l k n hu
    simp only [VR] at hx hi; subst hx hi
    split at h
    · rename_i h0
      rw [gA1] at h
      obtain ⟨c, hc, rfl⟩ := h
      have hn : n.toNat < l.length := (gA0.1 hc).1
      have hg : (⟨l.toArray⟩ : ByteArray)[n.toNat]? = some c := by
        have hs : n.toNat < (⟨l.toArray⟩ : ByteArray).size := by rw [size_mk]; exact hn
        rw [getElem?_pos (⟨l.toArray⟩ : ByteArray) n.toNat hs]
        have := (gA0.1 hc).2
        rw [← this]
        rfl
      exact ⟨.int .u8 (c.toNat : Int), by simp [Instr.index, run_underlying hu, asIntOf, h0, hg], by simp [VR]⟩
    · cases h
  · rename_i len e cs k n hu
    simp only [VR] at hx hi; subst hi
    obtain ⟨us, rfl, hc⟩ := hx
    split at h
    · rename_i sz hsz
      split at h
      · rename_i h0
        obtain ⟨u, hu', hr⟩ := vpart_ok (P := P) (us := us.toArray) (by simpa using hc) h
        exact ⟨u, by simp only [Instr.index, Sem.run_bind, asIntOf, Sem.run_pure, Result.andThen_ok, run_underlying hu]; rw [if_pos h0]; simp only [Sem.run_bind, run_sizeT hsz, Result.andThen_ok]; exact hu', hr⟩
      · cases h
    · cases h
  · cases h
def vb (x : Option V) (dflt y : Nat) : Option Nat :=
  match x with
  | none => some dflt
  | some (.int _ i) => if 0 ≤ i ∧ i ≤ y then some i.toNat else none
  | _ => none
def vbounds (len : Nat) (lo hi mx : Option V) : Option (Nat × Nat × Option Nat) :=
  match mx with
  | none => match vb hi len len with
    | some h => match vb lo 0 h with
      | some l => some (l, h, none)
      | none => none
    | none => none
  | some m => match vb (some m) 0 len, hi with
    | some m', some h => match vb (some h) 0 m' with
      | some h' => match vb lo 0 h' with
        | some l => some (l, h', some m')
        | none => none
      | none => none
    | _, _ => none
inductive OR (R : V → Value → Prop) : Option V → Option Value → Prop
  | none : OR R none none
  | some {v : V} {u : Value} (h : R v u) : OR R (some v) (some u)
theorem sliceBound_ok {v : V} {a : Value} (hv : VR g s w v a) {d y y' r : Nat} (h : vb (some v) d y = some r) (hy : y ≤ y') (c : BoundsCode) : (Instr.sliceBound a y' c).run P w = .ok r w ∧ r ≤ y := by
  unfold vb at h
  split at h
  · cases ‹some v = none›
  · rename_i k i e
    injection e with e
    subst e
    simp only [VR] at hv; subst hv
    split at h
    · rename_i h0
      injection h with h; subst h
      have h1 : 0 ≤ i ∧ i ≤ (y' : Int) := ⟨h0.1, by omega⟩
      exact ⟨by simp only [Instr.sliceBound, Sem.run_bind, asIntOf, Sem.run_pure, Result.andThen_ok]; rw [if_pos h1]; simp, by omega⟩
    · cases h
  · cases h
theorem vb_none {d y r : Nat} (h : vb none d y = some r) : r = d := by
  simp only [vb] at h
  injection h with h
  exact h.symm
theorem vbounds_ok {isSlice : Bool} {len cap : Nat} {lo hi mx : Option V} {lo' hi' mx' : Option Value} (hlo : OR (VR g s w) lo lo') (hhi : OR (VR g s w) hi hi') (hmx : OR (VR g s w) mx mx') (hc : len ≤ cap) {l h : Nat} {m : Option Nat}
    (hb : vbounds len lo hi mx = some (l, h, m)) : (Instr.sliceBounds isSlice len cap lo' hi' mx').run P w = .ok (l, h, m.getD cap) w ∧ l ≤ h ∧ h ≤ len ∧ (∀ k, m = some k → h ≤ k ∧ k ≤ len) := by
  unfold vbounds at hb
  cases hmx with
  | none =>
    simp only at hb
    split at hb
    · rename_i h1 e1
      split at hb
      · rename_i l1 e2
        injection hb with hb
        injection hb with hb1 hb2
        injection hb2 with hb2 hb3
        subst hb1 hb2 hb3
        cases hhi with
        | none =>
          have := vb_none e1
          subst this
          cases hlo with
          | none =>
            have := vb_none e2
            subst this
            exact ⟨by simp [Instr.sliceBounds], Nat.zero_le _, Nat.le_refl _, fun k hk => by cases hk⟩
          | some hl =>
            obtain ⟨r2, b2⟩ := sliceBound_ok (P := P) hl e2 (Nat.le_refl _) .sliceB
            exact ⟨by simp [Instr.sliceBounds, r2], b2, Nat.le_refl _, fun k hk => by cases hk⟩
        | some hv =>
          obtain ⟨r1, b1⟩ := sliceBound_ok (P := P) hv e1 hc (if isSlice = true then .sliceAcap else .sliceAlen)
          cases hlo with
          | none =>
            have := vb_none e2
            subst this
            exact ⟨by simp [Instr.sliceBounds, r1], Nat.zero_le _, b1, fun k hk => by cases hk⟩
          | some hl =>
            obtain ⟨r2, b2⟩ := sliceBound_ok (P := P) hl e2 (Nat.le_refl _) .sliceB
            exact ⟨by simp [Instr.sliceBounds, r1, r2], b2, b1, fun k hk => by cases hk⟩
      · cases hb
    · cases hb
  | some hm =>
    simp only at hb
    split at hb
    · rename_i m' h0 e1
      cases hhi with
      | some hv =>
        obtain ⟨rm, bm⟩ := sliceBound_ok (P := P) hm e1 hc (if isSlice = true then .slice3Acap else .slice3Alen)
        split at hb
        · rename_i h2 e2
          obtain ⟨r1, b1⟩ := sliceBound_ok (P := P) hv e2 (Nat.le_refl _) .slice3B
          split at hb
          · rename_i l1 e3
            injection hb with hb
            injection hb with hb1 hb2
            injection hb2 with hb2 hb3
            subst hb1 hb2 hb3
            cases hlo with
            | none =>
              have := vb_none e3
              subst this
              exact ⟨by simp [Instr.sliceBounds, rm, r1], Nat.zero_le _, by omega, fun k hk => by injection hk with hk; subst hk; exact ⟨b1, bm⟩⟩
            | some hl =>
              obtain ⟨r2, b2⟩ := sliceBound_ok (P := P) hl e3 (Nat.le_refl _) .slice3C
              exact ⟨by simp [Instr.sliceBounds, rm, r1, r2], b2, by omega, fun k hk => by injection hk with hk; subst hk; exact ⟨b1, bm⟩⟩
          · cases hb
        · cases hb
    · cases hb
def vslice (P : Program) (t : TypeId) (x : V) (lo hi mx : Option V) : Option V :=
  match P.underlying t, x with
  | some .string, .str l => match mx with
    | none => match vbounds l.length lo hi none with
      | some (a, b, _) => some (.str ((l.drop a).take (b - a)))
      | none => none
    | some _ => none
  | some (.slice e), .nils => match vbounds 0 lo hi mx, sizeT P e with
    | some _, some _ => some .nils
    | _, _ => none
  | some (.slice e), .slice p esz cs len =>
    if sizeT P e = some esz then
      match vbounds len lo hi mx with
      | some (a, b, none) => some (.slice (if p = .exact ∧ b = len then .exact else if a = 0 ∧ b = len then p else .ro) esz ((cs.drop (a * esz)).take ((b - a) * esz)) (b - a))
      | some (a, b, some m) => some (.slice (if b = m then .exact else .ro) esz ((cs.drop (a * esz)).take ((b - a) * esz)) (b - a))
      | none => none
    else none
  | some (.slice e), .hslice r off esz len =>
    if sizeT P e = some esz then
      match vbounds len lo hi mx with
      | some (a, b, none) => if a = 0 ∨ a < b then some (.hslice r (off + a * esz) esz (b - a)) else some (.slice .ro esz [] 0)
      | some (a, b, some m) => if a = 0 ∧ b = m then some (.hfull r off esz b) else none
      | none => none
    else none
  | _, _ => none
theorem RowAt.part {b o : Nat} {us : List Value} (h : RowAt g w b o us) (i n : Nat) (hi : i + n ≤ us.length) : RowAt g w b (o + i) ((us.drop i).take n) := by
  refine ⟨by have := h.1; simp only [List.length_take, List.length_drop]; omega, fun j u hj => ?_⟩
  rw [List.getElem?_take] at hj
  split at hj
  · rw [List.getElem?_drop] at hj
    have := h.2 (i + j) u hj
    rwa [← Nat.add_assoc] at this
  · cases hj
theorem RowA.part {ad : Addr} {us : List Value} (h : RowA g w ad us) (i n : Nat) (hi : i + n ≤ us.length) : RowA g w (ad.add i) ((us.drop i).take n) := by
  intro hne
  have hne' : us ≠ [] := fun e => by subst e; simp at hne
  obtain ⟨hs, hr⟩ := h hne'
  obtain ⟨b, o, sp⟩ := ad
  simp only at hs hr
  subst hs
  rw [Addr.add_lit]
  exact ⟨rfl, hr.part i n hi⟩
theorem RowA.nil (ad : Addr) : RowA g w ad [] := fun h => absurd rfl h
theorem vslice_ok {t : TypeId} {x v : V} {a : Value} {lo hi mx : Option V} {lo' hi' mx' : Option Value} (hx : VR g s w x a) (hlo : OR (VR g s w) lo lo') (hhi : OR (VR g s w) hi hi') (hmx : OR (VR g s w) mx mx')
    (h : vslice P t x lo hi mx = some v) : POk P g s w (Instr.sliceAt t a lo' hi' mx') v := by
  unfold vslice at h
  split at h
  · rename_i l hu
    simp only [VR] at hx; subst hx
    cases hmx with
    | some hm => cases h
    | none =>
      simp only at h
      split at h
      · rename_i p q m e
        injection h with h; subst h
        obtain ⟨hr, h1, h2, _⟩ := vbounds_ok (P := P) (isSlice := false) hlo hhi OR.none (Nat.le_refl _) e
        refine ⟨.string ((⟨l.toArray⟩ : ByteArray).extract p q), ?_, ?_⟩
        · simp only [Instr.sliceAt, Sem.run_bind, run_underlying hu, Result.andThen_ok, Instr.slice]
          simp [size_mk, hr]
        · simp only [VR]
          congr 1
          have : ((⟨l.toArray⟩ : ByteArray).extract p q).data = ((l.drop p).take (q - p)).toArray := by
            rw [ByteArray.data_extract]
            apply Array.ext'
            simp [List.extract_eq_take_drop]
          cases hh : (⟨l.toArray⟩ : ByteArray).extract p q with
          | mk d => rw [hh] at this; simp only at this; rw [this]
      · cases h
  · rename_i e hu
    simp only [VR] at hx; subst hx
    split at h
    · rename_i r sz er hsz
      obtain ⟨p, q, m⟩ := r
      injection h with h; subst h
      obtain ⟨hr, h1, h2, h3⟩ := vbounds_ok (P := P) (isSlice := true) hlo hhi hmx (Nat.le_refl 0) er
      have hq : q = 0 := by omega
      have hp : p = 0 := by omega
      subst hq hp
      have hm : m.getD 0 = 0 := by
        cases m with
        | none => rfl
        | some k => have := h3 k rfl; simp; omega
      rw [hm] at hr
      exact ⟨.slice none 0 0, by simp [Instr.sliceAt, Instr.slice, run_underlying hu, hr, run_sizeT hsz], by simp [VR]⟩
    · cases h
  · rename_i e p esz cs len hu
    simp only [VR] at hx
    obtain ⟨ad, cap, us, rfl, hl, hc, hm, hrow, hvs, hp⟩ := hx
    have hul := hvs.length
    have parts : ∀ (q r : Nat), q ≤ r → r ≤ len → ((cs.drop (q * esz)).take ((r - q) * esz)).length = (r - q) * esz ∧ q * esz + (r - q) * esz ≤ us.length := by
      intro q r hq hr
      have h1 : q * esz + (r - q) * esz = r * esz := by rw [← Nat.add_mul]; congr 1; omega
      have h2 : r * esz ≤ len * esz := Nat.mul_le_mul_right _ hr
      simp only [List.length_take, List.length_drop]
      omega
    have permOk : ∀ (q r : Nat) (ad' : Addr), (q = 0 → ad' = ad) → PermOk g s w ad' (cap - q) esz (r - q) (if p = .exact ∧ r = len then .exact else if q = 0 ∧ r = len then p else .ro) := by
      intro q r ad' hq
      split
      · rename_i hh
        have hp' := hp
        rw [hh.1] at hp'
        simp only [PermOk] at hp' ⊢
        omega
      · split
        · rename_i h00
          have h0 : q = 0 := h00.1
          have h0' : r = len := h00.2
          subst h0 h0'
          rw [hq rfl]
          simpa using hp
        · trivial
    split at h
    · rename_i hsz
      split at h
      · rename_i q r er
        injection h with h; subst h
        obtain ⟨hr, h1, h2, _⟩ := vbounds_ok (P := P) (isSlice := true) hlo hhi hmx hc er
        simp only [Option.getD_none] at hr
        obtain ⟨hpl, hpu⟩ := parts q r h1 h2
        by_cases hcq : cap = q
        · refine ⟨.slice (some ad) (r - q) (cap - q), by rw [hcq] at hr; simp [Instr.sliceAt, Instr.slice, run_underlying hu, hr, run_sizeT hsz, hcq], ?_⟩
          have hrq : r - q = 0 := by omega
          have hz : (cs.drop (q * esz)).take ((r - q) * esz) = [] := by rw [hrq]; simp
          simp only [VR]
          refine ⟨ad, cap - q, [], rfl, hpl, by omega, by omega, RowA.nil ad, by rw [hz]; simp [VRs], permOk q r ad (fun _ => rfl)⟩
        · refine ⟨.slice (some (ad.add (q * esz))) (r - q) (cap - q), by simp [Instr.sliceAt, Instr.slice, run_underlying hu, hr, run_sizeT hsz, hcq], ?_⟩
          simp only [VR]
          refine ⟨ad.add (q * esz), cap - q, _, rfl, hpl, by omega, by omega, hrow.part (q * esz) ((r - q) * esz) hpu, (hvs.drop _).take _, permOk q r _ (fun h0 => by subst h0; simp [Addr.add])⟩
      · rename_i q r m er
        injection h with h; subst h
        obtain ⟨hr, h1, h2, h3⟩ := vbounds_ok (P := P) (isSlice := true) hlo hhi hmx hc er
        simp only [Option.getD_some] at hr
        obtain ⟨h4, h5⟩ := h3 m rfl
        obtain ⟨hpl, hpu⟩ := parts q r h1 h2
        by_cases hcq : m = q
        · refine ⟨.slice (some ad) (r - q) (m - q), by simp [Instr.sliceAt, Instr.slice, run_underlying hu, hr, run_sizeT hsz, hcq], ?_⟩
          have hrq : r - q = 0 := by omega
          have hz : (cs.drop (q * esz)).take ((r - q) * esz) = [] := by rw [hrq]; simp
          rw [hz]
          simp only [VR]
          refine ⟨ad, m - q, [], rfl, by rw [hrq]; simp, by omega, by omega, RowA.nil ad, by simp [VRs], ?_⟩
          split
          · simp only [PermOk]; omega
          · trivial
        · refine ⟨.slice (some (ad.add (q * esz))) (r - q) (m - q), by simp [Instr.sliceAt, Instr.slice, run_underlying hu, hr, run_sizeT hsz, hcq], ?_⟩
          simp only [VR]
          refine ⟨ad.add (q * esz), m - q, _, rfl, hpl, by omega, by omega, hrow.part (q * esz) ((r - q) * esz) hpu, (hvs.drop _).take _, ?_⟩
          split
          · simp only [PermOk]; omega
          · trivial
      · cases h
    · cases h
  · rename_i e r off esz len hu
    simp only [VR] at hx
    obtain ⟨hrn, cap, rfl, hc, hm, hb⟩ := hx
    split at h
    · rename_i hsz
      split at h
      · rename_i p q er
        obtain ⟨hr, h1, h2, _⟩ := vbounds_ok (P := P) (isSlice := true) hlo hhi hmx hc er
        simp only [Option.getD_none] at hr
        split at h
        · rename_i hpq
          injection h with h; subst h
          by_cases hcp : cap = p
          · have hp0 : p = 0 := by omega
            subst hp0
            refine ⟨.slice (some ⟨g.ρ r, g.ob r + off, none⟩) (q - 0) (cap - 0), by rw [hcp] at hr; simp [Instr.sliceAt, Instr.slice, run_underlying hu, hr, run_sizeT hsz, hcp], ?_⟩
            simp only [VR]
            refine ⟨hrn, cap - 0, by simp, by omega, by omega, by simpa using hb⟩
          · refine ⟨.slice (some ((⟨g.ρ r, g.ob r + off, none⟩ : Addr).add (p * esz))) (q - p) (cap - p), by simp [Instr.sliceAt, Instr.slice, run_underlying hu, hr, run_sizeT hsz, hcp], ?_⟩
            simp only [VR]
            refine ⟨hrn, cap - p, by rw [Addr.add_lit, Nat.add_assoc], by omega, by omega, ?_⟩
            have e1 : p * esz + (cap - p) * esz = cap * esz := by rw [← Nat.add_mul]; congr 1; omega
            omega
        · rename_i hpq
          injection h with h; subst h
          have hpq2 : q - p = 0 := by omega
          by_cases hcp : cap = p
          · refine ⟨.slice (some ⟨g.ρ r, g.ob r + off, none⟩) (q - p) (cap - p), by rw [hcp] at hr; simp [Instr.sliceAt, Instr.slice, run_underlying hu, hr, run_sizeT hsz, hcp], ?_⟩
            simp only [VR]
            refine ⟨_, cap - p, [], by rw [hpq2], by simp, by omega, by omega, RowA.nil _, by simp [VRs], trivial⟩
          · refine ⟨.slice (some ((⟨g.ρ r, g.ob r + off, none⟩ : Addr).add (p * esz))) (q - p) (cap - p), by simp [Instr.sliceAt, Instr.slice, run_underlying hu, hr, run_sizeT hsz, hcp], ?_⟩
            simp only [VR]
            refine ⟨_, cap - p, [], by rw [hpq2], by simp, by omega, by omega, RowA.nil _, by simp [VRs], trivial⟩
      · rename_i p q m er
        obtain ⟨hr, h1, h2, h3⟩ := vbounds_ok (P := P) (isSlice := true) hlo hhi hmx hc er
        simp only [Option.getD_some] at hr
        obtain ⟨h4, h5⟩ := h3 m rfl
        split at h
        · rename_i hpq
          obtain ⟨hp0, hqm⟩ := hpq
          subst hp0 hqm
          injection h with h; subst h
          have e1 : q * esz ≤ cap * esz := Nat.mul_le_mul_right _ (Nat.le_trans h5 hc)
          by_cases hq0 : q = 0
          · subst hq0
            refine ⟨.slice (some ⟨g.ρ r, g.ob r + off, none⟩) (0 - 0) (0 - 0), by simp [Instr.sliceAt, Instr.slice, run_underlying hu, hr, run_sizeT hsz], ?_⟩
            simp only [VR]
            exact ⟨hrn, by simp, by omega, by omega⟩
          · refine ⟨.slice (some ((⟨g.ρ r, g.ob r + off, none⟩ : Addr).add (0 * esz))) (q - 0) (q - 0), by simp [Instr.sliceAt, Instr.slice, run_underlying hu, hr, run_sizeT hsz, hq0], ?_⟩
            simp only [VR]
            exact ⟨hrn, by rw [Addr.add_lit]; simp, by omega, by omega⟩
        · cases h
      · cases h
    · cases h
  · cases h
def vfieldAddr (P : Program) (t : TypeId) (x : V) (f : Nat) : Option V :=
  match P.underlying t with
  | some (.struct fields) => match fields[f]? with
    | some fd => match sizeT P fd.type with
      | some 0 => none
      | some _ => match x with
        | .optr r off => some (.optr r (off + fd.offset))
        | .eptr cs off => some (.eptr cs (off + fd.offset))
        | _ => none
      | none => none
    | none => none
  | _ => none
theorem vfieldAddr_ok {t : TypeId} {x v : V} {a : Value} {f : Nat} (hx : VR g s w x a) (h : vfieldAddr P t x f = some v) : POk P g s w (Instr.fieldAt t a f) v := by
  unfold vfieldAddr at h
  split at h
  · rename_i fields hu
    split at h
    · rename_i fd hfd
      split at h
      · cases h
      · rename_i n hne hn
        have hn0 : n ≠ 0 := fun e => by subst e; exact hne rfl
        split at h
        · rename_i r off
          injection h with h; subst h
          simp only [VR] at hx
          obtain ⟨hr, rfl⟩ := hx
          exact ⟨.pointer (some ⟨g.ρ r, g.ob r + (off + fd.offset), none⟩), by simp [Instr.fieldAt, run_underlying hu, hfd, Instr.sureAddr, fieldPlace, run_sizeT hn, hn0, Addr.add_lit, Nat.add_assoc], by simp [VR, hr]⟩
        · rename_i cs off
          injection h with h; subst h
          simp only [VR] at hx
          obtain ⟨b, o, us, rfl, hrow, hvs⟩ := hx
          exact ⟨.pointer (some ⟨b, o + (off + fd.offset), none⟩), by simp [Instr.fieldAt, run_underlying hu, hfd, Instr.sureAddr, fieldPlace, run_sizeT hn, hn0, Addr.add_lit, Nat.add_assoc], by simp only [VR]; exact ⟨b, o, us, rfl, hrow, hvs⟩⟩
        · cases h
      · cases h
    · cases h
  · cases h
def vindexAddr (P : Program) (t : TypeId) (x i : V) : Option V :=
  match P.underlying t, i with
  | some (.slice e), .int _ n => match x with
    | .slice _ esz cs len => if sizeT P e = some esz ∧ 0 ≤ n ∧ n < len then (if cs.isEmpty then none else some (.eptr cs (n.toNat * esz))) else none
    | .hslice r off esz len => if sizeT P e = some esz ∧ 0 ≤ n ∧ n < len then some (.optr r (off + n.toNat * esz)) else none
    | _ => none
  | some (.array len e), .int _ n => match sizeT P e with
    | some sz => if 0 ≤ n ∧ n < len then
        match x with
        | .optr r off => some (.optr r (off + n.toNat * sz))
        | .eptr cs off => some (.eptr cs (off + n.toNat * sz))
        | _ => none
      else none
    | none => none
  | _, _ => none
theorem vindexAddr_ok {t : TypeId} {x i v : V} {a b : Value} (hx : VR g s w x a) (hi : VR g s w i b) (h : vindexAddr P t x i = some v) : POk P g s w (Instr.indexAt t a b) v := by
  unfold vindexAddr at h
  split at h
  · rename_i e k n hu
    simp only [VR] at hi; subst hi
    split at h
    · rename_i p esz cs len
      split at h
      · rename_i h0
        split at h
        · cases h
        rename_i h3
        injection h with h; subst h
        simp only [VR] at hx
        obtain ⟨ad, cap, us, rfl, hl, hc, hm, hrow, hvs, hp⟩ := hx
        by_cases hus : us = []
        · subst hus
          have hul := hvs.length
          simp at hul
          subst hul
          simp at h3
        · obtain ⟨hsp, hr⟩ := hrow hus
          obtain ⟨b, o, sp⟩ := ad
          simp only at hsp hr
          subst hsp
          exact ⟨.pointer (some ⟨b, o + n.toNat * esz, none⟩), by simp [Instr.indexAt, asIntOf, run_underlying hu, h0.2, run_sizeT h0.1, Addr.add_lit], by simp only [VR]; exact ⟨b, o, us, rfl, hr, hvs⟩⟩
      · cases h
    · rename_i r off esz len
      split at h
      · rename_i h0
        injection h with h; subst h
        simp only [VR] at hx
        obtain ⟨hr, cap, rfl, hc, hm, hb⟩ := hx
        exact ⟨.pointer (some ⟨g.ρ r, g.ob r + (off + n.toNat * esz), none⟩), by simp [Instr.indexAt, asIntOf, run_underlying hu, h0.2, run_sizeT h0.1, Addr.add_lit, Nat.add_assoc], by simp [VR, hr]⟩
      · cases h
    · cases h
  · rename_i len e k n hu
    simp only [VR] at hi; subst hi
    split at h
    · rename_i sz hsz
      split at h
      · rename_i h0
        split at h
        · rename_i r off
          injection h with h; subst h
          simp only [VR] at hx
          obtain ⟨hr, rfl⟩ := hx
          exact ⟨.pointer (some ⟨g.ρ r, g.ob r + (off + n.toNat * sz), none⟩), by simp [Instr.indexAt, asIntOf, run_underlying hu, h0, run_sizeT hsz, Instr.sureAddr, Addr.add_lit, Nat.add_assoc], by simp [VR, hr]⟩
        · rename_i cs off
          injection h with h; subst h
          simp only [VR] at hx
          obtain ⟨b, o, us, rfl, hrow, hvs⟩ := hx
          exact ⟨.pointer (some ⟨b, o + (off + n.toNat * sz), none⟩), by simp [Instr.indexAt, asIntOf, run_underlying hu, h0, run_sizeT hsz, Instr.sureAddr, Addr.add_lit, Nat.add_assoc], by simp only [VR]; exact ⟨b, o, us, rfl, hrow, hvs⟩⟩
        · cases h
      · cases h
    · cases h
  · cases h
def vcellsAt (objs : List Ob) : V → Option (List V × Nat)
  | .optr r off => match objs[r]? with
    | some (.cells cs) => some (cs, off)
    | some (.tcells _ cs) => some (cs, off)
    | _ => none
  | .eptr cs off => some (cs, off)
  | _ => none
def vload (P : Program) (objs : List Ob) (t : TypeId) (x : V) : Option V :=
  match vcellsAt objs x with
  | some (cs, off) => vpart P t cs off
  | none => none
theorem vcellsAt_ok {base : Nat} {w0 : World} {σ : St} (h : Rel base w0 g σ w) {x : V} {a : Value} {cs : List V} {off : Nat} (hx : VR g σ.toks w x a) (hc : vcellsAt σ.objs x = some (cs, off)) :
    ∃ b o us, a = .pointer (some ⟨b, o + off, none⟩) ∧ VRs g σ.toks w cs us ∧ ∀ i u, us[i]? = some u → w.cell? ⟨b, o + i, none⟩ = some u := by
  unfold vcellsAt at hc
  split at hc
  · rename_i r off'
    split at hc
    · rename_i cs' ho
      injection hc with hc
      injection hc with h1 h2
      subst h1 h2
      simp only [VR] at hx
      obtain ⟨hr, rfl⟩ := hx
      obtain ⟨_, _, c, ty, us, hh, hus, hlen, hcells⟩ := h.obj r _ ho
      refine ⟨g.ρ r, g.ob r, us, rfl, hus, fun i u hu => ?_⟩
      simp only [World.cell?, hh]
      simpa using hcells i u hu
    · rename_i t cs' ho
      injection hc with hc
      injection hc with h1 h2
      subst h1 h2
      simp only [VR] at hx
      obtain ⟨hr, rfl⟩ := hx
      obtain ⟨_, _, c, ty, us, hh, hus, hlen, hcells⟩ := h.cellsOf (m := some t) ho
      refine ⟨g.ρ r, g.ob r, us, rfl, hus, fun i u hu => ?_⟩
      simp only [World.cell?, hh]
      simpa using hcells i u hu
    · cases hc
  · injection hc with hc
    injection hc with h1 h2
    subst h1 h2
    simp only [VR] at hx
    obtain ⟨b, o, us, rfl, hrow, hvs⟩ := hx
    exact ⟨b, o, us, rfl, hvs, hrow.2⟩
  · cases hc
theorem vload_ok {base : Nat} {w0 : World} {σ : St} (h : Rel base w0 g σ w) {t : TypeId} {x v : V} {a : Value} (hx : VR g σ.toks w x a) (hl : vload P σ.objs t x = some v) : POk P g σ.toks w (Instr.loadAt t a) v := by
  unfold vload at hl
  split at hl
  · rename_i cs off hc
    obtain ⟨b, o, us, rfl, hvs, hcells⟩ := vcellsAt_ok h hx hc
    unfold vpart at hl
    split at hl
    · rename_i n ha hn
      split at hl
      · rename_i hle
        injection hl with hl; subst hl
        have hul := hvs.length
        have hrun := run_loadCells_list (P := P) w ⟨b, o + off, none⟩ ((us.drop off).take n) (fun j u hj => by
          rw [List.getElem?_take] at hj
          split at hj
          · rw [List.getElem?_drop] at hj
            rw [Addr.add_lit, Nat.add_assoc]
            exact hcells _ u hj
          · cases hj)
        have hlen : ((us.drop off).take n).length = n := by simp; omega
        rw [hlen] at hrun
        refine ⟨.agg ((us.drop off).take n).toArray, ?_, ?_⟩
        · simp [Instr.loadAt, Instr.sureAddr, loadVar, run_isAggT ha, run_sizeT hn, hrun]
        · simp only [VR]
          exact ⟨_, rfl, (hvs.drop off).take n⟩
      · cases hl
    · rename_i ha
      obtain ⟨u, hu, hr⟩ := hvs.get off hl
      refine ⟨u, ?_, hr⟩
      simp [Instr.loadAt, Instr.sureAddr, loadVar, run_isAggT ha, load, Sem.run, hcells off u hu]
    · cases hl
  · cases hl
def vextract (x : V) (i : Nat) : Option V :=
  match x with
  | .tuple vs => vs[i]?
  | _ => none
theorem vextract_ok {x v : V} {a : Value} {i : Nat} (hx : VR g s w x a) (h : vextract x i = some v) : POk P g s w (Instr.extract a i) v := by
  unfold vextract at h
  split at h
  · simp only [VR] at hx
    obtain ⟨us, rfl, hvs⟩ := hx
    obtain ⟨u, hu, hr⟩ := hvs.get i h
    exact ⟨u, by simp [Instr.extract, hu], hr⟩
  · cases h
def vnil (x : V) : Option V :=
  match x with
  | .optr r o => some (.optr r o)
  | .eptr c o => some (.eptr c o)
  | .iface t v => some (.iface t v)
  | .func f c => some (.func f c)
  | _ => none
def vmakeIface (P : Program) (t : TypeId) (x : V) : Option V :=
  match P.underlying t with
  | some (.interface _) => none
  | some _ => some (.iface t x)
  | none => none
theorem vmakeIface_ok {t : TypeId} {x v : V} {a : Value} (hx : VR g s w x a) (h : vmakeIface P t x = some v) : POk P g s w (Instr.makeInterface t a) v := by
  unfold vmakeIface at h
  split at h
  · cases h
  · rename_i d hne hu
    injection h with h; subst h
    refine ⟨.iface t a, ?_, by simp only [VR]; exact ⟨a, rfl, hx⟩⟩
    simp only [Instr.makeInterface, Sem.run_bind, run_underlying hu, Result.andThen_ok]
    simp
  · cases h
def vtypeAssert (P : Program) (x : V) (xt at_ : TypeId) (ok : Bool) : Option V :=
  match P.underlying at_, x with
  | some (.interface _), _ => none
  | some _, .iface t v => if t = at_ then some (if ok then .tuple [v, .bool true] else v) else
      if ok then (zeroT P at_).map fun z => .tuple [z, .bool false] else none
  | some _, .nili => if ok then (zeroT P at_).map fun z => .tuple [z, .bool false] else none
  | _, _ => none
theorem vtypeAssert_ok {x v : V} {a : Value} {xt at_ : TypeId} {ok : Bool} (hx : VR g s w x a) (h : vtypeAssert P x xt at_ ok = some v) : POk P g s w (Instr.typeAssert a xt at_ ok) v := by
  unfold vtypeAssert at h
  split at h
  · cases h
  · rename_i d t y hne hu
    simp only [VR] at hx
    obtain ⟨u, rfl, hy⟩ := hx
    split at h
    · rename_i e
      subst e
      injection h with h; subst h
      cases ok with
      | true =>
        refine ⟨.tuple #[u, .bool true], ?_, by simp only [if_true, VR]; exact ⟨[u, .bool true], rfl, by simp only [VRs, VR]; exact ⟨u, _, rfl, hy, _, _, rfl, rfl, rfl⟩⟩⟩
        simp [Instr.typeAssert, Sem.run_bind, run_underlying hu, Result.andThen_ok]
      | false =>
        refine ⟨u, ?_, by simpa using hy⟩
        simp [Instr.typeAssert, Sem.run_bind, run_underlying hu, Result.andThen_ok]
    · rename_i e
      split at h
      · rename_i hok
        rw [gA1] at h
        obtain ⟨z, hz, rfl⟩ := h
        obtain ⟨zu, hzu, hzo⟩ := run_zeroT hz
        refine ⟨.tuple #[zu, .bool false], ?_, by simp only [VR]; exact ⟨[zu, .bool false], rfl, by simp only [VRs, VR]; exact ⟨zu, _, rfl, ofVal_ok hzo, _, _, rfl, rfl, rfl⟩⟩⟩
        simp [Instr.typeAssert, Sem.run_bind, run_underlying hu, Result.andThen_ok, e, hok, hzu]
      · cases h
  · rename_i d hne hu
    simp only [VR] at hx
    subst hx
    split at h
    · rename_i hok
      rw [gA1] at h
      obtain ⟨z, hz, rfl⟩ := h
      obtain ⟨zu, hzu, hzo⟩ := run_zeroT hz
      refine ⟨.tuple #[zu, .bool false], ?_, by simp only [VR]; exact ⟨[zu, .bool false], rfl, by simp only [VRs, VR]; exact ⟨zu, _, rfl, ofVal_ok hzo, _, _, rfl, rfl, rfl⟩⟩⟩
      simp [Instr.typeAssert, Sem.run_bind, run_underlying hu, Result.andThen_ok, hok, hzu]
    · cases h
  · cases h
def vlen (P : Program) (t : TypeId) (x : V) : Option V :=
  match P.underlying t, x with
  | some .string, .str l => some (.int .i64 l.length)
  | some (.slice _), .nils => some (.int .i64 0)
  | some (.slice _), .slice _ _ _ n => some (.int .i64 n)
  | some (.slice _), .hslice _ _ _ n => some (.int .i64 n)
  | some (.array n _), _ => some (.int .i64 n)
  | some (.map _ _), .nilm => some (.int .i64 0)
  | _, _ => none
theorem vlen_ok {t : TypeId} {x v : V} {a : Value} (hx : VR g s w x a) (h : vlen P t x = some v) (ty : TypeId) (ts : Array TypeId) (hts : ts[0]? = some t) (ar : Array Value) (has : ar[0]? = some a) : POk P g s w (Builtin.len_ ts ty ar) v := by
  unfold vlen at h
  split at h <;> (try cases h)
  · rename_i hu; simp only [VR] at hx; subst hx
    exact ⟨_, by simp [Builtin.len_, hts, has, run_underlying hu, size_mk]; rfl, by simp [VR, goInt]⟩
  · rename_i hu; simp only [VR] at hx; subst hx
    exact ⟨_, by simp [Builtin.len_, hts, has, run_underlying hu]; rfl, by simp [VR, goInt]⟩
  · rename_i hu; simp only [VR] at hx
    obtain ⟨ad, cap, us, rfl, _⟩ := hx
    exact ⟨_, by simp [Builtin.len_, hts, has, run_underlying hu]; rfl, by simp [VR, goInt]⟩
  · rename_i hu; simp only [VR] at hx
    obtain ⟨_, cap, rfl, _⟩ := hx
    exact ⟨_, by simp [Builtin.len_, hts, has, run_underlying hu]; rfl, by simp [VR, goInt]⟩
  · rename_i hu
    exact ⟨_, by simp [Builtin.len_, hts, has, run_underlying hu]; rfl, by simp [VR, goInt]⟩
  · rename_i hu; simp only [VR] at hx; subst hx
    exact ⟨_, by simp [Builtin.len_, hts, has, run_underlying hu]; rfl, by simp [VR, goInt]⟩
def vmm (mx : Bool) : V → V → Option V
  | .int k x, .int _ y => some (.int k (if mx then (if y > x then y else x) else (if y < x then y else x)))
  | _, _ => none
def mm (mx : Bool) (x y : Int) : Int := if mx then (if y > x then y else x) else (if y < x then y else x)
def vmm4 (mx : Bool) : V → V → V → V → Option V
  | .int k x, .int _ y, .int _ z, .int _ u => some (.int k (mm mx (mm mx (mm mx x y) z) u))
  | _, _, _, _ => none
end
end Go.Proofs.YtnegdinonfjdfaaDoor.Q
namespace Go.Proofs.YtnegdinonfjdfaaDoor.Q
open Go Go.RowKit
section
variable {P : Program} {base : Nat} {w0 : World} {g : Gh} {σ : St} {w : World}
def MOk (P : Program) (base : Nat) (w0 : World) (g : Gh) (σ : St) (w : World) (m : Sem Value) (v : V) (σ' : St) : Prop :=
  ∃ u w' g', m.run P w = .ok u w' ∧ Ext g σ.toks w g' σ'.toks w' ∧ Rel base w0 g' σ' w' ∧ VR g' σ'.toks w' v u
def setAll : List V → Nat → List V → List V
  | cs, _, [] => cs
  | cs, off, v :: vs => setAll (cs.set off v) (off + 1) vs
def vfill (place : Nat → Option (Nat × Nat)) (cells : List V) : List (Nat × V) → Option (List V)
  | [] => some cells
  | (i, v) :: rest =>
    match place i with
    | none => none
    | some (off, size) =>
      if (vcells v).length ≠ size || off + (vcells v).length > cells.length then none
      else vfill place (setAll cells off (vcells v)) rest
theorem length_setAll : ∀ (vs : List V) (cs : List V) (off : Nat), (setAll cs off vs).length = cs.length
  | [], cs, off => rfl
  | v :: vs, cs, off => by simp [setAll, length_setAll vs]
theorem setAll_ok {toks : List Bool} : ∀ {vs : List V} {us : List Value} {cs : List V} {xs : Array Value} (off k : Nat), VRs g toks w vs us → VRs g toks w cs xs.toList →
    VRs g toks w (setAll cs (off + k) vs) ((us.zipIdx k).foldl (fun c (p : Value × Nat) => c.setIfInBounds (off + p.2) p.1) xs).toList
  | [], us, cs, xs, off, k, hv, hc => by simp only [VRs] at hv; subst hv; simpa [setAll] using hc
  | v :: vs, us, cs, xs, off, k, hv, hc => by
    simp only [VRs] at hv
    obtain ⟨u, us', rfl, h1, h2⟩ := hv
    simp only [setAll, List.zipIdx_cons, List.foldl_cons]
    exact setAll_ok off (k + 1) h2 (by simpa using VRs.set hc (off + k) h1)
def PartsR (g : Gh) (toks : List Bool) (w : World) : List (Nat × V) → List (Nat × Value) → Prop
  | [], us => us = []
  | (i, v) :: vs, us => ∃ u us', us = (i, u) :: us' ∧ VR g toks w v u ∧ PartsR g toks w vs us'
theorem vfill_ok {toks : List Bool} {place place' : Nat → Option (Nat × Nat)} (hp : ∀ i, place i = place' i) : ∀ {parts : List (Nat × V)} {parts' : List (Nat × Value)} {cs cs' : List V} {xs : Array Value},
    PartsR g toks w parts parts' → VRs g toks w cs xs.toList → vfill place cs parts = some cs' → ∃ xs', Instr.fill place' xs parts' = some xs' ∧ VRs g toks w cs' xs'.toList
  | [], parts', cs, cs', xs, hr, hc, h => by
    simp only [PartsR] at hr; subst hr
    simp only [vfill] at h; injection h with h; subst h
    exact ⟨xs, rfl, hc⟩
  | (i, v) :: parts, parts', cs, cs', xs, hr, hc, h => by
    simp only [PartsR] at hr
    obtain ⟨u, us', rfl, h1, h2⟩ := hr
    simp only [vfill] at h
    split at h
    · cases h
    · rename_i off size hpl
      split at h
      · cases h
      · rename_i hne
        have hl := (vcells_ok h1).length
        have hl2 := hc.length
        have hsz : u.cells.size = (vcells v).length := by rw [hl]; simp
        have hxs : xs.size = cs.length := by rw [hl2]; simp
        obtain ⟨xs', hf, hr'⟩ := vfill_ok hp h2 (xs := (u.cells.toList.zipIdx 0).foldl (fun c (p : Value × Nat) => c.setIfInBounds (off + p.2) p.1) xs) (by simpa using setAll_ok off 0 (vcells_ok h1) hc) h
        refine ⟨xs', ?_, hr'⟩
        simp only [Instr.fill, ← hp, hpl, hsz, hxs]
        rw [if_neg hne]
        rw [← hf]
        congr 1
        rw [← Array.foldl_toList]
        simp
def vbuild (P : Program) (t : TypeId) (parts : List (Nat × V)) : Option V :=
  match zeroT P t, P.underlying t with
  | some z, some (.struct fields) => match fields.toList.mapM (fun f => (P.info? f.type).map fun i => (f.offset, i.size)) with
    | some places => (vfill (places[·]?) (vcells z) parts).map .agg
    | none => none
  | some z, some (.array _ e) => match sizeT P e with
    | some sz => (vfill (fun i => some (i * sz, sz)) (vcells z) parts).map .agg
    | none => none
  | _, _ => none
theorem zeroT_parts {t : TypeId} {z : V} (h : zeroT P t = some z) : ∃ i u, P.info? t = some i ∧ i.zero = some u ∧ ofVal u = some z := by
  unfold zeroT at h
  rw [Option.bind_eq_some_iff] at h
  obtain ⟨u, hu, hz⟩ := h
  rw [Option.bind_eq_some_iff] at hu
  obtain ⟨i, hi, hu⟩ := hu
  exact ⟨i, u, hi, hu, hz⟩
theorem vbuild_ok {toks : List Bool} {t : TypeId} {parts : List (Nat × V)} {parts' : Array (Nat × Value)} {v : V} (hp : PartsR g toks w parts parts'.toList) (h : vbuild P t parts = some v) : POk P g toks w (Instr.build t parts') v := by
  unfold vbuild at h
  split at h
  · rename_i z fields hz hu
    obtain ⟨it, u, hit, hzu, ho⟩ := zeroT_parts hz
    split at h
    · rename_i places hpl
      rw [gA1] at h
      obtain ⟨cs, hf, rfl⟩ := h
      obtain ⟨xs, hx, hr⟩ := vfill_ok (place' := (places.toArray[·]?)) (fun i => by simp) hp (vcells_ok (ofVal_ok ho)) hf
      refine ⟨.agg xs, run_build w t parts' xs ?_, by simp only [VR]; exact ⟨xs.toList, by simp, hr⟩⟩
      simp only [Program.built, hit, hu, hzu, hpl]
      exact hx
    · cases h
  · rename_i z n e hz hu
    obtain ⟨it, u, hit, hzu, ho⟩ := zeroT_parts hz
    split at h
    · rename_i sz hsz
      unfold sizeT at hsz
      rw [gA1] at hsz
      obtain ⟨ie, hie, rfl⟩ := hsz
      rw [gA1] at h
      obtain ⟨cs, hf, rfl⟩ := h
      obtain ⟨xs, hx, hr⟩ := vfill_ok (fun i => rfl) hp (vcells_ok (ofVal_ok ho)) hf
      refine ⟨.agg xs, run_build w t parts' xs ?_, by simp only [VR]; exact ⟨xs.toList, by simp, hr⟩⟩
      simp only [Program.built, hit, hu, hzu, hie]
      exact hx
    · cases h
  · cases h
def vbox (σ : St) (v : V) : V × St := (.optr σ.objs.length 0, ⟨σ.objs ++ [.cells (vcells v)], σ.toks⟩)
theorem vbox_ok (h : Rel base w0 g σ w) {v : V} {u : Value} (hv : VR g σ.toks w v u) (t : TypeId) : ∃ a w' g', (newVar t u).run P w = .ok a w' ∧ Ext g σ.toks w g' (vbox σ v).2.toks w' ∧ Rel base w0 g' (vbox σ v).2 w' ∧ VR g' (vbox σ v).2.toks w' (vbox σ v).1 (.pointer (some a)) := by
  refine ⟨⟨w.heap.size, 0, none⟩, w.alloc (.cells u.cells t), g.obj w.heap.size, by simp [newVar, newRow, newObj, Sem.run], Ext.obj h _, h.newObj u.cells t (vcells v) (vcells_ok hv), ?_⟩
  simp only [vbox, VR]
  simp [Gh.obj, h.n, Gh.has]
def vboxT (σ : St) (t : TypeId) (v : V) : V × St := (.optr σ.objs.length 0, ⟨σ.objs ++ [.tcells t (vcells v)], σ.toks⟩)
theorem vboxT_ok (h : Rel base w0 g σ w) {v : V} {u : Value} (hv : VR g σ.toks w v u) (t : TypeId) : ∃ a w' g', (newVar t u).run P w = .ok a w' ∧ Ext g σ.toks w g' (vboxT σ t v).2.toks w' ∧ Rel base w0 g' (vboxT σ t v).2 w' ∧ VR g' (vboxT σ t v).2.toks w' (vboxT σ t v).1 (.pointer (some a)) := by
  refine ⟨⟨w.heap.size, 0, none⟩, w.alloc (.cells u.cells t), g.obj w.heap.size, by simp [newVar, newRow, newObj, Sem.run], Ext.obj h _, h.newT u.cells t (vcells v) (vcells_ok hv), ?_⟩
  simp only [vboxT, VR]
  simp [Gh.obj, h.n, Gh.has]
def isSB (P : Program) (e : TypeId) : Bool := match P.underlying e with
  | some (.struct fs) => match fs.toList.map (·.type) with
    | [a, b] => match P.underlying a, P.underlying b with
      | some (.pointer e'), some (.slice u) => decide (e' = e) && isU8 P u
      | _, _ => false
    | _ => false
  | _ => false
def valloc (P : Program) (σ : St) (e : TypeId) : Option (V × St) := if isSB P e = true then (zeroT P e).map (vboxT σ e) else (zeroT P e).map (vbox σ)
theorem valloc_std {P : Program} {σ : St} {e : TypeId} (h : isSB P e = false) : valloc P σ e = (zeroT P e).map (vbox σ) := by unfold valloc; rw [if_neg (by rw [h]; decide)]
def vstore (P : Program) (σ : St) (t : TypeId) (x v : V) : Option St :=
  match x with
  | .optr r off => match σ.objs[r]? with
    | some (.cells cs) =>
      if sizeT P t = some (vcells v).length ∧ off + (vcells v).length ≤ cs.length ∧ (vcells v).all one = true then
        some ⟨σ.objs.set r (.cells (setAll cs off (vcells v))), σ.toks⟩
      else none
    | some (.tcells ty cs) =>
      if sizeT P t = some (vcells v).length ∧ off + (vcells v).length ≤ cs.length ∧ (vcells v).all one = true then
        some ⟨σ.objs.set r (.tcells ty (setAll cs off (vcells v))), σ.toks⟩
      else none
    | _ => none
  | _ => none
theorem storeCells_ok {m : Option TypeId} : ∀ (vs : List V) {us : List Value} {σ : St} {w : World} {r : Nat} {cs : List V} (off k : Nat), Rel base w0 g σ w → VRs g σ.toks w vs us → σ.objs[r]? = some (Ob.of m cs) → off + k + vs.length ≤ cs.length → vs.all one = true →
    ∃ w', (storeCells ⟨g.ρ r, g.ob r + off, none⟩ us k).run P w = .ok () w' ∧ Ext g σ.toks w g σ.toks w' ∧ Rel base w0 g ⟨σ.objs.set r (Ob.of m (setAll cs (off + k) vs)), σ.toks⟩ w'
  | [], us, σ, w, r, cs, off, k, h, hv, hr, hl, h1 => by
    simp only [VRs] at hv; subst hv
    refine ⟨w, by simp [storeCells], Ext.refl _ _ _, ?_⟩
    simp only [setAll]
    have : σ.objs.set r (Ob.of m cs) = σ.objs := by
      apply List.ext_getElem?
      intro i
      rw [List.getElem?_set]
      split
      · rename_i e; subst e; rw [if_pos (gA0.1 hr).1]; exact hr.symm
      · rfl
    rw [this]
    exact h
  | v :: vs, us, σ, w, r, cs, off, k, h, hv, hr, hl, h1 => by
    simp only [VRs] at hv
    obtain ⟨u, us', rfl, hv1, hv2⟩ := hv
    simp only [List.all_cons, Bool.and_eq_true] at h1
    simp only [List.length_cons] at hl
    have hoff : off + k < cs.length := by omega
    have hR := h.setOf hr (off + k) hoff hv1
    have hone := one_ok hv1 h1.1
    obtain ⟨hb, hL, c, ty, us0, hh, hus, hlen, hcells⟩ := h.cellsOf hr
    have hul := hus.length
    have hcell : ∃ y, w.cell? ⟨g.ρ r, g.ob r + (off + k), none⟩ = some y := by
      simp only [World.cell?, hh]
      simp
      exact ⟨_, Array.getElem?_eq_getElem (by omega)⟩
    obtain ⟨y, hy⟩ := hcell
    have hfr : w.frozen? ⟨g.ρ r, g.ob r + (off + k), none⟩ = false := by simp [World.frozen?, hh]
    have E : Ext g σ.toks w g σ.toks (w.setCell ⟨g.ρ r, g.ob r + (off + k), none⟩ u) := Ext.setCell σ.toks _ _ u hL
    obtain ⟨w', hrun, hE, hR'⟩ := storeCells_ok (m := m) vs (σ := ⟨σ.objs.set r (Ob.of m (cs.set (off + k) v)), σ.toks⟩) (r := r) (cs := cs.set (off + k) v) off (k + 1) hR (VRs.ext E vs hv2)
      (by simp [(gA0.1 hr).1]) (by simp; omega) h1.2
    refine ⟨w', ?_, E.trans hE, by simpa [setAll, Nat.add_assoc] using hR'⟩
    have hst : (store ⟨g.ρ r, g.ob r + (off + k), none⟩ u).run P w = .ok () (w.setCell ⟨g.ρ r, g.ob r + (off + k), none⟩ u) := by
      unfold store
      cases u <;> simp [Value.oneCell'] at hone <;> simp [Sem.run, hy, hfr]
    simp only [storeCells, Addr.add_lit, Sem.run_bind, Nat.add_assoc, hst, Result.andThen_ok]
    exact hrun
theorem vstore_ok (h : Rel base w0 g σ w) {t : TypeId} {x v : V} {a u : Value} {σ' : St} (hx : VR g σ.toks w x a) (hv : VR g σ.toks w v u) (hs : vstore P σ t x v = some σ') :
    ∃ w', (Instr.storeAt t a u).run P w = .ok () w' ∧ Ext g σ.toks w g σ'.toks w' ∧ Rel base w0 g σ' w' := by
  unfold vstore at hs
  split at hs
  · rename_i r off
    split at hs
    · rename_i cs hr
      split at hs
      · rename_i hc
        injection hs with hs; subst hs
        simp only [VR] at hx
        obtain ⟨_, rfl⟩ := hx
        have hc2 := vcells_ok hv
        obtain ⟨w', h1, h2, h3⟩ := storeCells_ok (P := P) (m := none) (vcells v) off 0 h hc2 hr (by omega) hc.2.2
        refine ⟨w', ?_, h2, by simpa [Ob.of] using h3⟩
        have hl := hc2.length
        simp only [Array.length_toList] at hl
        simp [Instr.storeAt, Instr.sureAddr, storeVar, run_sizeT hc.1, hl, h1]
      · cases hs
    · rename_i ty cs hr
      split at hs
      · rename_i hc
        injection hs with hs; subst hs
        simp only [VR] at hx
        obtain ⟨_, rfl⟩ := hx
        have hc2 := vcells_ok hv
        obtain ⟨w', h1, h2, h3⟩ := storeCells_ok (P := P) (m := some ty) (vcells v) off 0 h hc2 hr (by omega) hc.2.2
        refine ⟨w', ?_, h2, by simpa [Ob.of] using h3⟩
        have hl := hc2.length
        simp only [Array.length_toList] at hl
        simp [Instr.storeAt, Instr.sureAddr, storeVar, run_sizeT hc.1, hl, h1]
      · cases hs
    · cases hs
  · cases hs
def zeroCellsV (z : List V) (n : Nat) : List V := (List.range n).map fun i => z.getD (i % z.length) (.tuple [])
theorem zeroCellsV_ok {toks : List Bool} {z : List V} {u : Array Value} (h : VRs g toks w z u.toList) (hz : 0 < z.length) (n : Nat) : VRs g toks w (zeroCellsV z n) ((Array.range n).map (u[· % u.size]!)).toList := by
  have hl : z.length = u.size := by have := h.length; simpa using this
  refine VRs.of_get (by simp [zeroCellsV]) fun i v x hv hx => ?_
  have hi : i < n := by
    have := (gA0.1 hv).1
    simpa [zeroCellsV] using this
  simp [zeroCellsV, hi] at hv
  simp [hi] at hx
  subst hv hx
  have hm : i % u.size < u.size := Nat.mod_lt _ (by omega)
  obtain ⟨y, hy, hr⟩ := VRs.get (i % z.length) h (List.getElem?_eq_getElem (by rw [hl]; exact hm))
  rw [hl] at hy
  rw [Array.getElem?_toList, Array.getElem?_eq_getElem hm] at hy
  injection hy with hy
  rw [getElem!_pos u (i % u.size) hm, hy]
  rw [List.getElem?_eq_getElem (by rw [hl]; exact hm)]
  simpa using hr
def vbuildSlice (P : Program) (t : TypeId) (len : Nat) (parts : List (Nat × V)) : Option V :=
  match P.underlying t with
  | some (.slice e) => match sizeT P e, zeroT P e with
    | some sz, some z =>
      if len * sz ≤ 16777216 ∧ (vcells z).length = sz ∧ 0 < sz then
        (vfill (fun i => some (i * sz, sz)) (zeroCellsV (vcells z) (len * sz)) parts).map fun cs => .slice .exact sz cs len
      else none
    | _, _ => none
  | _ => none
theorem length_vfill {place : Nat → Option (Nat × Nat)} : ∀ {parts : List (Nat × V)} {cs cs' : List V}, vfill place cs parts = some cs' → cs'.length = cs.length
  | [], cs, cs', h => by simp only [vfill] at h; injection h with h; subst h; rfl
  | (i, v) :: parts, cs, cs', h => by
    simp only [vfill] at h
    split at h
    · cases h
    · split at h
      · cases h
      · rw [length_vfill h, length_setAll]
theorem vbuildSlice_ok (h : Rel base w0 g σ w) {t : TypeId} {len : Nat} {parts : List (Nat × V)} {parts' : Array (Nat × Value)} {v : V} (hp : PartsR g σ.toks w parts parts'.toList) (hb : vbuildSlice P t len parts = some v) :
    MOk P base w0 g σ w (Instr.buildSlice t len parts') v σ := by
  unfold vbuildSlice at hb
  split at hb
  · rename_i e hu
    split at hb
    · rename_i sz z hsz hz
      obtain ⟨it, uz, hit, hzu, ho⟩ := zeroT_parts hz
      split at hb
      · rename_i hc
        obtain ⟨hc1, hc2, hc3⟩ := hc
        rw [gA1] at hb
        obtain ⟨cs, hf, rfl⟩ := hb
        have hzr := vcells_ok (ofVal_ok (g := g) (s := σ.toks) (w := w) ho)
        have hlen := length_vfill hf
        have hlz : (zeroCellsV (vcells z) (len * sz)).length = len * sz := by simp [zeroCellsV]
        have hrz : (zeroValue e).run P w = .ok uz w := by simp [zeroValue, typeInfo, hit, hzu]
        have hrow : VRs g σ.toks w (zeroCellsV (vcells z) (len * sz)) ((Array.range (len * sz)).map (uz.cells[· % uz.cells.size]!)).toList := zeroCellsV_ok hzr (by omega) _
        obtain ⟨xs, hx, hr⟩ := vfill_ok (place' := fun i => some (i * sz, sz)) (fun i => rfl) hp hrow hf
        have hxl : xs.size = len * sz := by have h9 : cs.length = xs.size := (by have := hr.length; simpa using this); omega
        have E := Ext.row h (.cells xs e) (len * sz)
        refine ⟨.slice (some ⟨w.heap.size, 0, none⟩) len len, w.alloc (.cells xs e), g.row w.heap.size (len * sz), ?_, E, h.row _ _, ?_⟩
        · have n1 : ¬ (len * sz > 2 ^ 24) := by omega
          by_cases h0 : len * sz = 0
          · have e0 : ((Array.range (len * sz)).map (uz.cells[· % uz.cells.size]!)) = #[] := by rw [h0]; simp
            rw [e0] at hx
            have h0' : len = 0 ∨ sz = 0 := by rw [← Nat.mul_eq_zero]; exact h0
            have e1 : Array.map (fun _ => (default : Value)) (Array.range 0) = #[] := by apply Array.ext'; simp
            simp [Instr.buildSlice, run_underlying hu, run_sizeT hsz, h0', h0, hx, newRow, newObj, Sem.run, e1]
          · have h0' : ¬ (len = 0 ∨ sz = 0) := by rw [← Nat.mul_eq_zero]; exact h0
            have n2 : len * sz ≠ 0 := h0
            simp [Instr.buildSlice, run_underlying hu, run_sizeT hsz, h0', hrz, hx, newRow, newObj, Sem.run, show ¬ (16777216 < len * sz) from by omega]
            intro h9
            exact absurd h9 n2
        · simp only [VR]
          refine ⟨⟨w.heap.size, 0, none⟩, len, xs.toList, rfl, by omega, Nat.le_refl _, ?_, fun _ => ⟨rfl, by simp [Gh.row, hxl], fun i u hi => ?_⟩, VRs.ext E cs hr, rfl⟩
          · have : len ≤ len * sz := Nat.le_mul_of_pos_right _ hc3
            unfold maxLen
            omega
          · rw [Nat.zero_add]
            simp only [World.cell?, heap_alloc_eq]
            simpa using hi
      · cases hb
    · cases hb
  · cases hb
def vmakeSlice (P : Program) (σ : St) (t : TypeId) (l c : V) : Option (V × St) :=
  match P.underlying t, l, c with
  | some (.slice e), .int _ l, .int _ c => match (P.info? e).map (·.bytes), sizeT P e, zeroT P e with
    | some by_, some sz, some z =>
      if 0 ≤ l ∧ l ≤ c ∧ by_ * c.toNat ≤ 140737488355328 ∧ c ≤ 140737488355328 ∧ (vcells z).length = sz ∧ 0 < sz then
        some (.slice (.tok σ.toks.length e) sz (zeroCellsV (vcells z) (l.toNat * sz)) l.toNat, ⟨σ.objs, σ.toks ++ [true]⟩)
      else none
    | _, _, _ => none
  | _, _, _ => none
theorem newRow_ok (h : Rel base w0 g σ w) (xs : Array Value) (e : TypeId) (cs : List V) (us : List Value) (hv : VRs g σ.toks w cs us) (hpre : xs.toList.take us.length = us) (len cap sz : Nat) (hl : cs.length = len * sz) (hc : len ≤ cap) (hm : cap ≤ maxLen) (hx : xs.size = cap * sz) :
    Ext g σ.toks w ((g.row w.heap.size (len * sz)).token σ.toks.length w.heap.size) (σ.toks ++ [true]) (w.alloc (.cells xs e)) ∧
    Rel base w0 ((g.row w.heap.size (len * sz)).token σ.toks.length w.heap.size) ⟨σ.objs, σ.toks ++ [true]⟩ (w.alloc (.cells xs e)) ∧
    VR ((g.row w.heap.size (len * sz)).token σ.toks.length w.heap.size) (σ.toks ++ [true]) (w.alloc (.cells xs e)) (.slice (.tok σ.toks.length e) sz cs len) (.slice (some ⟨w.heap.size, 0, none⟩) len cap) := by
  have E1 := Ext.row h (.cells xs e) (len * sz)
  have R1 := h.row (.cells xs e) (len * sz)
  have E2 : Ext (g.row w.heap.size (len * sz)) σ.toks (w.alloc (.cells xs e)) ((g.row w.heap.size (len * sz)).token σ.toks.length w.heap.size) (σ.toks ++ [true]) (w.alloc (.cells xs e)) := Ext.token _ _ _
  have E := E1.trans E2
  refine ⟨E, R1.token w.heap.size h.bs (by simp) (fun r hr => ?_) (fun t ht => ?_), ?_⟩
  · have := h.alive_block hr
    show g.ρ r ≠ _
    omega
  · have := (h.tok t ht).2.1
    show g.tk t ≠ _
    omega
  · have hul := hv.length
    simp only [VR]
    refine ⟨⟨w.heap.size, 0, none⟩, cap, us, rfl, hl, hc, hm, fun _ => ⟨rfl, by simp [Gh.token, Gh.row]; omega, fun i u hi => ?_⟩, VRs.ext E cs hv, ⟨by simp, fun _ => ⟨by simp [Gh.token], by simp [Gh.token, Gh.row], xs, by simp only [Gh.token, if_pos]; exact heap_alloc_eq _ _, hx⟩⟩⟩
    rw [Nat.zero_add]
    simp only [World.cell?, heap_alloc_eq]
    have hil : i < us.length := (gA0.1 hi).1
    rw [← hpre, List.getElem?_take_of_lt hil] at hi
    simpa using hi
theorem toList_range_map_take (u : Array Value) (m n : Nat) (h : m ≤ n) : (((Array.range n).map (u[· % u.size]!)).toList).take m = ((Array.range m).map (u[· % u.size]!)).toList := by
  apply List.ext_getElem?
  intro i
  rw [List.getElem?_take]
  by_cases hi : i < m
  · rw [if_pos hi]
    simp [hi, show i < n from by omega]
  · rw [if_neg hi]
    simp [hi]
theorem vmakeSlice_ok (h : Rel base w0 g σ w) {t : TypeId} {l c : V} {a b : Value} {v : V} {σ' : St} (hl : VR g σ.toks w l a) (hc : VR g σ.toks w c b) (hb : vmakeSlice P σ t l c = some (v, σ')) :
    MOk P base w0 g σ w (Instr.makeSlice t a b) v σ' := by
  unfold vmakeSlice at hb
  split at hb
  · rename_i e k1 l k2 c hu
    simp only [VR] at hl hc; subst hl hc
    split at hb
    · rename_i by_ sz z hby hsz hz
      obtain ⟨it, uz, hit, hzu, ho⟩ := zeroT_parts hz
      split at hb
      · rename_i hcond
        obtain ⟨h0, h1, h2, h3, h4, h5⟩ := hcond
        injection hb with hb
        injection hb with hv hs
        subst hv hs
        have hby' : it.bytes = by_ := by rw [hit] at hby; simpa using hby
        have hsz' : it.size = sz := by unfold sizeT at hsz; rw [hit] at hsz; simpa using hsz
        have hbound : (it.bytes : Int) * c ≤ 281474976710656 := by
          rw [hby']
          have e1 : (by_ : Int) * c = ((by_ * c.toNat : Nat) : Int) := by rw [Int.natCast_mul]; congr 1; omega
          rw [e1]
          omega
        have hrun := run_make (P := P) w t e it uz hu hit hzu k1 k2 l c h0 h1 hbound (by omega)
        have hzr := vcells_ok (ofVal_ok (g := g) (s := σ.toks) (w := w) ho)
        have hrow : VRs g σ.toks w (zeroCellsV (vcells z) (l.toNat * sz)) ((Array.range (l.toNat * sz)).map (uz.cells[· % uz.cells.size]!)).toList := zeroCellsV_ok hzr (by omega) _
        have hN := newRow_ok h (madeCells uz.cells (c.toNat * it.size)) e _ _ hrow (by
            have := toList_range_map_take uz.cells (l.toNat * sz) (c.toNat * it.size) (by rw [hsz']; exact Nat.mul_le_mul_right _ (by omega))
            simp only [madeCells]
            rw [Array.length_toList, Array.size_map, Array.size_range]
            exact this) l.toNat c.toNat sz (by simp [zeroCellsV]) (by omega) (by unfold maxLen; omega) (by rw [size_madeCells, hsz'])
        exact ⟨_, _, _, hrun, hN.1, hN.2.1, hN.2.2⟩
      · cases hb
    · cases hb
  · cases hb
end
end Go.Proofs.YtnegdinonfjdfaaDoor.Q
namespace Go.Proofs.YtnegdinonfjdfaaDoor.Q
open Go Go.RowKit
section
variable {P : Program} {base : Nat} {w0 : World} {g : Gh} {σ : St} {w : World}
structure Src (P : Program) (w : World) (t2 : TypeId) (sz : Nat) (u : Value) (news : List Value) (m : Nat) : Prop where
  ty : (∃ e, P.underlying t2 = some (.slice e)) ∨ P.underlying t2 = some .string
  len : (Builtin.lenOf u).run P w = .ok m w
  cells : (Builtin.firstCells sz m u).run P w = .ok news.toArray w
  later : (Builtin.firstCells sz m u).run P w.drew = .ok news.toArray w.drew
  size : news.length = m * sz
theorem run_append_zero {t t2 ty e : TypeId} {i : TypeInfo} (ht : P.underlying t = some (.slice e)) (hi : P.info? e = some i) {u : Value} {news : List Value} (hs : Src P w t2 i.size u news 0) (A : Option Addr) (n cap : Nat) (hc : n ≤ cap) :
    (Builtin.append_ #[t, t2] ty #[.slice A n cap, u]).run P w = .ok (.slice A n cap) w := by
  have hnews : news = [] := List.eq_nil_of_length_eq_zero (by simpa using hs.size)
  have hf := hs.cells
  rw [hnews] at hf
  have hl := hs.len
  rcases hs.ty with ⟨e2, hu⟩ | hu <;> cases A <;> simp [Builtin.append_, run_underlying ht, run_underlying hu, sizeOf, typeInfo, hi, hl, hc, hf, storeCells]
theorem run_append_grow' {t t2 ty e : TypeId} {i : TypeInfo} {z : Value} (ht : P.underlying t = some (.slice e)) (hi : P.info? e = some i) (hz : i.zero = some z) {u : Value} {news olds : List Value} {m : Nat} (hs : Src P w t2 i.size u news m)
    (A : Option Addr) (n cap : Nat) (hold : (Builtin.firstCells i.size n (.slice A n cap)).run P w.drew = .ok olds.toArray w.drew) (hg : cap < n + m) (h63 : n + m ≤ 140737488355328) (hb : (n + m) * i.bytes ≤ 140737488355328) :
    (Builtin.append_ #[t, t2] ty #[.slice A n cap, u]).run P w =
      .ok (.slice (some ⟨w.heap.size, 0, none⟩) (n + m) (grownCap w (n + m) cap e)) (w.drew.alloc (.cells (olds.toArray ++ news.toArray ++ Builtin.zeroCells z.cells (grownCap w (n + m) cap e - (n + m))) e)) := by
  have hl := hs.len
  have hf := hs.later
  have hn : ¬ (n + m ≤ cap) := by omega
  have h63' : ¬ (9223372036854775807 < ((n : Int) + (m : Int))) := by omega
  have h48' : ¬ (281474976710656 < Builtin.nextslicecap (n + m) cap * i.bytes) := by have := growslice_fits (need := n + m) (old := cap) (bytes := i.bytes) hg hb; omega
  rcases hs.ty with ⟨e2, hu⟩ | hu <;>
    (simp [Builtin.append_, run_underlying ht, run_underlying hu, sizeOf, typeInfo, zeroValue, hi, hz, hl, hn, h63', h48', Question.forced, hf, hold, newRow, grownCap]
     congr 2
     apply Array.ext'
     simp [List.append_assoc])
theorem run_append_in {t t2 ty e : TypeId} {i : TypeInfo} (ht : P.underlying t = some (.slice e)) (hi : P.info? e = some i) {u : Value} {news : List Value} {m : Nat} (hs : Src P w t2 i.size u news m)
    (b n cap : Nat) (cur : Array Value) (hb : w.heap[b]? = some (.cells cur e (0, 0))) (hroom : n + m ≤ cap) (hcur : cur.size = cap * i.size) (h1 : ∀ u ∈ news, u.oneCell' = true) :
    (Builtin.append_ #[t, t2] ty #[.slice (some ⟨b, 0, none⟩) n cap, u]).run P w =
      .ok (.slice (some ⟨b, 0, none⟩) (n + m) cap) (w.setRow b (cur.toList.take (n * i.size) ++ news ++ cur.toList.drop (n * i.size + news.length)).toArray) := by
  have hl := hs.len
  have hf := hs.cells
  have hfit : n * i.size + news.length ≤ cur.size := by rw [hs.size, hcur, ← Nat.add_mul]; exact Nat.mul_le_mul_right _ hroom
  have hst := run_storeCells_at P b (n * i.size) e news 0 cur w hb (by simpa using hfit) h1
  simp only [Nat.add_zero] at hst
  rcases hs.ty with ⟨e2, hu⟩ | hu <;> simp [Builtin.append_, run_underlying ht, run_underlying hu, sizeOf, typeInfo, hi, hl, hroom, hf, Addr.add_lit, hst]
def byteV (b : UInt8) : V := .int .u8 (b.toNat : Int)
def vnews (P : Program) (t2 : TypeId) (x : V) (sz : Nat) : Option (List V × Nat) :=
  match P.underlying t2, x with
  | some (.slice _), .nils => some ([], 0)
  | some (.slice _), .slice _ e2 ys m => if e2 = sz then some (ys, m) else none
  | some .string, .str l => if sz = 1 then some (l.map byteV, l.length) else none
  | _, _ => none
theorem vnews_ok {t2 : TypeId} {x : V} {u : Value} {sz : Nat} {ys : List V} {m : Nat} (hx : VR g σ.toks w x u) (h : vnews P t2 x sz = some (ys, m)) : ∃ news, Src P w t2 sz u news m ∧ VRs g σ.toks w ys news := by
  unfold vnews at h
  split at h
  · rename_i e hu
    injection h with h
    injection h with h1 h2
    subst h1 h2
    simp only [VR] at hx; subst hx
    exact ⟨[], ⟨.inl ⟨e, hu⟩, by simp [Builtin.lenOf], by simp [Builtin.firstCells], by simp [Builtin.firstCells], by simp⟩, by simp [VRs]⟩
  · rename_i e p e2 cs n hu
    split at h
    · rename_i he
      injection h with h
      injection h with h1 h2
      subst h1 h2 he
      simp only [VR] at hx
      obtain ⟨ad, cap, us, rfl, hl, hc, hm, hr, hs, hp⟩ := hx
      have hul := hs.length
      have hcell : ∀ j v, us[j]? = some v → w.cell? (ad.add j) = some v := hr.cell
      exact ⟨us, ⟨.inl ⟨e, hu⟩, by simp [Builtin.lenOf], run_firstCells_some w e2 n _ n cap us (by omega) hcell, run_firstCells_some w.drew e2 n _ n cap us (by omega) hcell, by omega⟩, hs⟩
    · cases h
  · rename_i l hu
    split at h
    · rename_i he
      injection h with h
      injection h with h1 h2
      subst h1 h2 he
      simp only [VR] at hx; subst hx
      have hsz : (⟨l.toArray⟩ : ByteArray).size = l.length := size_mk l
      have hf : ∀ W : World, (Builtin.firstCells 1 l.length (.string ⟨l.toArray⟩)).run P W = .ok (Lib.strCells ⟨l.toArray⟩).toArray W := fun W => by
        have := Lib.run_firstCells_string (P := P) W 1 ⟨l.toArray⟩
        rw [hsz] at this
        exact this
      have hsc : Lib.strCells ⟨l.toArray⟩ = l.map fun b => Value.int .u8 (b.toNat : Int) := by simp [Lib.strCells]
      refine ⟨Lib.strCells ⟨l.toArray⟩, ⟨.inr hu, by simp [Builtin.lenOf, hsz], hf w, hf w.drew, by rw [hsc]; simp⟩, ?_⟩
      rw [hsc]
      refine VRs.of_get (by simp) fun i v u hv hu' => ?_
      rw [List.getElem?_map] at hv hu'
      cases hb : l[i]? with
      | none => rw [hb] at hv; cases hv
      | some b =>
        rw [hb] at hv hu'
        simp at hv hu'
        subst hv hu'
        simp [VR, byteV]
    · cases h
  · cases h
def vnewsO (P : Program) (objs : List Ob) (t2 : TypeId) (x : V) (sz : Nat) : Option (List V × Nat) := match vnews P t2 x sz with
  | some r => some r
  | none => match P.underlying t2, x with
    | some (.slice _), .hslice r off e2 m => match objs[r]? with
      | some (.cells cs) => if e2 = sz ∧ off + m * sz ≤ cs.length then some ((cs.drop off).take (m * sz), m) else none
      | _ => none
    | _, _ => none
theorem Rel.part (h : Rel base w0 g σ w) {r : Nat} {cs : List V} (hr : σ.objs[r]? = some (.cells cs)) (off n : Nat) (hl : off + n ≤ cs.length) :
    ∃ us, VRs g σ.toks w ((cs.drop off).take n) us ∧ us.length = n ∧ ∀ j u, us[j]? = some u → w.cell? ⟨g.ρ r, g.ob r + off + j, none⟩ = some u := by
  obtain ⟨h1, h2, c, ty, us, hh, hus, hlen, hc⟩ := h.obj r _ hr
  have hul := hus.length
  refine ⟨(us.drop off).take n, VRs.of_get ?_ fun i v u hv hu => ?_, by rw [List.length_take, List.length_drop]; omega, fun j u hu => ?_⟩
  · rw [List.length_take, List.length_drop, List.length_take, List.length_drop]; omega
  · have hi : i < n := by
      have := (gA0.1 hv).1
      rw [List.length_take] at this
      omega
    rw [List.getElem?_take_of_lt hi, List.getElem?_drop] at hv hu
    obtain ⟨y, hy, hR⟩ := hus.get _ hv
    rw [hy] at hu
    injection hu with hu
    rw [← hu]; exact hR
  · have hj : j < n := by
      have := (gA0.1 hu).1
      rw [List.length_take] at this
      omega
    rw [List.getElem?_take_of_lt hj, List.getElem?_drop] at hu
    have := hc _ _ hu
    simp only [World.cell?, hh]
    rw [Nat.add_assoc]
    simpa using this
theorem vnewsO_ok (h : Rel base w0 g σ w) {t2 : TypeId} {x : V} {u : Value} {sz : Nat} {ys : List V} {m : Nat} (hx : VR g σ.toks w x u) (hn : vnewsO P σ.objs t2 x sz = some (ys, m)) : ∃ news, Src P w t2 sz u news m ∧ VRs g σ.toks w ys news := by
  unfold vnewsO at hn
  split at hn
  · rename_i r hr
    injection hn with hn
    subst hn
    exact vnews_ok hx hr
  · split at hn
    · rename_i e r off e2 n hu _
      split at hn
      · rename_i cs hr
        split at hn
        · rename_i hc
          obtain ⟨rfl, hc2⟩ := hc
          injection hn with hn
          injection hn with h1 h2
          subst h1 h2
          simp only [VR] at hx
          obtain ⟨hrn, cap, rfl, hle, hmx, hbs⟩ := hx
          obtain ⟨us, hv, hul, hcell⟩ := h.part hr off (n * e2) hc2
          have hc : ∀ W : World, W = w ∨ W = w.drew → ∀ j v, us[j]? = some v → W.cell? ((⟨g.ρ r, g.ob r + off, none⟩ : Addr).add j) = some v := by
            intro W hW j v hj
            rw [Addr.add_lit]
            rcases hW with rfl | rfl
            · exact hcell j v hj
            · exact hcell j v hj
          exact ⟨us, ⟨.inl ⟨e, hu⟩, by simp [Builtin.lenOf], run_firstCells_some w e2 n _ n cap us hul (hc _ (.inl rfl)), run_firstCells_some w.drew e2 n _ n cap us hul (hc _ (.inr rfl)), hul⟩, hv⟩
        · cases hn
      · cases hn
    · cases hn
theorem vnewsO_of {objs : List Ob} {t2 : TypeId} {x : V} {sz : Nat} {r : List V × Nat} (h : vnews P t2 x sz = some r) : vnewsO P objs t2 x sz = some r := by unfold vnewsO; rw [h]
def vappend (P : Program) (σ : St) (t t2 : TypeId) (s x : V) : Option (V × St) :=
  match P.underlying t with
  | some (.slice e) => match (P.info? e).map (·.bytes), sizeT P e, zeroT P e with
    | some by_, some sz, some z => match vnewsO P σ.objs t2 x sz with
      | some (ys, m) =>
        if (vcells z).length ≠ sz ∨ sz = 0 then none else
        match s with
        | .nils => if m = 0 then some (.nils, σ) else
          if m ≤ 140737488355328 ∧ m * by_ ≤ 140737488355328 then some (.slice (.tok σ.toks.length e) sz ys m, ⟨σ.objs, σ.toks ++ [true]⟩) else none
        | .slice p e2 cs n => if m = 0 then some (.slice p e2 cs n, σ) else
          if e2 = sz ∧ n + m ≤ 140737488355328 ∧ (n + m) * by_ ≤ 140737488355328 then
            match p with
            | .ro => none
            | .exact => some (.slice (.tok σ.toks.length e) sz (cs ++ ys) (n + m), ⟨σ.objs, σ.toks ++ [true]⟩)
            | .tok k e3 => if tokLive σ.toks k = true ∧ e3 = e ∧ ys.all one = true then
                some (.slice (.tok σ.toks.length e) sz (cs ++ ys) (n + m), ⟨σ.objs, killTok σ.toks k ++ [true]⟩)
              else none
          else none
        | _ => none
      | none => none
    | _, _, _ => none
  | _ => none
theorem grown_ok (h : Rel base w0 g σ w) {e : TypeId} {z : Value} {sz : Nat} (hz : z.cells.size = sz) (olds news : List Value) (cs ys : List V) (hco : VRs g σ.toks w cs olds) (hy : VRs g σ.toks w ys news) (n m cap : Nat) (hcl : cs.length = n * sz) (hyl : ys.length = m * sz)
    (h63 : n + m ≤ 140737488355328) :
    ∃ g', Ext g σ.toks w g' (σ.toks ++ [true]) (w.drew.alloc (.cells (olds.toArray ++ news.toArray ++ Builtin.zeroCells z.cells (grownCap w (n + m) cap e - (n + m))) e)) ∧
      Rel base w0 g' ⟨σ.objs, σ.toks ++ [true]⟩ (w.drew.alloc (.cells (olds.toArray ++ news.toArray ++ Builtin.zeroCells z.cells (grownCap w (n + m) cap e - (n + m))) e)) ∧
      VR g' (σ.toks ++ [true]) (w.drew.alloc (.cells (olds.toArray ++ news.toArray ++ Builtin.zeroCells z.cells (grownCap w (n + m) cap e - (n + m))) e)) (.slice (.tok σ.toks.length e) sz (cs ++ ys) (n + m)) (.slice (some ⟨w.heap.size, 0, none⟩) (n + m) (grownCap w (n + m) cap e)) := by
  have hge := grownCap_ge w (n + m) cap e
  have hol := hco.length
  have hnl := hy.length
  have hv : VRs g σ.toks w.drew (cs ++ ys) (olds ++ news) := VRs.ext (Ext.drew g σ.toks w) _ (hco.append hy)
  have hlen : (olds ++ news).length = (n + m) * sz := by rw [List.length_append, Nat.add_mul]; omega
  have := newRow_ok h.drew (olds.toArray ++ news.toArray ++ Builtin.zeroCells z.cells (grownCap w (n + m) cap e - (n + m))) e (cs ++ ys) (olds ++ news) hv
    (by simp only [Array.toList_append, List.append_assoc]; rw [← List.append_assoc]; exact List.take_left) (n + m) (grownCap w (n + m) cap e) sz (by rw [List.length_append, Nat.add_mul]; omega) hge
    (grownCap_le_maxLen w (n + m) cap e (by unfold maxLen; omega))
    (by
      rw [Array.size_append, Array.size_append, size_zeroCells, hz]
      simp only [List.size_toArray]
      have : olds.length + news.length = (n + m) * sz := by rw [← List.length_append]; exact hlen
      rw [this, ← Nat.add_mul]
      congr 1
      omega)
  exact ⟨_, (Ext.drew g σ.toks w).trans this.1, this.2.1, this.2.2⟩
theorem vappend_ok (h : Rel base w0 g σ w) {t t2 ty : TypeId} {s x v : V} {a b : Value} {σ' : St} (hs : VR g σ.toks w s a) (hx : VR g σ.toks w x b) (ha : vappend P σ t t2 s x = some (v, σ')) :
    MOk P base w0 g σ w (Builtin.append_ #[t, t2] ty #[a, b]) v σ' := by
  unfold vappend at ha
  split at ha
  · rename_i e ht
    split at ha
    · rename_i by_ sz z hby hsz hz
      obtain ⟨it, uz, hit, hzu, ho⟩ := zeroT_parts hz
      have hby' : it.bytes = by_ := by rw [hit] at hby; simpa using hby
      have hsz' : it.size = sz := by unfold sizeT at hsz; rw [hit] at hsz; simpa using hsz
      split at ha
      · rename_i ys m hn
        obtain ⟨news, hsrc, hvn⟩ := vnewsO_ok h hx hn
        rw [← hsz'] at hsrc
        have hyl : ys.length = m * sz := by rw [hvn.length, hsrc.size, hsz']
        split at ha
        · cases ha
        · rename_i hz0
          have hz1 : (vcells z).length = sz := Classical.byContradiction fun h => hz0 (.inl h)
          have hz2 : sz ≠ 0 := fun h => hz0 (.inr h)
          have hzc : uz.cells.size = sz := by
            have := (vcells_ok (ofVal_ok (g := g) (s := σ.toks) (w := w) ho)).length
            rw [← hz1, this]
            simp
          split at ha
          · simp only [VR] at hs; subst hs
            split at ha
            · rename_i hm
              subst hm
              injection ha with ha
              injection ha with h1 h2
              subst h1 h2
              exact ⟨.slice none 0 0, w, g, run_append_zero ht hit hsrc none 0 0 (Nat.le_refl _), Ext.refl _ _ _, h, by simp [VR]⟩
            · rename_i hm
              split at ha
              · rename_i hb
                injection ha with ha
                injection ha with h1 h2
                subst h1 h2
                have hrun := run_append_grow' (ty := ty) ht hit hzu hsrc none 0 0 (olds := []) (by simp [Builtin.firstCells]) (by omega) (by omega) (by rw [Nat.zero_add, hby']; exact hb.2)
                obtain ⟨g', hE, hR, hV⟩ := grown_ok (e := e) h hzc [] news [] ys (by simp [VRs]) hvn 0 m 0 (by simp) hyl (by omega)
                refine ⟨_, _, g', hrun, hE, hR, ?_⟩
                simpa using hV
              · cases ha
          · rename_i p e2 cs n
            split at ha
            · rename_i hm
              subst hm
              injection ha with ha
              injection ha with h1 h2
              subst h1 h2
              have hs2 := hs
              simp only [VR] at hs2
              obtain ⟨ad, cap, us, rfl, hl, hc, hmx, hr, hvs, hp⟩ := hs2
              exact ⟨_, w, g, run_append_zero ht hit hsrc _ n cap hc, Ext.refl _ _ _, h, hs⟩
            · rename_i hm
              split at ha
              · rename_i hb
                obtain ⟨hb1, hb2, hb3⟩ := hb
                subst hb1
                simp only [VR] at hs
                obtain ⟨ad, cap, us, rfl, hl, hc, hmx, hr, hvs, hp⟩ := hs
                have hold : ∀ W : World, W = w ∨ W = w.drew → (Builtin.firstCells it.size n (.slice (some ad) n cap)).run P W = .ok us.toArray W := fun W hW => by
                  refine run_firstCells_some W it.size n _ n cap us (by rw [← hvs.length, hl, hsz']) (fun j v hj => ?_)
                  rcases hW with rfl | rfl
                  · exact hr.cell j v hj
                  · exact hr.cell j v hj
                split at ha
                · cases ha
                · injection ha with ha
                  injection ha with h1 h2
                  subst h1 h2
                  simp only [PermOk] at hp
                  have hrun := run_append_grow' (ty := ty) ht hit hzu hsrc (some ad) n cap (hold _ (.inr rfl)) (by omega) hb2 (by rw [hby']; exact hb3)
                  obtain ⟨g', hE, hR, hV⟩ := grown_ok (e := e) h hzc us news cs ys hvs hvn n m cap hl hyl hb2
                  exact ⟨_, _, g', hrun, hE, hR, hV⟩
                · rename_i k e3
                  split at ha
                  · rename_i hk
                    obtain ⟨hk1, hk2, hk3⟩ := hk
                    subst hk2
                    injection ha with ha
                    injection ha with h1 h2
                    subst h1 h2
                    simp only [PermOk] at hp
                    obtain ⟨hp1, hp2⟩ := hp
                    obtain ⟨hp3, hp5, cur, hp6, hp7⟩ := hp2 hk1
                    subst hp3
                    by_cases hroom : n + m ≤ cap
                    · have hrun := run_append_in (ty := ty) ht hit hsrc (g.tk k) n cap cur hp6 hroom (by rw [hsz']; exact hp7) (ones_ok hvn hk3)
                      have hfit : n * it.size + news.length ≤ cur.size := by rw [hsrc.size, hp7, hsz', ← Nat.add_mul]; exact Nat.mul_le_mul_right _ hroom
                      have hnl := hsrc.size
                      have hle : n * e2 ≤ cur.size := by rw [hp7]; exact Nat.mul_le_mul_right _ hc
                      have hsize : ((cur.toList.take (n * it.size) ++ news ++ cur.toList.drop (n * it.size + news.length)).toArray).size = cur.size := by
                        simp only [List.size_toArray, List.length_append, List.length_take, List.length_drop, Array.length_toList]
                        omega
                      have hA := h.appendIn (w' := w.setRow (g.tk k) (cur.toList.take (n * it.size) ++ news ++ cur.toList.drop (n * it.size + news.length)).toArray) hk1 hp6 (setRow_heap w (g.tk k) cur _ e3 _ hp6) hsize
                        (fun q hq => setRow_other w (g.tk k) q _ hq) (by simp) rfl rfl rfl (fun q hq => by
                          rw [← hp5] at hq
                          simp only [List.getElem?_toArray, List.append_assoc]
                          rw [gA2 (by simp only [List.length_take, Array.length_toList]; rw [hsz']; omega)]
                          rw [List.getElem?_take_of_lt (by rw [hsz']; exact hq)]
                          simp) ((n + m) * e2) (by rw [← hp5]; exact Nat.mul_le_mul_right _ (by omega))
                      obtain ⟨hE, hR⟩ := hA
                      refine ⟨_, _, _, hrun, hE, hR, ?_⟩
                      have hul := hvs.length
                      simp only [VR]
                      refine ⟨⟨g.tk k, 0, none⟩, cap, us ++ news, rfl, by rw [List.length_append, Nat.add_mul]; omega, hroom, hmx, fun _ => ⟨rfl, ?_, fun j u hj => ?_⟩, VRs.ext hE _ (hvs.append hvn), ⟨by simp [length_kill], fun _ => ⟨by simp [Gh.token], by simp [Gh.token, Gh.row], _, by simp only [Gh.token, if_pos]; exact setRow_heap w (g.tk k) cur _ e3 _ hp6, by rw [hsize]; exact hp7⟩⟩⟩
                      · simp only [Gh.token, Gh.row, if_pos]
                        rw [List.length_append, Nat.add_mul, hnl, hsz']
                        omega
                      · have hjl : j < (us ++ news).length := (gA0.1 hj).1
                        rw [Nat.zero_add]
                        simp only [World.cell?, setRow_heap w (g.tk k) cur _ e3 _ hp6]
                        have htake : cur.toList.take (n * it.size) = us := by
                          apply List.ext_getElem?
                          intro q
                          by_cases hq : q < us.length
                          · have h9 := hr.cell q _ (List.getElem?_eq_getElem hq)
                            rw [Addr.add_lit, Nat.zero_add] at h9
                            simp only [World.cell?, hp6] at h9
                            rw [List.getElem?_take_of_lt (by rw [hsz']; omega), List.getElem?_eq_getElem hq]
                            simpa using h9
                          · rw [List.getElem?_eq_none (l := us) (by omega), List.getElem?_eq_none (l := cur.toList.take (n * it.size)) (by rw [List.length_take, hsz', Array.length_toList]; omega)]
                        rw [htake]
                        simp only [Option.isSome_none, Bool.false_eq_true, if_false, List.getElem?_toArray]
                        rw [gA2 (by simpa using hjl)]
                        exact hj
                    · have hK := h.kill k
                      have hEK := Ext.kill g σ.toks w k
                      have hrun := run_append_grow' (ty := ty) ht hit hzu hsrc (some ⟨g.tk k, 0, none⟩) n cap (hold _ (.inr rfl)) (by omega) hb2 (by rw [hby']; exact hb3)
                      obtain ⟨g', hE, hR, hV⟩ := grown_ok (e := e3) hK hzc us news cs ys (VRs.ext hEK _ hvs) (VRs.ext hEK _ hvn) n m cap hl hyl hb2
                      refine ⟨_, _, g', hrun, hEK.trans hE, hR, ?_⟩
                      simpa [length_kill] using hV
                  · cases ha
              · cases ha
          · cases ha
      · cases ha
    · cases ha
  · cases ha
end
end Go.Proofs.YtnegdinonfjdfaaDoor.Q
namespace Go.Proofs.YtnegdinonfjdfaaDoor.Q
open Go Go.RowKit
section
variable {P : Program} {base : Nat} {w0 : World} {g : Gh} {σ : St} {w : World}
theorem Rel.mapSet (h : Rel base w0 g σ w) {r : Nat} {es : List (V × V)} (hr : σ.objs[r]? = some (.mp es)) (a' : Array MapEntry) (clock' : Nat) (es' : List (V × V))
    (hk : VRs g σ.toks w (es'.map (·.1)) (a'.toList.map (·.key))) (hv : VRs g σ.toks w (es'.map (·.2)) (a'.toList.map (·.val))) (hS : (∀ x ∈ a'.toList, x.born < clock') ∧ (a'.toList.map (·.born)).Nodup) :
    Ext g σ.toks w g σ.toks { w with heap := w.heap.setIfInBounds (g.ρ r) (.map a' clock') } ∧ Rel base w0 g ⟨σ.objs.set r (.mp es'), σ.toks⟩ { w with heap := w.heap.setIfInBounds (g.ρ r) (.map a' clock') } := by
  obtain ⟨hb, hL, a, cl, hh, _⟩ := h.obj r _ hr
  have hlt := (Array.getElem?_eq_some_iff.1 hh).1
  have halr : aliveAt σ.objs r := ⟨_, hr, fun h => by cases h⟩
  have other : ∀ k, k ≠ g.ρ r → ({ w with heap := w.heap.setIfInBounds (g.ρ r) (.map a' clock') } : World).heap[k]? = w.heap[k]? := fun k hk => by
    simp only [Array.getElem?_setIfInBounds]
    rw [if_neg (fun e => hk e.symm)]
  have same : ({ w with heap := w.heap.setIfInBounds (g.ρ r) (.map a' clock') } : World).heap[g.ρ r]? = some (.map a' clock') := by
    simp [Array.getElem?_setIfInBounds, hlt]
  have E : Ext g σ.toks w g σ.toks { w with heap := w.heap.setIfInBounds (g.ρ r) (.map a' clock') } := {
    n := Nat.le_refl _
    has := fun _ h => h
    ρ := fun _ _ => rfl
    ob := fun _ _ => rfl
    L := fun _ => Nat.le_refl _
    cells := fun b q hlo => by
      by_cases eb : b = g.ρ r
      · subst eb; rw [hL] at hlo; omega
      · exact cell?_heap (other b eb) q
    shape := fun b c ty fr hbb => by
      by_cases eb : b = g.ρ r
      · subst eb; rw [hh] at hbb; cases hbb
      · exact ⟨c, fr, (other b eb).trans hbb, rfl, .inl rfl⟩
    dfr := fun b x hbb => by
      by_cases eb : b = g.ρ r
      · subst eb; rw [hh] at hbb; cases hbb
      · exact (other b eb).trans hbb
    nt := Nat.le_refl _
    tok := fun s _ hl => ⟨hl, rfl, rfl⟩ }
  refine ⟨E, ?_⟩
  have hd : ∀ h : (Ob.mp es).gone, False := fun h => h
  exact {
    below := h.below.trans ⟨rfl, rfl, rfl, by simp, fun i hi => other i (by omega)⟩
    bs := by simpa using h.bs
    n := by simpa using h.n
    hid := fun k => by
      by_cases e : r = k
      · subst e
        rw [gA5 (gA0.1 hr).1, h.hid, hr]
        constructor <;> (intro h; cases h)
      · rw [gA3 e]
        exact h.hid k
    obj := fun k o hk2 => by
      rw [List.getElem?_set] at hk2
      by_cases ek : r = k
      · subst ek
        rw [if_pos rfl] at hk2
        split at hk2
        · injection hk2 with hk2
          subst hk2
          exact ⟨hb, hL, a', clock', same, VRs.ext E _ hk, VRs.ext E _ hv, hS⟩
        · cases hk2
      · rw [if_neg ek] at hk2
        by_cases hdd : o.gone
        · exact ObjOk.gone hdd
        · have hne : g.ρ k ≠ g.ρ r := fun ee => ek (h.inj k r ⟨o, hk2, hdd⟩ halr ee).symm
          exact (h.obj k o hk2).ext E (h.hasO hk2) (other _ hne) rfl
    inj := fun a b ha hb' => h.inj a b (alive_set hr hd ha) (alive_set hr hd hb')
    tok := fun t ht => by
      obtain ⟨h1, h2, h3⟩ := h.tok t ht
      exact ⟨h1, by simpa using h2, fun a ha => h3 a (alive_set hr hd ha)⟩
    tinj := h.tinj
    lim := fun b hb' => h.lim b (by simpa using hb') }
def vmakeMap (σ : St) : V × St := (.omap σ.objs.length, ⟨σ.objs ++ [.mp []], σ.toks⟩)
theorem vmakeMap_ok (h : Rel base w0 g σ w) (t : TypeId) : MOk P base w0 g σ w (Instr.makeMap t none) (vmakeMap σ).1 (vmakeMap σ).2 := by
  refine ⟨.map (some w.heap.size), w.alloc (.map #[] 0), g.obj w.heap.size, by simp [Instr.makeMap, newObj, Sem.run], Ext.obj h _, h.newA _ _ ?_, ?_⟩
  · simp only [ObjOk, Gh.obj]
    rw [if_pos h.n.symm]
    exact ⟨h.bs, h.lim _ (Nat.le_refl _), #[], 0, heap_alloc_eq _ _, by simp [VRs], by simp [VRs], by simp, by simp⟩
  · simp [vmakeMap, VR, Gh.obj, h.n, Gh.has]
def keyEq (d : TypeDesc) : V → V → Option Bool
  | .int k a, .int k' b => match d with | .int _ => if k = k' then some (decide (a = b)) else none | _ => none
  | .str a, .str b => match d with | .string => some (decide (a = b)) | _ => none
  | .bool a, .bool b => match d with | .bool => some (a == b) | _ => none
  | _, _ => none
def vfind (d : TypeDesc) (k : V) : List (V × V) → Nat → Option (Option (Nat × V))
  | [], _ => some none
  | e :: es, i => match keyEq d k e.1 with
    | some true => some (some (i, e.2))
    | some false => vfind d k es (i + 1)
    | none => none
theorem keyEq_ok {toks : List Bool} {d : TypeDesc} {k k' : V} {x x' : Value} {b : Bool} (h : VR g toks w k x) (h' : VR g toks w k' x') (e : keyEq d k k' = some b) : Instr.sameNow d x x' = some b ∧ (b = true → x' = x ∧ ∀ n, Instr.sameBits n x' x = true) := by
  unfold keyEq at e
  split at e
  · split at e
    · split at e
      · rename_i hk
        subst hk
        injection e with e
        simp only [VR] at h h'
        subst h h'
        simp only [Instr.sameNow, if_true]
        refine ⟨by rw [← e]; rfl, fun hb => ?_⟩
        rw [hb] at e
        simp at e
        subst e
        exact ⟨rfl, fun n => by cases n <;> simp [Instr.sameBits]⟩
      · cases e
    · cases e
  · split at e
    · injection e with e
      simp only [VR] at h h'
      subst h h'
      rename_i a b' _
      have he : ((⟨a.toArray⟩ : ByteArray) == ⟨b'.toArray⟩) = decide (a = b') := by
        show (a.toArray == b'.toArray) = decide (a = b')
        rw [Bool.eq_iff_iff]
        simp
      simp only [Instr.sameNow, he]
      refine ⟨by rw [← e], fun hb => ?_⟩
      rw [hb] at e
      simp at e
      subst e
      rw [decide_eq_true rfl] at he
      exact ⟨rfl, fun n => by cases n <;> (simp only [Instr.sameBits]; exact he)⟩
    · cases e
  · split at e
    · injection e with e
      simp only [VR] at h h'
      subst h h'
      simp only [Instr.sameNow]
      refine ⟨by rw [← e], fun hb => ?_⟩
      rw [hb] at e
      simp at e
      subst e
      exact ⟨rfl, fun n => by cases n <;> simp [Instr.sameBits]⟩
    · cases e
  · cases e
theorem vfind_ok {toks : List Bool} {d : TypeDesc} {k : V} {x : Value} (h : VR g toks w k x) : ∀ {es : List (V × V)} {a : List MapEntry} {i : Nat} {r : Option (Nat × V)}, VRs g toks w (es.map (·.1)) (a.map (·.key)) → VRs g toks w (es.map (·.2)) (a.map (·.val)) → vfind d k es i = some r →
    match r with
    | none => Instr.findNow d x a i = some none
    | some (j, v) => ∃ u, Instr.findNow d x a i = some (some (j, u)) ∧ VR g toks w v u ∧ i ≤ j ∧ j < i + es.length ∧ ∃ e, a[j - i]? = some e ∧ ∀ n, Instr.sameBits n e.key x = true
  | [], a, i, r, hk, hv, hf => by
    simp only [vfind] at hf
    injection hf with hf
    subst hf
    cases a with
    | nil => rfl
    | cons e a => simp [VRs] at hk
  | e :: es, a, i, r, hk, hv, hf => by
    cases a with
    | nil => simp [VRs] at hk
    | cons y a =>
      simp only [List.map_cons, VRs] at hk hv
      obtain ⟨u1, us1, e1, hk1, hk2⟩ := hk
      obtain ⟨u2, us2, e2, hv1, hv2⟩ := hv
      injection e1 with e1 e1'
      injection e2 with e2 e2'
      subst e1 e1' e2 e2'
      simp only [vfind] at hf
      split at hf
      · rename_i hq
        injection hf with hf
        subst hf
        obtain ⟨q1, q2⟩ := keyEq_ok h hk1 hq
        refine ⟨y.val, by simp only [Instr.findNow, q1], hv1, Nat.le_refl _, by simp, y, by simp, (q2 rfl).2⟩
      · rename_i hq
        obtain ⟨q1, _⟩ := keyEq_ok h hk1 hq
        have := vfind_ok h hk2 hv2 hf
        cases r with
        | none => simp only [Instr.findNow, q1]; exact this
        | some r =>
          obtain ⟨j, v⟩ := r
          obtain ⟨u, h1, h2, h3, h4, e', h5, h6⟩ := this
          refine ⟨u, by simp only [Instr.findNow, q1]; exact h1, h2, by omega, by simp; omega, e', ?_, h6⟩
          rw [show j - i = (j - (i + 1)) + 1 by omega, List.getElem?_cons_succ]
          exact h5
      · cases hf
def keyDesc (P : Program) (t : TypeId) : Option TypeDesc := match P.underlying t with
  | some (.int k) => some (.int k)
  | some .string => some .string
  | some .bool => some .bool
  | _ => none
theorem keyDesc_eq {t : TypeId} {d : TypeDesc} (h : keyDesc P t = some d) : P.underlying t = some d ∧ ∀ (b : Bool) (n : Nat) (x : Value), (Instr.checkKey b (n + 1) t x).run P w = .ok () w := by
  unfold keyDesc at h
  split at h
  · rename_i k hu; injection h with h; subst h; exact ⟨hu, fun b n x => by simp [Instr.checkKey, run_underlying hu]⟩
  · rename_i hu; injection h with h; subst h; exact ⟨hu, fun b n x => by simp [Instr.checkKey, run_underlying hu]⟩
  · rename_i hu; injection h with h; subst h; exact ⟨hu, fun b n x => by simp [Instr.checkKey, run_underlying hu]⟩
  · cases h
def vlookup (P : Program) (objs : List Ob) (t : TypeId) (m k : V) (ok : Bool) : Option V := match P.underlying t, m with
  | some (.map kt et), .omap r => match objs[r]?, keyDesc P kt, zeroT P et with
    | some (.mp es), some d, some z => match vfind d k es 0 with
      | some (some (_, v)) => some (if ok then .tuple [v, .bool true] else v)
      | some none => some (if ok then .tuple [z, .bool false] else z)
      | none => none
    | _, _, _ => none
  | _, _ => none
theorem vlookup_ok (h : Rel base w0 g σ w) {t : TypeId} {m k v : V} {x y : Value} {ok : Bool} (hm : VR g σ.toks w m x) (hk : VR g σ.toks w k y) (hl : vlookup P σ.objs t m k ok = some v) : POk P g σ.toks w (Instr.lookup t x y ok) v := by
  unfold vlookup at hl
  split at hl
  · rename_i kt et r hu
    split at hl
    · rename_i es d z ho hd hz
      obtain ⟨it, uz, hit, hzu, hoz⟩ := zeroT_parts hz
      obtain ⟨hb, hL, a, cl, hh, h1, h2, hB1, hB2⟩ := h.obj r _ ho
      simp only [VR] at hm
      obtain ⟨hrn, rfl⟩ := hm
      obtain ⟨hd1, hd2⟩ := keyDesc_eq (w := w) hd
      have hzr : (zeroValue et).run P w = .ok uz w := by simp [zeroValue, typeInfo, hit, hzu]
      have hck := hd2 a.isEmpty 9999 y
      have hg := run_getObj_map (P := P) w _ _ _ hh
      split at hl
      · rename_i j u hf
        injection hl with hl
        subst hl
        obtain ⟨u', q1, q2, _⟩ := vfind_ok hk h1 h2 hf
        cases ok with
        | true => exact ⟨.tuple #[u', .bool true], by simp [Instr.lookup, Instr.findKey, run_underlying hu, run_underlying hd1, hg, hck, q1], by simp only [if_true, VR]; exact ⟨[u', .bool true], rfl, by simp [VRs, VR, q2]⟩⟩
        | false => exact ⟨u', by simp [Instr.lookup, Instr.findKey, run_underlying hu, run_underlying hd1, hg, hck, q1], q2⟩
      · rename_i hf
        injection hl with hl
        subst hl
        have q1 := vfind_ok hk h1 h2 hf
        simp only at q1
        have hzv : VR g σ.toks w z uz := ofVal_ok hoz
        cases ok with
        | true => exact ⟨.tuple #[uz, .bool false], by simp [Instr.lookup, Instr.findKey, run_underlying hu, run_underlying hd1, hg, hck, q1, hzr], by simp only [if_true, VR]; exact ⟨[uz, .bool false], rfl, by simp [VRs, VR, hzv]⟩⟩
        | false => exact ⟨uz, by simp [Instr.lookup, Instr.findKey, run_underlying hu, run_underlying hd1, hg, hck, q1, hzr], hzv⟩
      · cases hl
    · cases hl
  · cases hl
def vmapSet (P : Program) (σ : St) (t : TypeId) (m k v : V) : Option St := match P.underlying t, m with
  | some (.map kt _), .omap r => match σ.objs[r]?, keyDesc P kt with
    | some (.mp es), some d => match vfind d k es 0 with
      | some (some (i, _)) => some ⟨σ.objs.set r (.mp (es.set i (k, v))), σ.toks⟩
      | some none => some ⟨σ.objs.set r (.mp (es ++ [(k, v)])), σ.toks⟩
      | none => none
    | _, _ => none
  | _, _ => none
theorem vmapSet_ok (h : Rel base w0 g σ w) {t : TypeId} {m k v : V} {x y z : Value} {σ' : St} (hm : VR g σ.toks w m x) (hk : VR g σ.toks w k y) (hv : VR g σ.toks w v z) (hl : vmapSet P σ t m k v = some σ') :
    ∃ w', (Instr.mapUpdate t x y z).run P w = .ok () w' ∧ Ext g σ.toks w g σ'.toks w' ∧ Rel base w0 g σ' w' := by
  unfold vmapSet at hl
  split at hl
  · rename_i kt et r hu
    split at hl
    · rename_i es d ho hd
      obtain ⟨hb, hL, a, cl, hh, h1, h2, hB1, hB2⟩ := h.obj r _ ho
      simp only [VR] at hm
      obtain ⟨hrn, rfl⟩ := hm
      obtain ⟨hd1, hd2⟩ := keyDesc_eq (w := w) hd
      have hck := hd2 false 9999 y
      have hg := run_getObj_map (P := P) w _ _ _ hh
      have hst : ∀ o : Obj, (setObj (g.ρ r) o).run P w = .ok () { w with heap := w.heap.setIfInBounds (g.ρ r) o } := fun o => MapKept.run_setObj_map o hh
      split at hl
      · rename_i j u hf
        injection hl with hl
        subst hl
        obtain ⟨u', q1, q2, _, hj, e, he, hsb⟩ := vfind_ok hk h1 h2 hf
        rw [Nat.sub_zero] at he
        rw [Array.getElem?_toList] at he
        have hkt : (Instr.keyThatStays e.key y).run P w = .ok y w := by simp [Instr.keyThatStays, hsb]
        have hjl : j < a.size := (Array.getElem?_eq_some_iff.1 he).1
        have hmk : ((a.modify j fun e => { e with key := y, val := z }).toList.map (·.key)) = (a.toList.map (·.key)).set j y := by
          apply List.ext_getElem?
          intro i
          simp only [List.getElem?_map, List.getElem?_set, Array.getElem?_toList, Array.getElem?_modify, List.length_map, Array.length_toList]
          by_cases e : j = i
          · subst e; simp [hjl, Array.getElem?_eq_getElem hjl]
          · simp [e]
        have hmv : ((a.modify j fun e => { e with key := y, val := z }).toList.map (·.val)) = (a.toList.map (·.val)).set j z := by
          apply List.ext_getElem?
          intro i
          simp only [List.getElem?_map, List.getElem?_set, Array.getElem?_toList, Array.getElem?_modify, List.length_map, Array.length_toList]
          by_cases e : j = i
          · subst e; simp [hjl, Array.getElem?_eq_getElem hjl]
          · simp [e]
        have hmb : ((a.modify j fun e => { e with key := y, val := z }).toList.map (·.born)) = a.toList.map (·.born) := by
          apply List.ext_getElem?
          intro i
          simp only [List.getElem?_map, Array.getElem?_toList, Array.getElem?_modify]
          by_cases e : j = i
          · subst e; simp [Array.getElem?_eq_getElem hjl]
          · simp [e]
        have hSs : (∀ x ∈ (a.modify j fun e => { e with key := y, val := z }).toList, x.born < cl) ∧ ((a.modify j fun e => { e with key := y, val := z }).toList.map (·.born)).Nodup := by
          refine ⟨fun x hx => ?_, by rw [hmb]; exact hB2⟩
          have : x.born ∈ a.toList.map (·.born) := by rw [← hmb]; exact List.mem_map_of_mem hx
          obtain ⟨y', hy', he'⟩ := List.mem_map.1 this
          rw [← he']; exact hB1 y' hy'
        obtain ⟨E, R⟩ := h.mapSet ho (a.modify j fun e => { e with key := y, val := z }) cl (es.set j (k, v)) (by rw [List.map_set, hmk]; exact VRs.set h1 j hk) (by rw [List.map_set, hmv]; exact VRs.set h2 j hv) hSs
        refine ⟨_, ?_, E, R⟩
        simp [Instr.mapUpdate, Instr.findKey, run_underlying hu, run_underlying hd1, hg, hck, q1, he, hkt, hst]
      · rename_i hf
        injection hl with hl
        subst hl
        have q1 := vfind_ok hk h1 h2 hf
        simp only at q1
        have hSs : (∀ x ∈ (a.push { key := y, val := z, born := cl }).toList, x.born < cl + 1) ∧ ((a.push { key := y, val := z, born := cl }).toList.map (·.born)).Nodup := by
          simp only [Array.toList_push, List.mem_append, List.mem_singleton, List.map_append, List.map_cons, List.map_nil]
          refine ⟨fun x hx => ?_, ?_⟩
          · rcases hx with hx | rfl
            · exact Nat.lt_succ_of_lt (hB1 x hx)
            · exact Nat.lt_succ_self _
          · rw [List.nodup_append]
            refine ⟨hB2, by simp, fun x hx y' hy' => ?_⟩
            obtain ⟨z', hz', rfl⟩ := List.mem_map.1 hx
            have := hB1 z' hz'
            simp at hy'
            omega
        obtain ⟨E, R⟩ := h.mapSet ho (a.push { key := y, val := z, born := cl }) (cl + 1) (es ++ [(k, v)]) (by simp only [List.map_append, Array.toList_push]; exact h1.append (by simp [VRs, hk])) (by simp only [List.map_append, Array.toList_push]; exact h2.append (by simp [VRs, hv])) hSs
        refine ⟨_, ?_, E, R⟩
        simp [Instr.mapUpdate, Instr.findKey, run_underlying hu, run_underlying hd1, hg, hck, q1, hst]
      · cases hl
    · cases hl
  · cases hl
def vmapDel (P : Program) (σ : St) (t : TypeId) (m k : V) : Option St := match P.underlying t, m with
  | some (.map kt _), .omap r => match σ.objs[r]?, keyDesc P kt with
    | some (.mp es), some d => match vfind d k es 0 with
      | some (some (i, _)) => some ⟨σ.objs.set r (.mp (es.eraseIdx i)), σ.toks⟩
      | some none => some ⟨σ.objs.set r (.mp es), σ.toks⟩
      | none => none
    | _, _ => none
  | _, _ => none
theorem map_eraseIdx' {α β : Type} (f : α → β) : ∀ (l : List α) (i : Nat), (l.eraseIdx i).map f = (l.map f).eraseIdx i
  | [], i => by simp
  | x :: l, 0 => rfl
  | x :: l, i + 1 => by simp [map_eraseIdx' f l i]
theorem VRs.eraseIdx {toks : List Bool} {vs : List V} {us : List Value} (h : VRs g toks w vs us) (i : Nat) : VRs g toks w (vs.eraseIdx i) (us.eraseIdx i) := by
  induction vs generalizing us i with
  | nil => simp only [VRs] at h; subst h; simp [VRs]
  | cons v vs ih =>
    simp only [VRs] at h
    obtain ⟨u, us', rfl, h1, h2⟩ := h
    cases i with
    | zero => exact h2
    | succ i => simp only [List.eraseIdx_cons_succ, VRs]; exact ⟨u, _, rfl, h1, ih h2 i⟩
theorem vmapDel_ok (h : Rel base w0 g σ w) {t ty : TypeId} {ts : Array TypeId} (hts : ts[0]? = some t) {m k : V} {x y : Value} {σ' : St} (hm : VR g σ.toks w m x) (hk : VR g σ.toks w k y) (hl : vmapDel P σ t m k = some σ') :
    ∃ w', (Builtin.delete_ ts ty #[x, y]).run P w = .ok (.tuple #[]) w' ∧ Ext g σ.toks w g σ'.toks w' ∧ Rel base w0 g σ' w' := by
  unfold vmapDel at hl
  split at hl
  · rename_i kt et r hu
    split at hl
    · rename_i es d ho hd
      obtain ⟨hb, hL, a, cl, hh, h1, h2, hB1, hB2⟩ := h.obj r _ ho
      simp only [VR] at hm
      obtain ⟨hrn, rfl⟩ := hm
      obtain ⟨hd1, hd2⟩ := keyDesc_eq (w := w) hd
      have hck := hd2 a.isEmpty 9999 y
      have hg := run_getObj_map (P := P) w _ _ _ hh
      have hst : ∀ o : Obj, (setObj (g.ρ r) o).run P w = .ok () { w with heap := w.heap.setIfInBounds (g.ρ r) o } := fun o => MapKept.run_setObj_map o hh
      split at hl
      · rename_i j u hf
        injection hl with hl
        subst hl
        obtain ⟨u', q1, q2, _, hj, e, he, hsb⟩ := vfind_ok hk h1 h2 hf
        have ht : (a.eraseIdxIfInBounds j).toList = a.toList.eraseIdx j := by simp
        have hmap : ∀ {α : Type} (f : MapEntry → α), ((a.eraseIdxIfInBounds j).toList.map f) = (a.toList.map f).eraseIdx j := fun f => by rw [ht, map_eraseIdx']
        have hmv : ∀ {α : Type} (f : V × V → α), (es.eraseIdx j).map f = (es.map f).eraseIdx j := fun f => map_eraseIdx' _ _ _
        obtain ⟨E, R⟩ := h.mapSet ho (a.eraseIdxIfInBounds j) cl (es.eraseIdx j) (by rw [hmap, hmv]; exact h1.eraseIdx j) (by rw [hmap, hmv]; exact h2.eraseIdx j)
          ⟨fun x hx => hB1 x (List.mem_of_mem_eraseIdx (by rwa [ht] at hx)), by rw [hmap]; exact List.Sublist.nodup (List.eraseIdx_sublist _ _) hB2⟩
        refine ⟨_, ?_, E, R⟩
        simp [Builtin.delete_, Instr.findKey, hts, run_underlying hu, run_underlying hd1, hg, hck, q1, hst]
      · rename_i hf
        injection hl with hl
        subst hl
        have q1 := vfind_ok hk h1 h2 hf
        simp only at q1
        obtain ⟨E, R⟩ := h.mapSet ho a cl es h1 h2 ⟨hB1, hB2⟩
        refine ⟨_, ?_, E, R⟩
        simp [Builtin.delete_, Instr.findKey, hts, run_underlying hu, run_underlying hd1, hg, hck, q1, hst]
      · cases hl
    · cases hl
  · cases hl
def vmapLen (P : Program) (objs : List Ob) (t : TypeId) (m : V) : Option V := match P.underlying t, m with
  | some (.map _ _), .omap r => match objs[r]? with
    | some (.mp es) => some (.int .i64 (es.length : Nat))
    | _ => none
  | _, _ => none
theorem vmapLen_ok (h : Rel base w0 g σ w) {t ty : TypeId} {ts : Array TypeId} (hts : ts[0]? = some t) {m v : V} {x : Value} (hm : VR g σ.toks w m x) (hl : vmapLen P σ.objs t m = some v) : POk P g σ.toks w (Builtin.len_ ts ty #[x]) v := by
  unfold vmapLen at hl
  split at hl
  · rename_i kt et r hu
    split at hl
    · rename_i es ho
      injection hl with hl
      subst hl
      obtain ⟨hb, hL, a, cl, hh, h1, h2, hB1, hB2⟩ := h.obj r _ ho
      simp only [VR] at hm
      obtain ⟨hrn, rfl⟩ := hm
      have hg := run_getObj_map (P := P) w _ _ _ hh
      have hle := h1.length
      simp only [List.length_map, Array.length_toList] at hle
      exact ⟨goInt a.size, by simp [Builtin.len_, hts, run_underlying hu, hg], by simp only [VR, goInt, hle]⟩
    · cases hl
  · cases hl
end
end Go.Proofs.YtnegdinonfjdfaaDoor.Q
