/- The values of an abstract run, and what they say of memory. -/
import Derived.Test.YtmcadfejkcpblaaProg
import Derived.Below
import Derived.RowKit3
import Derived.Laws.AppendOwn
import Derived.Laws.OwnMore
import Derived.Laws.MakeOwn
import Derived.Deep.AppendLies
import Derived.Maps.AppendAt
import Derived.Calls
import Derived.Tactics
import Derived.KernelRfl
set_option linter.unusedVariables false
set_option linter.unusedSimpArgs false
namespace Go.Proofs.Ytmcadfejkcpblaa.Q
open Go Go.RowKit

/-- What may be done at the end of a row: nothing; its capacity is its length; the holder of this token may append. -/
inductive Perm where
  | ro | exact | tok (t : Nat) (e : TypeId)
  deriving DecidableEq

/-- Values: rows (slices) carry what they hold; pointers lead to objects, or into a row. -/
inductive V where
  | bool (b : Bool)
  | int (k : IntKind) (n : Int)
  | str (s : List UInt8)
  | nilp
  | optr (r off : Nat)
  | eptr (cs : List V) (off : Nat)
  | nils
  | slice (p : Perm) (esz : Nat) (cs : List V) (len : Nat)
  | hslice (r off esz len : Nat)
  | func (f : FuncId) (caps : List V)
  | nilf
  | iface (t : TypeId) (v : V)
  | nili
  | agg (cs : List V)
  | tuple (vs : List V)
  | nilm
  | omap (r : Nat)
  | yld (r : Nat)
  deriving Inhabited

/-- Where the run's objects, limits and tokens are in memory. -/
structure Gh where
  n : Nat
  hid : Nat → Bool
  ρ : Nat → Nat
  ob : Nat → Nat
  L : Nat → Nat
  tk : Nat → Nat

/-- It is there; hidden ones are yet to be born. -/
def Gh.has (g : Gh) (r : Nat) : Prop := r < g.n ∧ g.hid r = false
def World.bsize (w : World) (b : Nat) : Nat := match w.heap[b]? with | some (.cells c _ _) => c.size | _ => 0

def tokLive (toks : List Bool) (t : Nat) : Bool := toks.getD t false

/-- The cells of a row that nobody writes any more. -/
def RowAt (g : Gh) (w : World) (b o : Nat) (us : List Value) : Prop :=
  o + us.length ≤ g.L b ∧ ∀ i u, us[i]? = some u → w.cell? ⟨b, o + i, none⟩ = some u

/-- The same at an address; of an empty row nothing is said of where it lies. -/
def RowA (g : Gh) (w : World) (ad : Addr) (us : List Value) : Prop :=
  us ≠ [] → ad.spot = none ∧ RowAt g w ad.block ad.off us

def PermOk (g : Gh) (toks : List Bool) (w : World) (ad : Addr) (cap esz len : Nat) : Perm → Prop
  | .ro => True
  | .exact => cap = len
  | .tok t e => t < toks.length ∧ (tokLive toks t = true → ad = ⟨g.tk t, 0, none⟩ ∧ len * esz = g.L (g.tk t) ∧ ∃ cur, w.heap[g.tk t]? = some (.cells cur e (0, 0)) ∧ cur.size = cap * esz)

mutual
def VR (g : Gh) (toks : List Bool) (w : World) : V → Value → Prop
  | .bool b, x => x = .bool b
  | .int k n, x => x = .int k n
  | .str s, x => x = .string ⟨s.toArray⟩
  | .nilp, x => x = .pointer none
  | .optr r off, x => g.has r ∧ x = .pointer (some ⟨g.ρ r, g.ob r + off, none⟩)
  | .eptr cs off, x => ∃ b o us, x = .pointer (some ⟨b, o + off, none⟩) ∧ RowAt g w b o us ∧ VRs g toks w cs us
  | .nils, x => x = .slice none 0 0
  | .slice p esz cs len, x => ∃ ad cap us, x = .slice (some ad) len cap ∧ cs.length = len * esz ∧ len ≤ cap ∧ cap ≤ maxLen ∧ RowA g w ad us ∧ VRs g toks w cs us ∧ PermOk g toks w ad cap esz len p
  | .hslice r off esz len, x => g.has r ∧ ∃ cap, x = .slice (some ⟨g.ρ r, g.ob r + off, none⟩) len cap ∧ len ≤ cap ∧ cap ≤ maxLen ∧ g.ob r + off + cap * esz ≤ World.bsize w (g.ρ r)
  | .func f caps, x => ∃ us, x = .func (.func f) #[] us.toArray ∧ VRs g toks w caps us
  | .nilf, x => x = .nilFunc
  | .iface t v, x => ∃ u, x = .iface t u ∧ VR g toks w v u
  | .nili, x => x = .nilIface
  | .agg cs, x => ∃ us, x = .agg us.toArray ∧ VRs g toks w cs us
  | .tuple vs, x => ∃ us, x = .tuple us.toArray ∧ VRs g toks w vs us
  | .nilm, x => x = .map none
  | .omap r, x => g.has r ∧ x = .map (some (g.ρ r))
  | .yld r, x => g.has r ∧ x = .func (.yield (g.ρ r)) #[] #[]
def VRs (g : Gh) (toks : List Bool) (w : World) : List V → List Value → Prop
  | [], us => us = []
  | v :: vs, us => ∃ u us', us = u :: us' ∧ VR g toks w v u ∧ VRs g toks w vs us'
end

/-- From (g, toks, w) to (g', toks', w') whatever was said stays said. -/
structure Ext0 (g : Gh) (toks : List Bool) (w : World) (g' : Gh) (toks' : List Bool) (w' : World) : Prop where
  n : g.n ≤ g'.n
  has : ∀ r, g.has r → g'.has r
  ρ : ∀ r, g.has r → g'.ρ r = g.ρ r
  ob : ∀ r, g.has r → g'.ob r = g.ob r
  L : ∀ b, g.L b ≤ g'.L b
  cells : ∀ b o, o < g.L b → w'.cell? ⟨b, o, none⟩ = w.cell? ⟨b, o, none⟩
  shape : ∀ (b : Nat) (c : Array Value) (t : TypeId) (fr : Nat × Nat), w.heap[b]? = some (Obj.cells c t fr) → ∃ (c' : Array Value) (fr' : Nat × Nat), w'.heap[b]? = some (Obj.cells c' t fr') ∧ c'.size = c.size ∧ (fr' = fr ∨ ∀ t, t < toks.length → tokLive toks' t = true → g.tk t ≠ b)
  nt : toks.length ≤ toks'.length
  tok : ∀ t, t < toks.length → tokLive toks' t = true → tokLive toks t = true ∧ g'.tk t = g.tk t ∧ g'.L (g.tk t) = g.L (g.tk t)
structure Ext (g : Gh) (toks : List Bool) (w : World) (g' : Gh) (toks' : List Bool) (w' : World) : Prop extends Ext0 g toks w g' toks' w' where
  dfr : ∀ (b : Nat) (x : Option (List Deferred)), w.heap[b]? = some (.deferred x) → w'.heap[b]? = some (.deferred x)

theorem Ext.bsize {g g' : Gh} {s s' : List Bool} {w w' : World} (e : ∀ (b : Nat) (c : Array Value) (t : TypeId) (fr : Nat × Nat), w.heap[b]? = some (Obj.cells c t fr) → ∃ (c' : Array Value) (fr' : Nat × Nat), w'.heap[b]? = some (Obj.cells c' t fr') ∧ c'.size = c.size ∧ (fr' = fr ∨ ∀ t, t < s.length → tokLive s' t = true → g.tk t ≠ b)) (b : Nat) : World.bsize w b ≤ World.bsize w' b := by
  unfold World.bsize
  split
  · rename_i c t fr h
    obtain ⟨c', fr', h', hs, _⟩ := e b c t fr h
    rw [h']
    simp only
    omega
  · exact Nat.zero_le _

theorem Ext.refl (g : Gh) (toks : List Bool) (w : World) : Ext g toks w g toks w :=
  ⟨⟨Nat.le_refl _, fun _ h => h, fun _ _ => rfl, fun _ _ => rfl, fun _ => Nat.le_refl _, fun _ _ _ => rfl, fun _ c _ fr h => ⟨c, fr, h, rfl, .inl rfl⟩, Nat.le_refl _, fun _ _ h => ⟨h, rfl, rfl⟩⟩, fun _ _ h => h⟩

theorem Ext0.trans0 {g g1 g2 : Gh} {s s1 s2 : List Bool} {w w1 w2 : World} (a : Ext0 g s w g1 s1 w1) (b : Ext0 g1 s1 w1 g2 s2 w2) : Ext0 g s w g2 s2 w2 where
  n := Nat.le_trans a.n b.n
  has r h := b.has r (a.has r h)
  ρ r h := (b.ρ r (a.has r h)).trans (a.ρ r h)
  ob r h := (b.ob r (a.has r h)).trans (a.ob r h)
  L k := Nat.le_trans (a.L k) (b.L k)
  cells k o h := (b.cells k o (Nat.lt_of_lt_of_le h (a.L k))).trans (a.cells k o h)
  shape k c t fr h := by
    obtain ⟨c1, fr1, h1, s1, f1⟩ := a.shape k c t fr h
    obtain ⟨c2, fr2, h2, s2, f2⟩ := b.shape k c1 t fr1 h1
    refine ⟨c2, fr2, h2, s2.trans s1, ?_⟩
    rcases f2 with rfl | f2
    · rcases f1 with rfl | f1
      · exact .inl rfl
      · exact .inr fun u hu hl => f1 u hu (b.tok u (Nat.lt_of_lt_of_le hu a.nt) hl).1
    · refine .inr fun u hu hl => ?_
      have hu1 := Nat.lt_of_lt_of_le hu a.nt
      have := f2 u hu1 hl
      rwa [(a.tok u hu (b.tok u hu1 hl).1).2.1] at this
  nt := Nat.le_trans a.nt b.nt
  tok t h h2 := by
    obtain ⟨l1, t1, e1⟩ := b.tok t (Nat.lt_of_lt_of_le h a.nt) h2
    obtain ⟨l0, t0, e0⟩ := a.tok t h l1
    rw [t0] at e1 t1
    exact ⟨l0, t1, e1.trans e0⟩
theorem Ext.trans {g g1 g2 : Gh} {s s1 s2 : List Bool} {w w1 w2 : World} (a : Ext g s w g1 s1 w1) (b : Ext g1 s1 w1 g2 s2 w2) : Ext g s w g2 s2 w2 where
  n := Nat.le_trans a.n b.n
  has r h := b.has r (a.has r h)
  ρ r h := (b.ρ r (a.has r h)).trans (a.ρ r h)
  ob r h := (b.ob r (a.has r h)).trans (a.ob r h)
  L k := Nat.le_trans (a.L k) (b.L k)
  cells k o h := (b.cells k o (Nat.lt_of_lt_of_le h (a.L k))).trans (a.cells k o h)
  shape k c t fr h := by
    obtain ⟨c1, fr1, h1, s1, f1⟩ := a.shape k c t fr h
    obtain ⟨c2, fr2, h2, s2, f2⟩ := b.shape k c1 t fr1 h1
    refine ⟨c2, fr2, h2, s2.trans s1, ?_⟩
    rcases f2 with rfl | f2
    · rcases f1 with rfl | f1
      · exact .inl rfl
      · exact .inr fun u hu hl => f1 u hu (b.tok u (Nat.lt_of_lt_of_le hu a.nt) hl).1
    · refine .inr fun u hu hl => ?_
      have hu1 := Nat.lt_of_lt_of_le hu a.nt
      have := f2 u hu1 hl
      rwa [(a.tok u hu (b.tok u hu1 hl).1).2.1] at this
  nt := Nat.le_trans a.nt b.nt
  tok t h h2 := by
    obtain ⟨l1, t1, e1⟩ := b.tok t (Nat.lt_of_lt_of_le h a.nt) h2
    obtain ⟨l0, t0, e0⟩ := a.tok t h l1
    rw [t0] at e1 t1
    exact ⟨l0, t1, e1.trans e0⟩
  dfr k x h := b.dfr k x (a.dfr k x h)

theorem RowAt.ext0 {g g' : Gh} {s s' : List Bool} {w w' : World} (e : Ext0 g s w g' s' w') {b o : Nat} {us : List Value} (h : RowAt g w b o us) : RowAt g' w' b o us := by
  refine ⟨Nat.le_trans h.1 (e.L b), fun i u hu => ?_⟩
  have hi : i < us.length := by
    rcases Nat.lt_or_ge i us.length with h | h
    · exact h
    · simp [List.getElem?_eq_none h] at hu
  rw [e.cells b (o + i) (by have := h.1; omega)]
  exact h.2 i u hu

theorem RowA.ext0 {g g' : Gh} {s s' : List Bool} {w w' : World} (e : Ext0 g s w g' s' w') {ad : Addr} {us : List Value} (h : RowA g w ad us) : RowA g' w' ad us :=
  fun hne => ⟨(h hne).1, (h hne).2.ext0 e⟩

theorem RowA.cell {g : Gh} {w : World} {ad : Addr} {us : List Value} (h : RowA g w ad us) (i : Nat) (u : Value) (hu : us[i]? = some u) : w.cell? (ad.add i) = some u := by
  obtain ⟨hs, hr⟩ := h (fun e => by subst e; simp at hu)
  obtain ⟨b, o, sp⟩ := ad
  simp only at hs hr
  subst hs
  have := hr.2 i u hu
  unfold Addr.add
  split
  · rename_i h0; subst h0; exact this
  · exact this

theorem PermOk.ext0 {g g' : Gh} {s s' : List Bool} {w w' : World} (e : Ext0 g s w g' s' w') {ad : Addr} {cap esz len : Nat} {p : Perm} (h : PermOk g s w ad cap esz len p) : PermOk g' s' w' ad cap esz len p := by
  cases p with
  | ro => trivial
  | exact => exact h
  | tok t ty =>
    refine ⟨Nat.lt_of_lt_of_le h.1 e.nt, fun hl => ?_⟩
    obtain ⟨l0, t0, e0⟩ := e.tok t h.1 hl
    obtain ⟨h1, h3, c, h4, h5⟩ := h.2 l0
    obtain ⟨c', fr', h6, h7, h8⟩ := e.shape _ c ty (0, 0) h4
    rw [t0]
    rcases h8 with rfl | h8
    · exact ⟨h1, by rw [e0]; exact h3, c', h6, h7.trans h5⟩
    · exact absurd rfl (h8 t h.1 hl)

mutual
theorem VR.ext0 {g g' : Gh} {s s' : List Bool} {w w' : World} (e : Ext0 g s w g' s' w') : ∀ (v : V) {x : Value}, VR g s w v x → VR g' s' w' v x
  | .bool b, x, h => by simp only [VR] at h ⊢; exact h
  | .int k n, x, h => by simp only [VR] at h ⊢; exact h
  | .str _, x, h => by simp only [VR] at h ⊢; exact h
  | .nilp, x, h => by simp only [VR] at h ⊢; exact h
  | .optr r off, x, h => by
    simp only [VR] at h ⊢
    exact ⟨e.has r h.1, by rw [e.ρ r h.1, e.ob r h.1]; exact h.2⟩
  | .eptr cs off, x, h => by
    simp only [VR] at h ⊢
    obtain ⟨b, o, us, hx, hr, hc⟩ := h
    exact ⟨b, o, us, hx, hr.ext0 e, VRs.ext0 e cs hc⟩
  | .nils, x, h => by simp only [VR] at h ⊢; exact h
  | .slice p esz cs len, x, h => by
    simp only [VR] at h ⊢
    obtain ⟨ad, cap, us, hx, hl, hc, hm, hr, hs, hp⟩ := h
    exact ⟨ad, cap, us, hx, hl, hc, hm, hr.ext0 e, VRs.ext0 e cs hs, hp.ext0 e⟩
  | .hslice r off esz len, x, h => by
    simp only [VR] at h ⊢
    obtain ⟨hr, cap, hx, hc, hm, hb⟩ := h
    exact ⟨e.has r hr, cap, by rw [e.ρ r hr, e.ob r hr]; exact hx, hc, hm, by rw [e.ρ r hr, e.ob r hr]; exact Nat.le_trans hb (Ext.bsize (g := g) (g' := g') (s := s) (s' := s') e.shape _)⟩
  | .func f caps, x, h => by
    simp only [VR] at h ⊢
    obtain ⟨us, hx, hc⟩ := h
    exact ⟨us, hx, VRs.ext0 e caps hc⟩
  | .nilf, x, h => by simp only [VR] at h ⊢; exact h
  | .iface t v, x, h => by
    simp only [VR] at h ⊢
    obtain ⟨u, hx, hc⟩ := h
    exact ⟨u, hx, VR.ext0 e v hc⟩
  | .nili, x, h => by simp only [VR] at h ⊢; exact h
  | .agg cs, x, h => by
    simp only [VR] at h ⊢
    obtain ⟨us, hx, hc⟩ := h
    exact ⟨us, hx, VRs.ext0 e cs hc⟩
  | .tuple cs, x, h => by
    simp only [VR] at h ⊢
    obtain ⟨us, hx, hc⟩ := h
    exact ⟨us, hx, VRs.ext0 e cs hc⟩
  | .nilm, x, h => by simp only [VR] at h ⊢; exact h
  | .omap r, x, h => by
    simp only [VR] at h ⊢
    exact ⟨e.has r h.1, by rw [e.ρ r h.1]; exact h.2⟩
  | .yld r, x, h => by
    simp only [VR] at h ⊢
    exact ⟨e.has r h.1, by rw [e.ρ r h.1]; exact h.2⟩
theorem VRs.ext0 {g g' : Gh} {s s' : List Bool} {w w' : World} (e : Ext0 g s w g' s' w') : ∀ (vs : List V) {us : List Value}, VRs g s w vs us → VRs g' s' w' vs us
  | [], us, h => by simp only [VRs] at h ⊢; exact h
  | v :: vs, us, h => by
    simp only [VRs] at h ⊢
    obtain ⟨u, us', hu, hv, hvs⟩ := h
    exact ⟨u, us', hu, VR.ext0 e v hv, VRs.ext0 e vs hvs⟩
end

theorem RowAt.ext {g g' : Gh} {s s' : List Bool} {w w' : World} (e : Ext g s w g' s' w') {b o : Nat} {us : List Value} (h : RowAt g w b o us) : RowAt g' w' b o us := h.ext0 e.toExt0
theorem RowA.ext {g g' : Gh} {s s' : List Bool} {w w' : World} (e : Ext g s w g' s' w') {ad : Addr} {us : List Value} (h : RowA g w ad us) : RowA g' w' ad us := h.ext0 e.toExt0
theorem PermOk.ext {g g' : Gh} {s s' : List Bool} {w w' : World} (e : Ext g s w g' s' w') {ad : Addr} {cap esz len : Nat} {p : Perm} (h : PermOk g s w ad cap esz len p) : PermOk g' s' w' ad cap esz len p := h.ext0 e.toExt0
theorem VR.ext {g g' : Gh} {s s' : List Bool} {w w' : World} (e : Ext g s w g' s' w') (v : V) {x : Value} (h : VR g s w v x) : VR g' s' w' v x := VR.ext0 e.toExt0 v h
theorem VRs.ext {g g' : Gh} {s s' : List Bool} {w w' : World} (e : Ext g s w g' s' w') (vs : List V) {us : List Value} (h : VRs g s w vs us) : VRs g' s' w' vs us := VRs.ext0 e.toExt0 vs h

section
variable {g : Gh} {s : List Bool} {w : World}
theorem VRs.length : ∀ {vs : List V} {us : List Value}, VRs g s w vs us → vs.length = us.length
  | [], us, h => by simp only [VRs] at h; subst h; rfl
  | v :: vs, us, h => by
    simp only [VRs] at h
    obtain ⟨u, us', rfl, _, h⟩ := h
    simp [VRs.length h]

theorem VRs.get : ∀ {vs : List V} {us : List Value} (i : Nat) {v : V}, VRs g s w vs us → vs[i]? = some v → ∃ u, us[i]? = some u ∧ VR g s w v u
  | [], us, i, v, h, hv => by simp at hv
  | x :: vs, us, 0, v, h, hv => by
    simp only [VRs] at h
    obtain ⟨u, us', rfl, h0, _⟩ := h
    simp at hv
    subst hv
    exact ⟨u, by simp, h0⟩
  | x :: vs, us, i + 1, v, h, hv => by
    simp only [VRs] at h
    obtain ⟨u, us', rfl, _, h⟩ := h
    simp at hv
    obtain ⟨u', hu, hr⟩ := VRs.get i h hv
    exact ⟨u', by simpa using hu, hr⟩

theorem VRs.of_get : ∀ {vs : List V} {us : List Value}, vs.length = us.length → (∀ (i : Nat) (v : V) (u : Value), vs[i]? = some v → us[i]? = some u → VR g s w v u) → VRs g s w vs us
  | [], us, hl, _ => by
    simp only [VRs]
    exact List.eq_nil_of_length_eq_zero hl.symm
  | x :: vs, [], hl, _ => by simp at hl
  | x :: vs, u :: us, hl, h => by
    simp only [VRs]
    exact ⟨u, us, rfl, h 0 x u rfl rfl, VRs.of_get (by simpa using hl) fun i v u hv hu => h (i + 1) v u (by simpa using hv) (by simpa using hu)⟩

theorem VRs.append {vs vs' : List V} {us us' : List Value} (h : VRs g s w vs us) (h' : VRs g s w vs' us') : VRs g s w (vs ++ vs') (us ++ us') := by
  induction vs generalizing us with
  | nil => simp only [VRs] at h; subst h; exact h'
  | cons v vs ih =>
    simp only [VRs] at h
    obtain ⟨u, us1, rfl, h0, h1⟩ := h
    simp only [List.cons_append, VRs]
    exact ⟨u, us1 ++ us', rfl, h0, ih h1⟩

theorem VRs.take {vs : List V} {us : List Value} (h : VRs g s w vs us) : ∀ n, VRs g s w (vs.take n) (us.take n) := by
  induction vs generalizing us with
  | nil => intro n; simp only [VRs] at h; subst h; simp [VRs]
  | cons v vs ih =>
    intro n
    simp only [VRs] at h
    obtain ⟨u, us1, rfl, h0, h1⟩ := h
    cases n with
    | zero => simp [VRs]
    | succ n => simp only [List.take_succ_cons, VRs]; exact ⟨u, us1.take n, rfl, h0, ih h1 n⟩

theorem VRs.drop {vs : List V} {us : List Value} (h : VRs g s w vs us) : ∀ n, VRs g s w (vs.drop n) (us.drop n) := by
  induction vs generalizing us with
  | nil => intro n; simp only [VRs] at h; subst h; simp [VRs]
  | cons v vs ih =>
    intro n
    simp only [VRs] at h
    obtain ⟨u, us1, rfl, h0, h1⟩ := h
    cases n with
    | zero => simp only [List.drop_zero, VRs]; exact ⟨u, us1, rfl, h0, h1⟩
    | succ n => simpa using ih h1 n

theorem VRs.set {vs : List V} {us : List Value} (h : VRs g s w vs us) : ∀ (i : Nat) {v : V} {u : Value}, VR g s w v u → VRs g s w (vs.set i v) (us.set i u) := by
  induction vs generalizing us with
  | nil => intro i v u _; simp only [VRs] at h; subst h; simp [VRs]
  | cons x vs ih =>
    intro i v u hu
    simp only [VRs] at h
    obtain ⟨u0, us1, rfl, h0, h1⟩ := h
    cases i with
    | zero => simp only [List.set_cons_zero, VRs]; exact ⟨u, us1, rfl, hu, h1⟩
    | succ i => simp only [List.set_cons_succ, VRs]; exact ⟨u0, us1.set i u, rfl, h0, ih h1 i hu⟩

theorem VRs.replicate {v : V} {u : Value} (h : VR g s w v u) : ∀ n, VRs g s w (List.replicate n v) (List.replicate n u)
  | 0 => by simp [VRs]
  | n + 1 => by
    simp only [List.replicate_succ, VRs]
    exact ⟨u, _, rfl, h, VRs.replicate h n⟩

theorem VRs.get' {vs : List V} {us : List Value} (h : VRs g s w vs us) (i : Nat) {u : Value} (hu : us[i]? = some u) : ∃ v, vs[i]? = some v ∧ VR g s w v u := by
  have hl := h.length
  have hi : i < us.length := by
    rcases Nat.lt_or_ge i us.length with h | h
    · exact h
    · simp [List.getElem?_eq_none h] at hu
  have hv : vs[i]? = some (vs[i]'(by omega)) := List.getElem?_eq_getElem (by omega)
  obtain ⟨u', hu', hr⟩ := h.get i hv
  rw [hu] at hu'
  injection hu' with e
  subst e
  exact ⟨_, hv, hr⟩
end

end Go.Proofs.Ytmcadfejkcpblaa.Q
