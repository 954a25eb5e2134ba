/- A part of the proof: Qx, Qq, Qr, Qs, Qt, Qu, Xc, Xo, Xd, Sh. -/
import Derived.Test.YtnegdinonfjdfaaDoorMg4
import Derived.Maps.RangeRun
import Derived.Test.YtnegdinonfjdfaaDoorProg
import Derived.Lib.ItoaNum
import Derived.Lib.Atoi
import Derived.Shelf.Strconv.Atoi
import Derived.Shelf.LaysM
import Derived.Shelf.Strconv.Itoa3
import Derived.Shelf.LaysC
import Derived.Shelf.Strconv.AtoiErr
set_option linter.unusedVariables false
set_option linter.unusedSimpArgs false
namespace Go.Proofs.YtnegdinonfjdfaaDoor.Q
open Go Go.RowKit
open Go.ChangeMaps (setBlock)
section
variable {P : Program} {pr : Prim} {base : Nat} {w0 : World} {N : Nat}
def PostN (base : Nat) (w0 : World) (N : Nat) (Q : VX → (Nat → V) → St → Prop) (g : Gh) (σ : St) (w : World) (a : Act) (e : Exit) (a' : Act) (w' : World) : Prop :=
  ∃ x e1 σ' g', Q x e1 σ' ∧ (∀ v, x ≠ .pan v) ∧ Ext g σ.toks w g' σ'.toks w' ∧ Rel base w0 g' σ' w' ∧ XOk g' σ'.toks w' x e ∧ VRs g' σ'.toks w' (env N e1) a'.tmps.toList ∧ a'.defers = a.defers
def Nd (P : Program) (base : Nat) (w0 : World) (N : Nat) (c : Code) (e : Nat → V) (σ : St) (Q : VX → (Nat → V) → St → Prop) : Prop :=
  ∀ g w a, Rel base w0 g σ w → VRs g σ.toks w (env N e) a.tmps.toList → c.wp P (PostN base w0 N Q g σ w a) a w
def NdO (P : Program) (base : Nat) (w0 : World) (N : Nat) (ops : Array Oper) (l : List Oper) (e : Nat → V) (σ : St) (Q : VX → (Nat → V) → St → Prop) : Prop :=
  ∀ g w a, Rel base w0 g σ w → VRs g σ.toks w (env N e) a.tmps.toList → ∀ K : Exit → Act → World → Prop, (∀ e1 a' w', PostN base w0 N Q g σ w a e1 a' w' → K e1 a' w') → wpListIn (Fr none) 0 P ops K l a w
theorem PostN.trans {Q : VX → (Nat → V) → St → Prop} {g g1 : Gh} {σ σ1 : St} {w w1 : World} {a a1 : Act} {e : Exit} {a' : Act} {w' : World} (hE : Ext g σ.toks w g1 σ1.toks w1) (hd : a1.defers = a.defers)
    (h : PostN base w0 N Q g1 σ1 w1 a1 e a' w') : PostN base w0 N Q g σ w a e a' w' := by
  obtain ⟨x, e1, σ', g', h1, h2, h3, h4, h5, h6, h7⟩ := h
  exact ⟨x, e1, σ', g', h1, h2, hE.trans h3, h4, h5, h6, h7.trans hd⟩
theorem PostN.mono {Q Q' : VX → (Nat → V) → St → Prop} {g : Gh} {σ : St} {w : World} {a : Act} {e : Exit} {a' : Act} {w' : World} (hq : ∀ x e σ, Q x e σ → Q' x e σ) (h : PostN base w0 N Q g σ w a e a' w') : PostN base w0 N Q' g σ w a e a' w' := by
  obtain ⟨x, e1, σ', g', h1, h2⟩ := h
  exact ⟨x, e1, σ', g', hq _ _ _ h1, h2⟩
theorem Nd.mono {c : Code} {e : Nat → V} {σ : St} {Q Q' : VX → (Nat → V) → St → Prop} (h : Nd P base w0 N c e σ Q) (hq : ∀ x e σ, Q x e σ → Q' x e σ) : Nd P base w0 N c e σ Q' :=
  fun g w a hR hT => wp_mono (h g w a hR hT) fun e1 a' w' hp => hp.mono hq
theorem Nd.re {c : Code} {e : Nat → V} {σ σ1 : St} {Q : VX → (Nat → V) → St → Prop} (hr : ∀ g w tm, Rel base w0 g σ w → VRs g σ.toks w (env N e) tm → ∃ g1, Ext g σ.toks w g1 σ1.toks w ∧ Rel base w0 g1 σ1 w)
    (h : Nd P base w0 N c e σ1 Q) : Nd P base w0 N c e σ Q := fun g w a hR hT => by
  obtain ⟨g1, hE, hR1⟩ := hr g w _ hR hT
  exact wp_mono (h g1 w a hR1 (VRs.ext hE _ hT)) fun e1 a' w' hp => hp.trans hE rfl
theorem Nd.seq {c d : Code} {e : Nat → V} {σ : St} {Q : VX → (Nat → V) → St → Prop} (h : Nd P base w0 N c e σ fun x e1 σ1 => (x = .normal ∧ Nd P base w0 N d e1 σ1 Q) ∨ (x ≠ .normal ∧ Q x e1 σ1)) : Nd P base w0 N (.seq c d) e σ Q := fun g w a hR hT => by
  refine wp_seq (wp_mono (h g w a hR hT) fun e1 a' w' hp => ?_)
  obtain ⟨x, e2, σ', g', h1, h2, h3, h4, h5, h6, h7⟩ := hp
  rcases h1 with ⟨rfl, h1⟩ | ⟨hx, h1⟩
  · simp only [XOk] at h5
    subst h5
    exact wp_mono (h1 g' w' a' h4 h6) fun e3 a3 w3 hp => hp.trans h3 h7
  · have hpost : PostN base w0 N Q g σ w a e1 a' w' := ⟨x, e2, σ', g', h1, h2, h3, h4, h5, h6, h7⟩
    cases x with
    | normal => exact absurd rfl hx
    | exit id => simp only [XOk] at h5; subst h5; exact hpost
    | ret => simp only [XOk] at h5; subst h5; exact hpost
    | pan v => exact absurd rfl (h2 v)
theorem Nd.skip {e : Nat → V} {σ : St} {Q : VX → (Nat → V) → St → Prop} (h : Q .normal e σ) : Nd P base w0 N .skip e σ Q := fun g w a hR hT =>
  wp_skip ⟨.normal, e, σ, g, h, fun _ h => (by cases h), Ext.refl _ _ _, hR, rfl, hT, rfl⟩
theorem Nd.exit {id : Nat} {e : Nat → V} {σ : St} {Q : VX → (Nat → V) → St → Prop} (h : Q (.exit id) e σ) : Nd P base w0 N (.exit id) e σ Q := fun g w a hR hT =>
  wp_exit ⟨.exit id, e, σ, g, h, fun _ h => (by cases h), Ext.refl _ _ _, hR, rfl, hT, rfl⟩
theorem Nd.ret {e : Nat → V} {σ : St} {Q : VX → (Nat → V) → St → Prop} (h : Q .ret e σ) : Nd P base w0 N .ret e σ Q := fun g w a hR hT =>
  wp_ret ⟨.ret, e, σ, g, h, fun _ h => (by cases h), Ext.refl _ _ _, hR, rfl, hT, rfl⟩
theorem Nd.cond {c : Operand} {x y : Code} {e : Nat → V} {σ : St} {t : Bool} {Q : VX → (Nat → V) → St → Prop} (hc : evs (env N e) c = some (.bool t)) (h : Nd P base w0 N (if t then x else y) e σ Q) : Nd P base w0 N (.cond c x y) e σ Q := fun g w a hR hT => by
  have hv := evs_ok hT hc
  simp only [VR] at hv
  exact wp_cond hv (h g w a hR hT)
theorem Nd.block {id : Nat} {c : Code} {e : Nat → V} {σ : St} {Q : VX → (Nat → V) → St → Prop} (h : Nd P base w0 N c e σ fun x e1 σ1 => (x = .exit id ∧ Q .normal e1 σ1) ∨ (x ≠ .exit id ∧ Q x e1 σ1)) : Nd P base w0 N (.block id c) e σ Q := fun g w a hR hT => by
  refine wp_block (wp_mono (h g w a hR hT) fun e1 a' w' hp => ?_)
  obtain ⟨x, e2, σ', g', h1, h2, h3, h4, h5, h6, h7⟩ := hp
  rcases h1 with ⟨rfl, h1⟩ | ⟨hx, h1⟩
  · simp only [XOk] at h5
    subst h5
    simp only [Exit.inBlock, if_true]
    exact ⟨.normal, e2, σ', g', h1, fun _ h => (by cases h), h3, h4, rfl, h6, h7⟩
  · have hpost : PostN base w0 N Q g σ w a e1 a' w' := ⟨x, e2, σ', g', h1, h2, h3, h4, h5, h6, h7⟩
    cases x with
    | normal => simp only [XOk] at h5; subst h5; exact hpost
    | exit id' =>
      simp only [XOk] at h5; subst h5
      simp only [Exit.inBlock]
      rw [if_neg (fun h => hx (by rw [h]))]
      exact hpost
    | ret => simp only [XOk] at h5; subst h5; exact hpost
    | pan v => exact absurd rfl (h2 v)
theorem Nd.loop {ι : Type} {c : Code} {Q : VX → (Nat → V) → St → Prop} (I : ι → (Nat → V) → St → Prop) (m : ι → Nat)
    (h : ∀ i e σ, I i e σ → Nd P base w0 N c e σ fun x e1 σ1 => (x = .normal ∧ ∃ j, I j e1 σ1 ∧ m j < m i) ∨ (x ≠ .normal ∧ Q x e1 σ1)) (i : ι) {e : Nat → V} {σ : St} (hi : I i e σ) : Nd P base w0 N (.loop c) e σ Q := by
  have key : ∀ k i e σ, m i = k → I i e σ → ∀ g w a, Rel base w0 g σ w → VRs g σ.toks w (env N e) a.tmps.toList → LoopWp none P c (PostN base w0 N Q g σ w a) a w := by
    intro k
    induction k using Nat.strongRecOn with
    | _ k ih =>
      intro i e σ hk hi g w a hR hT
      refine LoopWp.round (wpIn_mono (wpIn_fr.2 (h i e σ hi g w a hR hT)) fun e1 a' w' hp => ?_)
      obtain ⟨x, e2, σ', g', h1, h2, h3, h4, h5, h6, h7⟩ := hp
      rcases h1 with ⟨rfl, j, hj, hlt⟩ | ⟨hx, h1⟩
      · simp only [XOk] at h5
        subst h5
        intro b k2 cs hro
        obtain ⟨e3, a3, w3, q3, r3⟩ := ih (m j) (by omega) j e2 σ' rfl hj g' w' a' h4 h6 b k2 cs hro
        exact ⟨e3, a3, w3, q3.trans h3 h7, r3⟩
      · have hpost : PostN base w0 N Q g σ w a e1 a' w' := ⟨x, e2, σ', g', h1, h2, h3, h4, h5, h6, h7⟩
        cases x with
        | normal => exact absurd rfl hx
        | exit id => simp only [XOk] at h5; subst h5; exact hpost
        | ret => simp only [XOk] at h5; subst h5; exact hpost
        | pan v => exact absurd rfl (h2 v)
  intro g w a hR hT
  exact wpIn_fr.1 (key _ i e σ rfl hi g w a hR hT).wp
theorem Nd.ev (hp : PrimOk P pr base w0) {c : Code} {k : CC} (hc : cc P pr.hot N c = some k) (hcalm : calm c = true) (hrf : hasRF c = false) {e : Nat → V} {σ : St} {Q : VX → (Nat → V) → St → Prop} (h : Ev P pr N k e σ fun x e1 σ1 => (∀ v, x ≠ .pan v) ∧ Q x e1 σ1) : Nd P base w0 N c e σ Q := fun g w a hR hT => by
  obtain ⟨x, e1, σ1, hb, hx, hq⟩ := h
  obtain ⟨n, ts, hv, _, hts⟩ := hb.vexec hc
  have hts := hts hcalm
  subst hts
  have := ((sound hp n).2.1 c _ σ x _ σ1 hv g w a hR hT none (.inl rfl)).1
  refine wp_mono (wpIn_fr.1 this) fun e2 a' w' hpost => ?_
  rw [hrf] at hpost
  obtain ⟨g', h1, h2, h3, h4, h5⟩ := hpost
  refine ⟨x, e1, σ1, g', hq, hx, h1, h2, h3, h4.resolve_left (fun ⟨v, h, _⟩ => hx v h), ?_⟩
  exact h5
theorem Nd.region {id : Nat} {ops : Array Oper} {e : Nat → V} {σ : St} {Q : VX → (Nat → V) → St → Prop} (h : NdO P base w0 N ops ops.toList e σ Q) : Nd P base w0 N (.region id ops false) e σ Q := fun g w a hR hT =>
  wpIn_fr.1 (wpIn_region_list (h g w a hR hT _ fun _ _ _ hp => hp))
theorem NdO.nil {ops : Array Oper} {e : Nat → V} {σ : St} {Q : VX → (Nat → V) → St → Prop} (h : Q .normal e σ) : NdO P base w0 N ops [] e σ Q := fun g w a hR hT K hK =>
  wpListIn_nil (hK _ _ _ ⟨.normal, e, σ, g, h, fun _ h => (by cases h), Ext.refl _ _ _, hR, rfl, hT, rfl⟩)
theorem NdO.app {ops : Array Oper} {l l2 : List Oper} {e : Nat → V} {σ : St} {Q : VX → (Nat → V) → St → Prop} (h : NdO P base w0 N ops l e σ fun x e1 σ1 => x = .normal ∧ NdO P base w0 N ops l2 e1 σ1 Q) : NdO P base w0 N ops (l ++ l2) e σ Q := fun g w a hR hT K hK => by
  refine wpList_append _ _ (h g w a hR hT _ fun e1 a' w' hp => ?_)
  obtain ⟨x, e2, σ', g', ⟨rfl, h1⟩, h2, h3, h4, h5, h6, h7⟩ := hp
  simp only [XOk] at h5
  subst h5
  exact h1 g' w' a' h4 h6 K fun e3 a3 w3 hp => hK _ _ _ (hp.trans h3 h7)
theorem NdO.eo (hp : PrimOk P pr base w0) {ops : Array Oper} {l : List Oper} {cl : List COp} (hc : cops pr.hot N ops false l 0 = some cl) (hcold : l.any pr.hot = false) {e : Nat → V} {σ : St} {Q : VX → (Nat → V) → St → Prop}
    (h : Eo P pr N cl e σ fun x e1 σ1 => (∀ v, x ≠ .pan v) ∧ Q x e1 σ1) : NdO P base w0 N ops l e σ Q := fun g w a hR hT K hK => by
  obtain ⟨x, e1, σ1, ⟨hx, hq⟩, hE⟩ := Eo.split h
  obtain ⟨n, ts, hv, hts⟩ := Eo.vops hc (fun _ o ho => by
    cases h8 : pr.hot o with
    | false => rfl
    | true => rw [List.any_eq_true.2 ⟨o, ho, h8⟩] at hcold; cases hcold) hE
  refine (sound hp n).1 ops l _ σ x ts σ1 hv g w a hR hT K (fun e2 a' w' hpost => hK _ _ _ ?_) none
  obtain ⟨g', h1, h2, h3, h4, h5⟩ := hpost
  have hT1 := h4.resolve_left (fun ⟨v, h, _⟩ => hx v h)
  rcases hts with ⟨_, rfl⟩ | ⟨v, h, _⟩
  · exact ⟨x, e1, σ1, g', hq, hx, h1, h2, h3, hT1, h5⟩
  · exact absurd h (hx v)
theorem NdO.op {ops : Array Oper} {o : Oper} {l : List Oper} (hg : o.guard = none) (hd : ∀ c, o.op ≠ .defer c) {e : Nat → V} {σ : St} {Q : VX → (Nat → V) → St → Prop} (R : V → St → Prop)
    (hop : ∀ (g : Gh) (w : World) (a : Act), Rel base w0 g σ w → VRs g σ.toks w (env N e) a.tmps.toList → ∃ u w' g' v σ1, (execOp a.eval o).run P w = .ok (.value u) w' ∧ R v σ1 ∧ Ext g σ.toks w g' σ1.toks w' ∧ Rel base w0 g' σ1 w' ∧ VR g' σ1.toks w' v u)
    (h : ∀ v σ1, R v σ1 → NdO P base w0 N ops l (upd e o.dst v) σ1 Q) : NdO P base w0 N ops (o :: l) e σ Q := fun g w a hR hT K hK => by
  obtain ⟨u, w', g', v, σ1, hrun, hRv, hE, hR1, hV⟩ := hop g w a hR hT
  show wpOper none P ops K o (wpListIn (Fr none) 0 P ops K l) a w
  refine wpOper_run (by simp [Region.wanted, hg]) hd hrun ?_
  refine h v σ1 hRv g' w' (a.put o.dst u) hR1 ?_ K fun e1 a' w2 hp => hK _ _ _ (hp.trans hE (put_defers' a o.dst u))
  have := vput_ok (VRs.ext hE _ hT) hV o.dst
  rw [vput_env] at this
  exact this
theorem Rel.reOb {g : Gh} {σ : St} {w : World} (h : Rel base w0 g σ w) {r : Nat} {o o' : Ob} (hr : σ.objs[r]? = some o) (hd : ∀ h : o.gone, False) (hnu : ¬ o' = .unb) (hok : ObjOk base g σ.toks w r o') : Rel base w0 g ⟨σ.objs.set r o', σ.toks⟩ w := by
  have hrl := (gA0.1 hr).1
  have al : ∀ k, aliveAt (σ.objs.set r o') k → aliveAt σ.objs k := by
    intro k ⟨q, hq, hqd⟩
    rw [List.getElem?_set] at hq
    by_cases e : r = k
    · subst e; exact ⟨o, hr, hd⟩
    · rw [if_neg e] at hq; exact ⟨q, hq, hqd⟩
  exact {
    below := h.below
    bs := h.bs
    n := by simpa using h.n
    hid := fun k => by
      by_cases e : r = k
      · subst e
        rw [gA5 hrl, h.hid, hr]
        constructor
        · intro h; injection h with h; subst h; exact (hd trivial).elim
        · intro h; injection h with h; exact (hnu h).elim
      · rw [gA3 e]; exact h.hid k
    obj := fun k q hk => by
      rw [List.getElem?_set] at hk
      by_cases e : r = k
      · subst e
        rw [if_pos rfl, if_pos hrl] at hk
        injection hk with hk; subst hk; exact hok
      · rw [if_neg e] at hk; exact h.obj k q hk
    inj := fun a b ha hb => h.inj a b (al a ha) (al b hb)
    tok := fun t ht => by obtain ⟨h1, h2, h3⟩ := h.tok t ht; exact ⟨h1, h2, fun a ha => h3 a (al a ha)⟩
    tinj := h.tinj
    lim := h.lim }
theorem Rel.blockSet {g : Gh} {σ : St} {w : World} (h : Rel base w0 g σ w) {r : Nat} {o : Ob} (hr : σ.objs[r]? = some o) (hd : ∀ h : o.gone, False) {x0 : Obj} (hb : base ≤ g.ρ r) (hL : g.L (g.ρ r) = 0) (hh : w.heap[g.ρ r]? = some x0) (hx1 : ∀ c t f, x0 ≠ .cells c t f) (hx2 : ∀ y, x0 ≠ .deferred y) (x : Obj) (o' : Ob) (hnu : ¬ o' = .unb)
    (hok : Ext g σ.toks w g σ.toks (setBlock w (g.ρ r) x) → (setBlock w (g.ρ r) x).heap[g.ρ r]? = some x → ObjOk base g σ.toks (setBlock w (g.ρ r) x) r o') :
    Ext g σ.toks w g σ.toks (setBlock w (g.ρ r) x) ∧ Rel base w0 g ⟨σ.objs.set r o', σ.toks⟩ (setBlock w (g.ρ r) x) := by
  have hlt := (Array.getElem?_eq_some_iff.1 hh).1
  have hrl := (gA0.1 hr).1
  have halr : aliveAt σ.objs r := ⟨_, hr, hd⟩
  have other : ∀ k, k ≠ g.ρ r → (setBlock w (g.ρ r) x).heap[k]? = w.heap[k]? := fun k hk => by
    simp only [setBlock, Array.getElem?_setIfInBounds]
    rw [if_neg (fun e => hk e.symm)]
  have same : (setBlock w (g.ρ r) x).heap[g.ρ r]? = some x := by
    simp [setBlock, Array.getElem?_setIfInBounds, hlt]
  have E : Ext g σ.toks w g σ.toks (setBlock w (g.ρ r) x) := {
    n := Nat.le_refl _
    has := fun _ h => h
    ρ := fun _ _ => rfl
    ob := fun _ _ => rfl
    L := fun _ => Nat.le_refl _
    cells := fun b q hlo => by
      by_cases eb : b = g.ρ r
      · subst eb; rw [hL] at hlo; omega
      · exact cell?_heap (other b eb) q
    shape := fun b c ty fr hbb => by
      by_cases eb : b = g.ρ r
      · subst eb; rw [hh] at hbb; injection hbb with hbb; exact absurd hbb (hx1 _ _ _)
      · exact ⟨c, fr, (other b eb).trans hbb, rfl, .inl rfl⟩
    nt := Nat.le_refl _
    tok := fun s _ hl => ⟨hl, rfl, rfl⟩
    dfr := fun b y hbb => by
      by_cases eb : b = g.ρ r
      · subst eb; rw [hh] at hbb; injection hbb with hbb; exact absurd hbb (hx2 _)
      · exact (other b eb).trans hbb }
  have al : ∀ k, aliveAt (σ.objs.set r o') k → aliveAt σ.objs k := by
    intro k ⟨q, hq, hqd⟩
    rw [List.getElem?_set] at hq
    by_cases e : r = k
    · subst e; exact halr
    · rw [if_neg e] at hq; exact ⟨q, hq, hqd⟩
  refine ⟨E, {
    below := h.below.trans ⟨rfl, rfl, rfl, by simp [setBlock], fun i hi => other i (by omega)⟩
    bs := by simpa [setBlock] using h.bs
    n := by simpa using h.n
    hid := fun k => by
      by_cases e : r = k
      · subst e
        rw [gA5 hrl, h.hid, hr]
        constructor
        · intro h; injection h with h; subst h; exact (hd trivial).elim
        · intro h; injection h with h; exact (hnu h).elim
      · rw [gA3 e]; exact h.hid k
    obj := fun k q hk => by
      rw [List.getElem?_set] at hk
      by_cases e : r = k
      · subst e
        rw [if_pos rfl, if_pos hrl] at hk
        injection hk with hk; subst hk; exact hok E same
      · rw [if_neg e] at hk
        by_cases hdd : q.gone
        · exact ObjOk.gone hdd
        · have hne : g.ρ k ≠ g.ρ r := fun ee => e (h.inj k r ⟨q, hk, hdd⟩ halr ee).symm
          exact (h.obj k q hk).ext E (h.hasO hk) (other _ hne) rfl
    inj := fun a b ha hb' => h.inj a b (al a ha) (al b hb')
    tok := fun t ht => by
      obtain ⟨h1, h2, h3⟩ := h.tok t ht
      exact ⟨h1, by simpa [setBlock] using h2, fun a ha => h3 a (al a ha)⟩
    tinj := h.tinj
    lim := fun b hb' => h.lim b (by simpa [setBlock] using hb') }⟩
structure It (σ : St) (ri rm : Nat) (es : List (V × V)) (vis : List Nat) (b since : Nat) (a : Array MapEntry) (clock last : Nat) (seen : Array Nat) : Prop where
  it : σ.objs[ri]? = some (.it b since seen last)
  mp : σ.objs[rm]? = some (.mpR b es a clock)
  sz : a.size = es.length
  old : ∀ x ∈ a.toList, x.born < since
  sl : since ≤ last
  sc : since ≤ clock
  nd : (a.toList.map (·.born)).Nodup
  hvis : seen.toList = vis.map fun i => (a.getD i default).born
  vnd : vis.Nodup
  vlt : ∀ i ∈ vis, i < es.length
theorem NdO.range {ops : Array Oper} {o : Oper} {l : List Oper} {t : TypeId} {x : Operand} (ho : o.op = .range t x) (hg : o.guard = none) {kt et : TypeId} (ht : P.underlying t = some (.map kt et)) {e : Nat → V} {σ : St} {rm : Nat} {es : List (V × V)}
    (hx : evs (env N e) x = some (.omap rm)) (hm : σ.objs[rm]? = some (.mp es)) {Q : VX → (Nat → V) → St → Prop}
    (h : ∀ (b : Nat) (a : Array MapEntry) (clock : Nat), It ⟨σ.objs.set rm (.mpR b es a clock) ++ [.it b clock #[] clock], σ.toks⟩ σ.objs.length rm es [] b clock a clock clock #[] → NdO P base w0 N ops l (upd e o.dst (.optr σ.objs.length 0)) ⟨σ.objs.set rm (.mpR b es a clock) ++ [.it b clock #[] clock], σ.toks⟩ Q) :
    NdO P base w0 N ops (o :: l) e σ Q := by
  refine NdO.op hg (by rw [ho]; intro c h; cases h) (fun v σ1 => v = .optr σ.objs.length 0 ∧ ∃ b a clock, σ1 = ⟨σ.objs.set rm (.mpR b es a clock) ++ [.it b clock #[] clock], σ.toks⟩ ∧ It σ1 σ.objs.length rm es [] b clock a clock clock #[]) ?_ ?_
  · intro g w ac hR hT
    obtain ⟨o1, o2, a, clock, o3, o4, o5, o6, o7⟩ := hR.obj rm _ hm
    have hxv := evs_ok hT hx
    simp only [VR] at hxv
    obtain ⟨hh, hxv⟩ := hxv
    have hrml := (gA0.1 hm).1
    have hrun : (execOp ac.eval o).run P w = .ok (.value (.pointer (some ⟨w.heap.size, 0, none⟩))) (w.alloc (.mapIter (some (g.ρ rm)) clock #[] clock)) := by
      simp [execOp, ho, hxv, run_range_map w t kt et (g.ρ rm) a clock ht o3]
    have hR1 := hR.reOb hm (fun h => h) (o' := .mpR (g.ρ rm) es a clock) (by intro h; cases h) ⟨o1, o2, rfl, o3, o4, o5, o6, o7⟩
    have hn := hR1.n
    have hR2 := hR1.newA (.mapIter (some (g.ρ rm)) clock #[] clock) (.it (g.ρ rm) clock #[] clock) (by
      simp only [ObjOk, Gh.obj]
      rw [if_pos hn.symm, if_pos hn.symm]
      exact ⟨hR1.bs, hR1.lim _ (Nat.le_refl _), rfl, heap_alloc_eq _ _⟩)
    have hE := Ext.obj hR1 (.mapIter (some (g.ρ rm)) clock #[] clock)
    refine ⟨_, _, _, .optr σ.objs.length 0, _, hrun, ⟨rfl, g.ρ rm, a, clock, rfl, ?_⟩, hE, hR2, ?_⟩
    · refine ⟨?_, ?_, ?_, o6, Nat.le_refl _, Nat.le_refl _, o7, rfl, List.nodup_nil, fun i h => by cases h⟩
      · simp only
        rw [gA4 (by simp)]
        simp
      · simp only
        rw [gA2 (by simpa using hrml), gA5 hrml]
      · have := o4.length
        simp at this
        omega
    · simp only [VR, Gh.obj]
      have hn2 : g.n = σ.objs.length := hR.n
      rw [if_pos hn2.symm, if_pos hn2.symm]
      refine ⟨⟨?_, ?_⟩, rfl⟩
      · show σ.objs.length < g.n + 1
        omega
      · show (if σ.objs.length = g.n then false else g.hid σ.objs.length) = false
        rw [if_pos hn2.symm]
  · rintro v σ1 ⟨rfl, b, a, clock, rfl, hI⟩
    exact h b a clock hI
theorem left_none {a : Array MapEntry} {seen : Array Nat} (h : (leftOf a seen).size = 0) {i : Nat} (hi : i < a.size) : seen.contains a[i].born = true := by
  have h1 := Array.eq_empty_of_size_eq_zero h
  cases hc : seen.contains a[i].born with
  | true => rfl
  | false =>
    exfalso
    have : a[i] ∈ leftOf a seen := by
      unfold leftOf
      rw [Array.mem_filter]
      exact ⟨Array.getElem_mem hi, by rw [hc]; rfl⟩
    rw [h1] at this
    simp at this
theorem seen_place {a : Array MapEntry} {es : List (V × V)} {seen : Array Nat} {vis : List Nat} (hs : seen.toList = vis.map fun i => (a.getD i default).born) (hsz : a.size = es.length) (hnd : (a.toList.map (·.born)).Nodup) (hlt : ∀ i ∈ vis, i < es.length) {i : Nat} (hi : i < a.size) : seen.contains a[i].born = true ↔ i ∈ vis := by
  rw [Array.contains_iff_mem, ← Array.mem_toList_iff, hs, List.mem_map]
  constructor
  · rintro ⟨j, hj, he⟩
    have hjl : j < a.size := by rw [hsz]; exact hlt j hj
    rw [Array.getD_eq_getD_getElem?, Array.getElem?_eq_getElem hjl, Option.getD_some] at he
    have h1 : (a.toList.map (·.born))[j]? = (a.toList.map (·.born))[i]? := by
      rw [List.getElem?_map, List.getElem?_map, Array.getElem?_toList, Array.getElem?_toList, Array.getElem?_eq_getElem hjl, Array.getElem?_eq_getElem hi]
      simp [he]
    have h2 := (List.getElem?_inj (by simpa using hjl) hnd).1 h1
    subst h2
    exact hj
  · intro hv
    exact ⟨i, hv, by rw [Array.getD_eq_getD_getElem?, Array.getElem?_eq_getElem hi, Option.getD_some]⟩
theorem NdO.next {ops : Array Oper} {o : Oper} {l : List Oper} {x : Operand} (ho : o.op = .next x false) (hg : o.guard = none) {e : Nat → V} {σ : St} {ri rm : Nat} {es : List (V × V)} {vis : List Nat} {b since : Nat} {a : Array MapEntry} {clock last : Nat} {seen : Array Nat}
    (hx : evs (env N e) x = some (.optr ri 0)) (hI : It σ ri rm es vis b since a clock last seen) (hne : ri ≠ rm) {Q : VX → (Nat → V) → St → Prop}
    (h1 : (∀ i, i < es.length → i ∈ vis) → NdO P base w0 N ops l (upd e o.dst (.tuple [.bool false])) σ Q)
    (h2 : ∀ i, i ∉ vis → ∀ (hi : i < es.length), It ⟨σ.objs.set ri (.it b since (seen.push (a.getD i default).born) clock), σ.toks⟩ ri rm es (vis ++ [i]) b since a clock clock (seen.push (a.getD i default).born) →
      NdO P base w0 N ops l (upd e o.dst (.tuple [.bool true, es[i].1, es[i].2])) ⟨σ.objs.set ri (.it b since (seen.push (a.getD i default).born) clock), σ.toks⟩ Q) :
    NdO P base w0 N ops (o :: l) e σ Q := by
  refine NdO.op hg (by rw [ho]; intro c h; cases h) (fun v σ1 => (v = .tuple [.bool false] ∧ σ1 = σ ∧ ∀ i, i < es.length → i ∈ vis) ∨ ∃ i, i ∉ vis ∧ ∃ hi : i < es.length, v = .tuple [.bool true, es[i].1, es[i].2] ∧ σ1 = ⟨σ.objs.set ri (.it b since (seen.push (a.getD i default).born) clock), σ.toks⟩) ?_ ?_
  · intro g w ac hR hT
    obtain ⟨i1, i2, i3, i4⟩ := hR.obj ri _ hI.it
    obtain ⟨m1, m2, m3, m4, m5, m6, m7, m8⟩ := hR.obj rm _ hI.mp
    have hxv := evs_ok hT hx
    simp only [VR] at hxv
    obtain ⟨hh, hxv⟩ := hxv
    rw [i3] at hxv
    rw [m3] at m4
    have hsz := hI.sz
    have hnx := run_next_at (P := P) w o.type (g.ρ ri) b since last seen a clock i4 m4 hI.old hI.sl
    rcases hnx with ⟨hl0, hrun⟩ | ⟨en, hen, w1, hw1, hrun⟩
    · refine ⟨.tuple #[.bool false], w, g, .tuple [.bool false], σ, ?_, .inl ⟨rfl, rfl, fun i hi => ?_⟩, Ext.refl _ _ _, hR, ?_⟩
      · simp [execOp, ho, hxv, hrun]
      · exact (seen_place hI.hvis hsz hI.nd hI.vlt (by omega)).1 (left_none hl0 (by omega))
      · simp [VR, VRs]
    · obtain ⟨hm1, hm2⟩ := mem_left hen
      obtain ⟨i, hi, rfl⟩ := List.mem_iff_getElem.1 hm1
      have hia : i < a.size := by simpa using hi
      have hie : i < es.length := by omega
      have hget : a.toList[i] = a[i] := by simp
      rw [hget] at hm2 hrun hm1
      have hgd : (a.getD i default).born = a[i].born := by rw [Array.getD_eq_getD_getElem?, Array.getElem?_eq_getElem hia, Option.getD_some]
      have hnv : i ∉ vis := fun hv => by rw [(seen_place hI.hvis hsz hI.nd hI.vlt hia).2 hv] at hm2; cases hm2
      have hR1 : Rel base w0 g σ w1 ∧ Ext g σ.toks w g σ.toks w1 := by
        rcases hw1 with rfl | rfl
        · exact ⟨hR, Ext.refl _ _ _⟩
        · exact ⟨hR.drew, Ext.drew _ _ _⟩
      have i4' : w1.heap[g.ρ ri]? = some (.mapIter (some b) since seen last) := by rcases hw1 with rfl | rfl <;> exact i4
      obtain ⟨hE2, hR2⟩ := hR1.1.blockSet hI.it (fun h => h) i1 i2 i4' (by intro _ _ _ h; cases h) (by intro _ h; cases h) (.mapIter (some b) since (seen.push a[i].born) clock) (.it b since (seen.push a[i].born) clock) (by intro h; cases h) (fun hE hs => ⟨i1, i2, i3, hs⟩)
      have hE := hR1.2.trans hE2
      refine ⟨.tuple #[.bool true, a[i].key, a[i].val], setBlock w1 (g.ρ ri) (.mapIter (some b) since (seen.push a[i].born) clock), g, .tuple [.bool true, es[i].1, es[i].2], _, by simp [execOp, ho, hxv, hrun], .inr ⟨i, hnv, hie, rfl, by rw [hgd]⟩, ?_, ?_, ?_⟩
      · exact hE
      · exact hR2
      · have k1 := VRs.get i (VRs.ext hE _ m5) (show (es.map (·.1))[i]? = some es[i].1 by simp [hie])
        have k2 := VRs.get i (VRs.ext hE _ m6) (show (es.map (·.2))[i]? = some es[i].2 by simp [hie])
        obtain ⟨u1, u1e, u1v⟩ := k1
        obtain ⟨u2, u2e, u2v⟩ := k2
        simp [hia] at u1e u2e
        simp only [VR]
        refine ⟨[.bool true, a[i].key, a[i].val], rfl, ?_⟩
        simp only [VRs]
        exact ⟨_, _, rfl, rfl, _, _, rfl, by rw [u1e]; exact u1v, _, _, rfl, by rw [u2e]; exact u2v, rfl⟩
  · rintro v σ1 (⟨rfl, rfl, hall⟩ | ⟨i, hnv, hi, rfl, rfl⟩)
    · exact h1 hall
    · refine h2 i hnv hi ⟨?_, ?_, hI.sz, hI.old, hI.sc, hI.sc, hI.nd, ?_, ?_, ?_⟩
      · exact gA5 (gA0.1 hI.it).1
      · simp only; rw [gA3 hne]; exact hI.mp
      · simp [hI.hvis]
      · exact List.nodup_append.2 ⟨hI.vnd, by simp, fun x hx y hy => by simp at hy; subst hy; rintro rfl; exact hnv hx⟩
      · intro j hj
        rcases List.mem_append.1 hj with hj | hj
        · exact hI.vlt j hj
        · simp at hj; subst hj; exact hi
theorem NdO.entry {ops : Array Oper} {o : Oper} {l : List Oper} {x : Operand} (ho : o.op = .entry x) (hg : o.guard = none) {e : Nat → V} {σ : St} {ri rm : Nat} {es : List (V × V)} {vis : List Nat} {i : Nat} {b since : Nat} {a : Array MapEntry} {clock : Nat} {seen : Array Nat}
    (hx : evs (env N e) x = some (.optr ri 0)) (hI : It σ ri rm es (vis ++ [i]) b since a clock clock (seen.push (a.getD i default).born)) (hi : i < es.length) {Q : VX → (Nat → V) → St → Prop}
    (h : NdO P base w0 N ops l (upd e o.dst (.tuple [es[i].1, es[i].2])) σ Q) : NdO P base w0 N ops (o :: l) e σ Q := by
  refine NdO.op hg (by rw [ho]; intro c h; cases h) (fun v σ1 => v = .tuple [es[i].1, es[i].2] ∧ σ1 = σ) ?_ ?_
  · intro g w ac hR hT
    obtain ⟨i1, i2, i3, i4⟩ := hR.obj ri _ hI.it
    obtain ⟨m1, m2, m3, m4, m5, m6, m7, m8⟩ := hR.obj rm _ hI.mp
    have hxv := evs_ok hT hx
    simp only [VR] at hxv
    obtain ⟨hh, hxv⟩ := hxv
    rw [i3] at hxv
    rw [m3] at m4
    have hia : i < a.size := by rw [hI.sz]; exact hi
    have hgd : (a.getD i default).born = a[i].born := by rw [Array.getD_eq_getD_getElem?, Array.getElem?_eq_getElem hia, Option.getD_some]
    rw [hgd] at i4
    have hrun := run_entry_at (P := P) w (g.ρ ri) b since seen a clock a[i] i4 m4 (by simp) hI.nd
    refine ⟨.tuple #[a[i].key, a[i].val], w, g, _, σ, by simp [execOp, ho, hxv, hrun], ⟨rfl, rfl⟩, Ext.refl _ _ _, hR, ?_⟩
    have k1 := VRs.get i m5 (show (es.map (·.1))[i]? = some es[i].1 by simp [hi])
    have k2 := VRs.get i m6 (show (es.map (·.2))[i]? = some es[i].2 by simp [hi])
    obtain ⟨u1, u1e, u1v⟩ := k1
    obtain ⟨u2, u2e, u2v⟩ := k2
    simp [hia] at u1e u2e
    simp only [VR]
    refine ⟨[a[i].key, a[i].val], rfl, ?_⟩
    simp only [VRs]
    exact ⟨_, _, rfl, by rw [u1e]; exact u1v, _, _, rfl, by rw [u2e]; exact u2v, rfl⟩
  · rintro v σ1 ⟨rfl, rfl⟩
    exact h
theorem CallOk.nd {f : FuncId} {fn : Func} {c : Code} (hfn : P.funcs[f]? = some fn) (hc : fn.body = some c) {vs : List V} {σ σ' : St} {v : V} (hl : vs.length ≤ fn.ntmps)
    (h : Nd P base w0 fn.ntmps c (fun i => vs.getD i (.tuple [])) σ fun x e σ1 => (x = .normal ∨ x = .ret) ∧ ∃ rs, vresults P σ1 (env fn.ntmps e) fn.results.toList = some rs ∧ vtuple rs = v ∧ σ1 = σ') : CallOk P base w0 f vs σ (.ret v) σ' := by
  intro g w us hR hV
  have hF := frame_ok (us := us.toArray) (by simpa using hV) fn.ntmps
  rw [env_start vs hl] at hF
  refine calls_of_wp hfn hc (wp_mono (h g w { tmps := us.toArray ++ Array.replicate (fn.ntmps - us.toArray.size) undef, defers := [] } hR hF) fun e a1 w1 hp => ?_)
  obtain ⟨x, e1, σ1, g1, ⟨hx, rs, hrs, hv, rfl⟩, _, hE, hR1, hxo, hT1, hd⟩ := hp
  obtain ⟨u, hu, hV2⟩ := results_ok hR1 hT1 hrs
  rw [hv] at hV2
  rcases hx with rfl | rfl
  · simp only [XOk] at hxo
    subst hxo
    exact ⟨hd, u, hu, g1, hE, hR1, u, rfl, hV2⟩
  · simp only [XOk] at hxo
    subst hxo
    exact ⟨hd, u, hu, g1, hE, hR1, u, rfl, hV2⟩
def subC : List Bool → Code → Code
  | [], c => c
  | false :: p, .seq a _ => subC p a
  | true :: p, .seq _ b => subC p b
  | false :: p, .cond _ a _ => subC p a
  | true :: p, .cond _ _ b => subC p b
  | _ :: p, .block _ c => subC p c
  | _ :: p, .loop c => subC p c
  | _, c => c
def regOps : Code → Array Oper
  | .region _ ops _ => ops
  | _ => #[]
theorem Nd.post {c : Code} {e : Nat → V} {σ : St} {Q Q' : VX → (Nat → V) → St → Prop} (h : Nd P base w0 N c e σ Q')
    (hq : ∀ x e1 σ1, Q' x e1 σ1 → ∃ e2 σ2, Q x e2 σ2 ∧ ∀ g0 W g w tm, Rel base w0 g0 σ W → Ext g0 σ.toks W g σ1.toks w → Rel base w0 g σ1 w → VRs g σ1.toks w (env N e1) tm → ∃ g1, Ext g0 σ.toks W g1 σ2.toks w ∧ Rel base w0 g1 σ2 w ∧ VRs g1 σ2.toks w (env N e2) tm) :
    Nd P base w0 N c e σ Q := fun g w a hR hT => by
  refine wp_mono (h g w a hR hT) fun e1 a' w' hp => ?_
  obtain ⟨x, e2, σ', g', h1, h2, h3, h4, h5, h6, h7⟩ := hp
  obtain ⟨e3, σ3, k1, k2⟩ := hq x e2 σ' h1
  obtain ⟨g1, k3, k4, k5⟩ := k2 g w g' w' _ hR h3 h4 h6
  refine ⟨x, e3, σ3, g1, k1, h2, k3, k4, ?_, k5, h7⟩
  cases x with
  | pan v => exact absurd rfl (h2 v)
  | normal => exact h5
  | ret => exact h5
  | exit id => exact h5
def Gh.move (g : Gh) (N j : Nat) : Gh := { g with n := N, hid := fun r => if r = j then false else g.hid r, ρ := fun r => if r = j then g.ρ N else g.ρ r, ob := fun r => if r = j then g.ob N else g.ob r }
mutual
def renV (N j : Nat) : V → V
  | .optr r o => .optr (if r = N then j else r) o
  | .eptr cs o => .eptr (renVs N j cs) o
  | .slice p z cs n => .slice p z (renVs N j cs) n
  | .hslice r o z n => .hslice (if r = N then j else r) o z n
  | .hfull r o z n => .hfull (if r = N then j else r) o z n
  | .func f cs => .func f (renVs N j cs)
  | .iface t v => .iface t (renV N j v)
  | .agg cs => .agg (renVs N j cs)
  | .tuple cs => .tuple (renVs N j cs)
  | .omap r => .omap (if r = N then j else r)
  | .yld r => .yld (if r = N then j else r)
  | v => v
def renVs (N j : Nat) : List V → List V
  | [] => []
  | v :: vs => renV N j v :: renVs N j vs
end
theorem renVs_map (N j : Nat) : ∀ vs, renVs N j vs = vs.map (renV N j)
  | [] => rfl
  | v :: vs => by simp [renVs, renVs_map N j vs]
theorem renVs_length (N j : Nat) (vs : List V) : (renVs N j vs).length = vs.length := by rw [renVs_map, List.length_map]
section
variable {g : Gh} {s : List Bool} {w : World} {N j : Nat}
theorem has_move (hn : g.n = N + 1) (hjN : j < N) (hj : g.hid j = true) {r : Nat} (h : g.has r) : (g.move N j).has (if r = N then j else r) ∧ (g.move N j).ρ (if r = N then j else r) = g.ρ r ∧ (g.move N j).ob (if r = N then j else r) = g.ob r := by
  by_cases e : r = N
  · subst e
    rw [if_pos rfl]
    exact ⟨⟨hjN, by simp [Gh.move]⟩, by simp [Gh.move], by simp [Gh.move]⟩
  · rw [if_neg e]
    have hrj : r ≠ j := fun h2 => by subst h2; rw [h.2] at hj; cases hj
    have h1 := h.1
    exact ⟨⟨by show r < N; omega, by simp [Gh.move, hrj, h.2]⟩, by simp [Gh.move, hrj], by simp [Gh.move, hrj]⟩
mutual
theorem VR.move (hn : g.n = N + 1) (hjN : j < N) (hj : g.hid j = true) : ∀ (v : V) {x : Value}, VR g s w v x → VR (g.move N j) s w (renV N j v) x
  | .bool b, x, h => by simpa only [VR, renV] using h
  | .int k n, x, h => by simpa only [VR, renV] using h
  | .str _, x, h => by simpa only [VR, renV] using h
  | .nilp, x, h => by simpa only [VR, renV] using h
  | .optr r off, x, h => by
    simp only [VR, renV] at h ⊢
    obtain ⟨h1, h2, h3⟩ := has_move hn hjN hj h.1
    exact ⟨h1, by rw [h2, h3]; exact h.2⟩
  | .eptr cs off, x, h => by
    simp only [VR, renV] at h ⊢
    obtain ⟨b, o, us, hx, hr, hc⟩ := h
    exact ⟨b, o, us, hx, hr, VRs.move hn hjN hj cs hc⟩
  | .nils, x, h => by simpa only [VR, renV] using h
  | .slice p esz cs len, x, h => by
    simp only [VR, renV] at h ⊢
    obtain ⟨ad, cap, us, hx, hl, hc, hm, hr, hs, hp⟩ := h
    exact ⟨ad, cap, us, hx, by rw [renVs_length]; exact hl, hc, hm, hr, VRs.move hn hjN hj cs hs, hp⟩
  | .hslice r off esz len, x, h => by
    simp only [VR, renV] at h ⊢
    obtain ⟨h1, h2, h3⟩ := has_move hn hjN hj h.1
    obtain ⟨hr, cap, hx, hc, hm, hb⟩ := h
    exact ⟨h1, cap, by rw [h2, h3]; exact hx, hc, hm, by rw [h2, h3]; exact hb⟩
  | .hfull r off esz len, x, h => by
    simp only [VR, renV] at h ⊢
    obtain ⟨h1, h2, h3⟩ := has_move hn hjN hj h.1
    obtain ⟨hr, hx, hm, hb⟩ := h
    exact ⟨h1, by rw [h2, h3]; exact hx, hm, by rw [h2, h3]; exact hb⟩
  | .func f caps, x, h => by
    simp only [VR, renV] at h ⊢
    obtain ⟨us, hx, hc⟩ := h
    exact ⟨us, hx, VRs.move hn hjN hj caps hc⟩
  | .nilf, x, h => by simpa only [VR, renV] using h
  | .iface t v, x, h => by
    simp only [VR, renV] at h ⊢
    obtain ⟨u, hx, hc⟩ := h
    exact ⟨u, hx, VR.move hn hjN hj v hc⟩
  | .nili, x, h => by simpa only [VR, renV] using h
  | .agg cs, x, h => by
    simp only [VR, renV] at h ⊢
    obtain ⟨us, hx, hc⟩ := h
    exact ⟨us, hx, VRs.move hn hjN hj cs hc⟩
  | .tuple cs, x, h => by
    simp only [VR, renV] at h ⊢
    obtain ⟨us, hx, hc⟩ := h
    exact ⟨us, hx, VRs.move hn hjN hj cs hc⟩
  | .nilm, x, h => by simpa only [VR, renV] using h
  | .omap r, x, h => by
    simp only [VR, renV] at h ⊢
    obtain ⟨h1, h2, h3⟩ := has_move hn hjN hj h.1
    exact ⟨h1, by rw [h2]; exact h.2⟩
  | .yld r, x, h => by
    simp only [VR, renV] at h ⊢
    obtain ⟨h1, h2, h3⟩ := has_move hn hjN hj h.1
    exact ⟨h1, by rw [h2]; exact h.2⟩
theorem VRs.move (hn : g.n = N + 1) (hjN : j < N) (hj : g.hid j = true) : ∀ (vs : List V) {us : List Value}, VRs g s w vs us → VRs (g.move N j) s w (renVs N j vs) us
  | [], us, h => by simpa only [VRs, renVs] using h
  | v :: vs, us, h => by
    simp only [VRs, renVs] at h ⊢
    obtain ⟨u, us', hu, hv, hvs⟩ := h
    exact ⟨u, us', hu, VR.move hn hjN hj v hv, VRs.move hn hjN hj vs hvs⟩
end
mutual
theorem VR.ren_old (hN : ¬ g.has N) : ∀ (v : V) {x : Value}, VR g s w v x → renV N j v = v
  | .bool b, x, h => rfl
  | .int k n, x, h => rfl
  | .str _, x, h => rfl
  | .nilp, x, h => rfl
  | .optr r off, x, h => by
    simp only [VR] at h
    simp only [renV]
    rw [if_neg (fun e => hN (by rw [← e]; exact h.1))]
  | .eptr cs off, x, h => by
    simp only [VR] at h
    obtain ⟨b, o, us, hx, hr, hc⟩ := h
    simp only [renV, VRs.ren_old hN cs hc]
  | .nils, x, h => rfl
  | .slice p esz cs len, x, h => by
    simp only [VR] at h
    obtain ⟨ad, cap, us, hx, hl, hc, hm, hr, hs, hp⟩ := h
    simp only [renV, VRs.ren_old hN cs hs]
  | .hslice r off esz len, x, h => by
    simp only [VR] at h
    simp only [renV]
    rw [if_neg (fun e => hN (by rw [← e]; exact h.1))]
  | .hfull r off esz len, x, h => by
    simp only [VR] at h
    simp only [renV]
    rw [if_neg (fun e => hN (by rw [← e]; exact h.1))]
  | .func f caps, x, h => by
    simp only [VR] at h
    obtain ⟨us, hx, hc⟩ := h
    simp only [renV, VRs.ren_old hN caps hc]
  | .nilf, x, h => rfl
  | .iface t v, x, h => by
    simp only [VR] at h
    obtain ⟨u, hx, hc⟩ := h
    simp only [renV, VR.ren_old hN v hc]
  | .nili, x, h => rfl
  | .agg cs, x, h => by
    simp only [VR] at h
    obtain ⟨us, hx, hc⟩ := h
    simp only [renV, VRs.ren_old hN cs hc]
  | .tuple cs, x, h => by
    simp only [VR] at h
    obtain ⟨us, hx, hc⟩ := h
    simp only [renV, VRs.ren_old hN cs hc]
  | .nilm, x, h => rfl
  | .omap r, x, h => by
    simp only [VR] at h
    simp only [renV]
    rw [if_neg (fun e => hN (by rw [← e]; exact h.1))]
  | .yld r, x, h => by
    simp only [VR] at h
    simp only [renV]
    rw [if_neg (fun e => hN (by rw [← e]; exact h.1))]
theorem VRs.ren_old (hN : ¬ g.has N) : ∀ (vs : List V) {us : List Value}, VRs g s w vs us → renVs N j vs = vs
  | [], us, h => rfl
  | v :: vs, us, h => by
    simp only [VRs] at h
    obtain ⟨u, us', hu, hv, hvs⟩ := h
    simp only [renVs, VR.ren_old hN v hv, VRs.ren_old hN vs hvs]
end
end
def renO (N j : Nat) : Ob → Ob
  | .cells cs => .cells (renVs N j cs)
  | .tcells t cs => .tcells t (renVs N j cs)
  | .mp es => .mp (es.map fun e => (renV N j e.1, renV N j e.2))
  | .mpR b es a c => .mpR b (es.map fun e => (renV N j e.1, renV N j e.2)) a c
  | .lp tm p a b => .lp (renVs N j tm) p a b
  | .lpB tm p a b => .lpB (renVs N j tm) p a b
  | o => o
theorem renO_gone {N j : Nat} {o : Ob} : (renO N j o).gone ↔ o.gone := by cases o <;> exact Iff.rfl
theorem renO_unb {N j : Nat} {o : Ob} : renO N j o = .unb ↔ o = .unb := by cases o <;> simp [renO]
theorem ObjOk.ren_old {g : Gh} {s : List Bool} {w : World} {r N j : Nat} {o : Ob} (hN : ¬ g.has N) (h : ObjOk base g s w r o) : renO N j o = o := by
  have hm : ∀ (es : List (V × V)) (ks vs : List Value), VRs g s w (es.map (·.1)) ks → VRs g s w (es.map (·.2)) vs → (es.map fun e => (renV N j e.1, renV N j e.2)) = es := by
    intro es ks vs h1 h2
    have e1 := VRs.ren_old (j := j) hN _ h1
    have e2 := VRs.ren_old (j := j) hN _ h2
    rw [renVs_map, List.map_map] at e1 e2
    apply List.ext_getElem
    · simp
    · intro i hi hi2
      have g1 := congrArg (·[i]?) e1
      have g2 := congrArg (·[i]?) e2
      simp [hi2] at g1 g2
      simp [g1, g2]
  cases o with
  | dead => rfl
  | unb => rfl
  | cells cs => obtain ⟨_, _, c, ty, us, _, h4, _⟩ := h; simp only [renO, VRs.ren_old hN cs h4]
  | tcells t cs => obtain ⟨_, _, _, us, _, h4⟩ := h; simp only [renO, VRs.ren_old hN cs h4]
  | mp es => obtain ⟨_, _, a, cl, _, h1, h2, _⟩ := h; simp only [renO, hm es _ _ h1 h2]
  | mpR b es a c => obtain ⟨_, _, _, _, h1, h2, _⟩ := h; simp only [renO, hm es _ _ h1 h2]
  | lp tm p a b => obtain ⟨_, _, fn, df, us, _, h4⟩ := h; simp only [renO, VRs.ren_old hN tm h4]
  | lpB tm p a b => obtain ⟨_, _, fn, df, us, _, h4⟩ := h; simp only [renO, VRs.ren_old hN tm h4]
  | lpD c => rfl
  | it b a c d => rfl
theorem ObjOk.move {g : Gh} {s : List Bool} {w : World} {r N j : Nat} {o : Ob} (hn : g.n = N + 1) (hjN : j < N) (hj : g.hid j = true) (hr : g.has r) (h : ObjOk base g s w r o) : ObjOk base (g.move N j) s w (if r = N then j else r) (renO N j o) := by
  obtain ⟨h1, h2, h3⟩ := has_move hn hjN hj hr
  have hm : ∀ (es : List (V × V)) (ks vs : List Value), VRs g s w (es.map (·.1)) ks → VRs g s w (es.map (·.2)) vs →
      VRs (g.move N j) s w ((es.map fun e => (renV N j e.1, renV N j e.2)).map (·.1)) ks ∧ VRs (g.move N j) s w ((es.map fun e => (renV N j e.1, renV N j e.2)).map (·.2)) vs := by
    intro es ks vs k1 k2
    have e1 := VRs.move hn hjN hj _ k1
    have e2 := VRs.move hn hjN hj _ k2
    rw [renVs_map, List.map_map] at e1 e2
    simp only [List.map_map]
    exact ⟨e1, e2⟩
  have hL : (g.move N j).L = g.L := rfl
  cases o with
  | dead => trivial
  | unb => trivial
  | cells cs =>
    obtain ⟨k1, k2, c, ty, us, k3, k4, k5, k6⟩ := h
    simp only [ObjOk, renO]
    rw [h2, h3, hL]
    exact ⟨k1, k2, c, ty, us, k3, VRs.move hn hjN hj cs k4, k5, k6⟩
  | tcells t cs =>
    obtain ⟨k1, k2, k0, us, k3, k4⟩ := h
    simp only [ObjOk, renO]
    rw [h2, h3, hL]
    exact ⟨k1, k2, k0, us, k3, VRs.move hn hjN hj cs k4⟩
  | mp es =>
    obtain ⟨k1, k2, a, cl, k3, k4, k5, k6⟩ := h
    obtain ⟨m1, m2⟩ := hm es _ _ k4 k5
    simp only [ObjOk, renO]
    rw [h2, hL]
    exact ⟨k1, k2, a, cl, k3, m1, m2, k6⟩
  | mpR b es a c =>
    obtain ⟨k1, k2, k0, k3, k4, k5, k6⟩ := h
    obtain ⟨m1, m2⟩ := hm es _ _ k4 k5
    simp only [ObjOk, renO]
    rw [h2, hL]
    exact ⟨k1, k2, k0, k3, m1, m2, k6⟩
  | lp tm p a b =>
    obtain ⟨k1, k2, fn, df, us, k3, k4⟩ := h
    simp only [ObjOk, renO]
    rw [h2, hL]
    exact ⟨k1, k2, fn, df, us, k3, VRs.move hn hjN hj tm k4⟩
  | lpB tm p a b =>
    obtain ⟨k1, k2, fn, df, us, k3, k4⟩ := h
    simp only [ObjOk, renO]
    rw [h2, hL]
    exact ⟨k1, k2, fn, df, us, k3, VRs.move hn hjN hj tm k4⟩
  | lpD c =>
    obtain ⟨k1, k2, rec, k3, k4⟩ := h
    simp only [ObjOk, renO]
    rw [h2, hL]
    exact ⟨k1, k2, rec, k3, k4⟩
  | it b a c d =>
    obtain ⟨k1, k2, k3, k4⟩ := h
    simp only [ObjOk, renO]
    rw [h2, h3, hL]
    exact ⟨k1, k2, k3, k4⟩
theorem Rel.move {g : Gh} {A : List Ob} {o : Ob} {toks : List Bool} {w : World} (h : Rel base w0 g ⟨A ++ [o], toks⟩ w) {j : Nat} (hj : A[j]? = some .unb) (ho : o ≠ .unb) : Rel base w0 (g.move A.length j) ⟨(A.map (renO A.length j)).set j (renO A.length j o), toks⟩ w := by
  have hjl := (gA0.1 hj).1
  have hn : g.n = A.length + 1 := by rw [h.n]; simp
  have hjh : g.hid j = true := (h.hid j).2 (by simp only; rw [gA2 hjl]; exact hj)
  have hNh : g.hid A.length = false := by
    cases hc : g.hid A.length with
    | false => rfl
    | true =>
      have := (h.hid _).1 hc
      simp at this
      exact absurd this ho
  -- back to the old places
  have back : ∀ r o', ((A.map (renO A.length j)).set j (renO A.length j o))[r]? = some o' → ∃ q o1, (A ++ [o])[q]? = some o1 ∧ o' = renO A.length j o1 ∧ r = (if q = A.length then j else q) ∧ (q = A.length ↔ r = j) := by
    intro r o' hr
    rw [List.getElem?_set] at hr
    by_cases e : j = r
    · subst e
      rw [if_pos rfl, if_pos (by simpa using hjl)] at hr
      injection hr with hr
      exact ⟨A.length, o, by simp, hr.symm, by rw [if_pos rfl], by simp⟩
    · rw [if_neg e, List.getElem?_map, gA1] at hr
      obtain ⟨o1, h1, h2⟩ := hr
      have hrl := (gA0.1 h1).1
      refine ⟨r, o1, by rw [gA2 hrl]; exact h1, h2.symm, by rw [if_neg (by omega)], ?_⟩
      constructor
      · intro h; omega
      · intro h; exact absurd h.symm e
  have alive : ∀ r, aliveAt ((A.map (renO A.length j)).set j (renO A.length j o)) r → ∃ q, aliveAt (A ++ [o]) q ∧ r = (if q = A.length then j else q) ∧ (q = A.length ↔ r = j) := by
    intro r ⟨o', h1, h2⟩
    obtain ⟨q, o1, k1, k2, k3, k4⟩ := back r o' h1
    exact ⟨q, ⟨o1, k1, fun hg => h2 (by rw [k2]; exact renO_gone.2 hg)⟩, k3, k4⟩
  exact {
    below := h.below
    bs := h.bs
    n := by simp [Gh.move]
    hid := fun r => by
      simp only [Gh.move]
      by_cases e : r = j
      · subst e
        rw [if_pos rfl, gA5 (by simpa using hjl)]
        constructor
        · intro h; cases h
        · intro h; injection h with h; exact absurd (renO_unb.1 h) ho
      · rw [if_neg e, gA3 (Ne.symm e), List.getElem?_map, h.hid r]
        rcases Nat.lt_or_ge r A.length with h1 | h1
        · simp only
          rw [gA2 h1, List.getElem?_eq_getElem h1]
          simp [renO_unb]
        · rw [List.getElem?_eq_none h1]
          simp only [Option.map_none, reduceCtorEq, iff_false]
          intro h2
          have h3 := (gA0.1 h2).1
          simp only [List.length_append, List.length_singleton] at h3
          have : r = A.length := by omega
          subst this
          simp at h2
          exact ho h2
    obj := fun r o' hr => by
      obtain ⟨q, o1, k1, rfl, k3, _⟩ := back r o' hr
      by_cases hg : o1.gone
      · exact ObjOk.gone (renO_gone.2 hg)
      · rw [k3]
        exact (h.obj q o1 k1).move hn hjl hjh ((h.hasO k1).resolve_right hg)
    inj := fun a b ha hb he => by
      obtain ⟨q, hq, hqa, hqe⟩ := alive a ha
      obtain ⟨q', hq', hqa', hqe'⟩ := alive b hb
      obtain ⟨_, k2, _⟩ := has_move hn hjl hjh (h.hasA hq)
      obtain ⟨_, k2', _⟩ := has_move hn hjl hjh (h.hasA hq')
      rw [hqa, hqa', k2, k2'] at he
      have := h.inj q q' hq hq' he
      rw [hqa, hqa', this]
    tok := fun t ht => by
      obtain ⟨h1, h2, h3⟩ := h.tok t ht
      refine ⟨h1, h2, fun a ha => ?_⟩
      obtain ⟨q, hq, hqa, _⟩ := alive a ha
      obtain ⟨_, k2, _⟩ := has_move hn hjl hjh (h.hasA hq)
      rw [hqa, k2]
      exact h3 q hq
    tinj := h.tinj
    lim := h.lim }
theorem Ext.move {g0 g : Gh} {s0 s : List Bool} {W w : World} (h : Ext g0 s0 W g s w) {N j : Nat} (h0 : g0.n ≤ N) (hj : ¬ g0.has j) : Ext g0 s0 W (g.move N j) s w where
  n := h0
  has r hr := by
    have := hr.1
    have hrj : r ≠ j := fun e => hj (by rw [← e]; exact hr)
    exact ⟨by show r < N; omega, by simp [Gh.move, hrj, (h.has r hr).2]⟩
  ρ r hr := by
    have hrj : r ≠ j := fun e => hj (by rw [← e]; exact hr)
    simp only [Gh.move]; rw [if_neg hrj]; exact h.ρ r hr
  ob r hr := by
    have hrj : r ≠ j := fun e => hj (by rw [← e]; exact hr)
    simp only [Gh.move]; rw [if_neg hrj]; exact h.ob r hr
  L := h.L
  cells := h.cells
  shape := h.shape
  dfr := h.dfr
  nt := h.nt
  tok := h.tok
theorem Rel.later {g : Gh} {σ : St} {w w' : World} (h : Rel base w0 g σ w) (hb : Below w.heap.size w w') : Ext g σ.toks w g σ.toks w' ∧ Rel base w0 g σ w' := by
  have old : ∀ k, k < w.heap.size → w'.heap[k]? = w.heap[k]? := hb.block
  have E : Ext g σ.toks w g σ.toks w' := {
    n := Nat.le_refl _
    has := fun _ h => h
    ρ := fun _ _ => rfl
    ob := fun _ _ => rfl
    L := fun _ => Nat.le_refl _
    cells := fun b q hlo => by
      have hbl : b < w.heap.size := by
        rcases Nat.lt_or_ge b w.heap.size with h1 | h1
        · exact h1
        · rw [h.lim b h1] at hlo; omega
      exact cell?_heap (old b hbl) q
    shape := fun b c ty fr hbb => ⟨c, fr, by rw [old b (Array.getElem?_eq_some_iff.1 hbb).1]; exact hbb, rfl, .inl rfl⟩
    dfr := fun b x hbb => by rw [old b (Array.getElem?_eq_some_iff.1 hbb).1]; exact hbb
    nt := Nat.le_refl _
    tok := fun s _ hl => ⟨hl, rfl, rfl⟩ }
  refine ⟨E, {
    below := h.below.trans ⟨hb.os, hb.tape, hb.output, hb.size, fun k hk => old k (by have := h.bs; omega)⟩
    bs := by have := h.bs; have := hb.size; omega
    n := h.n
    hid := h.hid
    obj := fun r o ho => by
      by_cases hg : o.gone
      · exact ObjOk.gone hg
      · have hlt := (h.obj r o ho).lt hg
        exact (h.obj r o ho).ext E (h.hasO ho) (old _ hlt) rfl
    inj := h.inj
    tok := fun t ht => by obtain ⟨h1, h2, h3⟩ := h.tok t ht; exact ⟨h1, by have := hb.size; omega, h3⟩
    tinj := h.tinj
    lim := fun b hbb => h.lim b (by have := hb.size; omega) }⟩
theorem Rel.adopt {g : Gh} {σ : St} {w : World} (h : Rel base w0 g σ w) {B : Nat} {cs : List V} (hB : B < w.heap.size) (hal : ∀ r, aliveAt σ.objs r → g.ρ r ≠ B) (htk : ∀ t, tokLive σ.toks t = true → g.tk t ≠ B) (hL : g.L B = 0)
    {c : Array Value} {ty : TypeId} {us : List Value} (hbase : base ≤ B) (hc : w.heap[B]? = some (.cells c ty (0, 0))) (hv : VRs g σ.toks w cs us) (hus : c.toList.take us.length = us) :
    Ext g σ.toks w (g.obj B) σ.toks w ∧ Rel base w0 (g.obj B) ⟨σ.objs ++ [.cells cs], σ.toks⟩ w := by
  have E : Ext g σ.toks w (g.obj B) σ.toks w := {
    n := by simp [Gh.obj]
    has := fun r hr => by obtain ⟨h1, h2⟩ := hr; exact ⟨by simp [Gh.obj]; omega, by simp only [Gh.obj]; rw [if_neg (by omega)]; exact h2⟩
    ρ := fun r hr => by have := hr.1; simp only [Gh.obj]; rw [if_neg (by omega)]
    ob := fun r hr => by have := hr.1; simp only [Gh.obj]; rw [if_neg (by omega)]
    L := fun _ => Nat.le_refl _
    cells := fun _ _ _ => rfl
    shape := fun b c t fr hb => ⟨c, fr, hb, rfl, .inl rfl⟩
    dfr := fun _ _ h => h
    nt := Nat.le_refl _
    tok := fun t ht hl => ⟨hl, rfl, rfl⟩ }
  have hle : us.length ≤ c.size := by
    have := congrArg List.length hus
    rw [List.length_take] at this
    have h2 : c.toList.length = c.size := Array.length_toList
    omega
  refine ⟨E, {
    below := h.below
    bs := h.bs
    n := by simp [Gh.obj, h.n]
    hid := fun r => by
      simp only [Gh.obj]
      rcases Nat.lt_or_ge r σ.objs.length with h1 | h1
      · rw [if_neg (by rw [h.n]; omega), gA2 h1]
        exact h.hid r
      · have h2 : g.hid r = false := by
          cases e : g.hid r with
          | false => rfl
          | true => have := (gA0.1 ((h.hid r).1 e)).1; omega
        rw [h2]
        constructor
        · intro h; split at h <;> cases h
        · intro hu
          have h3 := (gA0.1 hu).1
          simp only [List.length_append, List.length_singleton] at h3
          have : r = σ.objs.length := by omega
          subst this
          simp at hu
    obj := fun r ob hob => by
      rcases Nat.lt_or_ge r σ.objs.length with h1 | h1
      · rw [gA2 h1] at hob
        exact (h.obj r ob hob).ext E (h.hasO hob) rfl rfl
      · have hr : r = σ.objs.length := by
          have := (gA0.1 hob).1
          simp only [List.length_append, List.length_singleton] at this
          omega
        subst hr
        simp at hob
        subst hob
        simp only [ObjOk, Gh.obj]
        rw [if_pos h.n.symm, if_pos h.n.symm]
        refine ⟨hbase, hL, c, ty, us, hc, VRs.ext E cs hv, by omega, fun i u hu => ?_⟩
        have hil : i < us.length := (gA0.1 hu).1
        rw [← hus, List.getElem?_take_of_lt hil] at hu
        rw [Nat.zero_add]
        simpa using hu
    inj := fun r r' hr hr' he => by
      simp only [Gh.obj] at he
      rcases alive_append hr with h1 | h1 <;> rcases alive_append hr' with h2 | h2
      · have a := alive_lt h1
        have b := alive_lt h2
        rw [if_neg (by rw [h.n]; omega), if_neg (by rw [h.n]; omega)] at he
        exact h.inj r r' h1 h2 he
      · have a := alive_lt h1
        rw [if_neg (by rw [h.n]; omega), if_pos (by rw [h.n]; exact h2)] at he
        exact absurd he (hal r h1)
      · have b := alive_lt h2
        rw [if_neg (c := r' = g.n) (by rw [h.n]; omega), if_pos (by rw [h.n]; exact h1)] at he
        exact absurd he.symm (hal r' h2)
      · omega
    tok := fun t ht => by
      obtain ⟨h1, h2, h3⟩ := h.tok t ht
      refine ⟨h1, h2, fun r hr => ?_⟩
      simp only [Gh.obj]
      rcases alive_append hr with h4 | h4
      · have a := alive_lt h4
        rw [if_neg (by rw [h.n]; omega)]
        exact h3 r h4
      · rw [if_pos (by rw [h.n]; exact h4)]
        exact Ne.symm (htk t ht)
    tinj := h.tinj
    lim := h.lim }⟩
end
end Go.Proofs.YtnegdinonfjdfaaDoor.Q
namespace Go.Proofs.YtnegdinonfjdfaaDoor.Q
open Go Go.RowKit
theorem vcells_one {v : V} (h : one v = true) : vcells v = [v] := by
  cases v <;> first | rfl | cases h
theorem BtsV.one {v : V} {bs : List UInt8} (h : BtsV v bs) : one v = true := by
  rcases h with ⟨rfl, _⟩ | ⟨p, rfl⟩ <;> rfl
section
variable {P : Program}
theorem vload_obj {objs : List Ob} {r off : Nat} {cs : List V} {t : TypeId} (h : objs[r]? = some (.cells cs)) (ha : isAggT P t = some false) : vload P objs t (.optr r off) = cs[off]? := by
  simp [vload, vcellsAt, h, vpart, ha]
theorem vstore_obj {σ : St} {r off : Nat} {cs : List V} {t : TypeId} {v : V} (h : σ.objs[r]? = some (.cells cs)) (hs : sizeT P t = some 1) (h1 : one v = true) (hl : off < cs.length) : vstore P σ t (.optr r off) v = some ⟨σ.objs.set r (.cells (cs.set off v)), σ.toks⟩ := by
  have h2 : off + 1 ≤ cs.length := hl
  simp [vstore, h, hs, vcells_one h1, h1, h2, setAll]
theorem eql_nilp {t u : TypeId} {xo yo : Operand} (ht : P.underlying t = some (.pointer u)) : vbin P .eql t xo yo .nilp .nilp = some (.bool true) := by
  simp [vbin, bothSame, guardFree, aggEq, ht]
theorem eql_optr {t u : TypeId} {xo yo : Operand} {r o : Nat} (ht : P.underlying t = some (.pointer u)) : vbin P .eql t xo yo (.optr r o) .nilp = some (.bool false) := by
  simp [vbin, bothSame, guardFree, aggEq, ht]
theorem neq_nilp {t u : TypeId} {xo yo : Operand} (ht : P.underlying t = some (.pointer u)) : vbin P .neq t xo yo .nilp .nilp = some (.bool false) := by
  simp [vbin, bothSame, guardFree, aggEq, ht]
theorem neq_optr {t u : TypeId} {xo yo : Operand} {r o : Nat} (ht : P.underlying t = some (.pointer u)) : vbin P .neq t xo yo (.optr r o) .nilp = some (.bool true) := by
  simp [vbin, bothSame, guardFree, aggEq, ht]
end
theorem ofVal_nilp : ofVal (.pointer none) = some .nilp := rfl
theorem vnil_optr {r o : Nat} : vnil (.optr r o) = some (.optr r o) := rfl
def KeepX (r : Nat) (σ σ' : St) : Prop := (∀ (q : Nat) (o : Ob), q ≠ r → σ.objs[q]? = some o → σ'.objs[q]? = some o) ∧ σ.toks.length ≤ σ'.toks.length ∧ ∀ k, tokLive σ.toks k = true → tokLive σ'.toks k = true
theorem Keep.x {σ σ' : St} (h : Keep σ σ') (r : Nat) : KeepX r σ σ' := ⟨fun q o _ ho => h.1 q o ho, h.2⟩
theorem KeepX.refl (r : Nat) (σ : St) : KeepX r σ σ := (Keep.refl σ).x r
theorem KeepX.trans {r : Nat} {a b c : St} (h : KeepX r a b) (h2 : KeepX r b c) : KeepX r a c := ⟨fun q o hq ho => h2.1 q o hq (h.1 q o hq ho), Nat.le_trans h.2.1 h2.2.1, fun k hk => h2.2.2 k (h.2.2 k hk)⟩
theorem KeepX.set (r : Nat) (o : Ob) (σ : St) : KeepX r σ ⟨σ.objs.set r o, σ.toks⟩ := ⟨fun q o' hq ho => by simp only; rw [gA3 (Ne.symm hq)]; exact ho, Nat.le_refl _, fun _ h => h⟩
theorem obj_set {objs : List Ob} {r : Nat} {o o' : Ob} (h : objs[r]? = some o) : (objs.set r o')[r]? = some o' := by
  rw [gA5 (gA0.1 h).1]
theorem KeepX.set_eq {σ σ' : St} {r : Nat} {o o' : Ob} (h : σ.objs[r]? = some o) (hs : σ' = ⟨σ.objs.set r o', σ.toks⟩) : KeepX r σ σ' ∧ σ'.objs[r]? = some o' := by
  subst hs
  exact ⟨KeepX.set r o' σ, obj_set h⟩
end Go.Proofs.YtnegdinonfjdfaaDoor.Q
namespace Go.Proofs.YtnegdinonfjdfaaDoor.Q
open Go Go.RowKit
def RowV (k : Nat) (v : V) (cs : List V) (n : Nat) : Prop := cs.length = n * k ∧ ((v = .nils ∧ n = 0) ∨ ∃ p, v = .slice p k cs n)
theorem RowV.one {k n : Nat} {v : V} {cs : List V} (h : RowV k v cs n) : one v = true := by
  rcases h.2 with ⟨rfl, _⟩ | ⟨p, rfl⟩ <;> rfl
theorem RowV.nil (k : Nat) : RowV k .nils [] 0 := ⟨by simp, .inl ⟨rfl, rfl⟩⟩
section
variable {P : Program}
structure RowT (P : Program) (t e : TypeId) (k by_ : Nat) : Prop where
  u : P.underlying t = some (.slice e)
  s : sizeT P e = some k
  z : ∃ z, zeroT P e = some z ∧ (vcells z).length = k
  b : (P.info? e).map (·.bytes) = some by_
  k0 : 0 < k
theorem RowV.len {k n : Nat} {v : V} {cs : List V} (h : RowV k v cs n) {t e : TypeId} (ht : P.underlying t = some (.slice e)) : vlen P t v = some (.int .i64 n) := by
  rcases h.2 with ⟨rfl, rfl⟩ | ⟨p, rfl⟩ <;> simp [vlen, ht]
theorem RowV.addr {k n : Nat} {v : V} {cs : List V} (h : RowV k v cs n) {t e : TypeId} (ht : P.underlying t = some (.slice e)) (hs : sizeT P e = some k) (hk : 0 < k) {kk : IntKind} {i : Int} (h0 : 0 ≤ i) (h1 : i < n) : vindexAddr P t v (.int kk i) = some (.eptr cs (i.toNat * k)) := by
  rcases h.2 with ⟨rfl, rfl⟩ | ⟨p, rfl⟩
  · omega
  · have hne : cs ≠ [] := by
      rintro rfl
      have := h.1
      simp only [List.length_nil] at this
      have : 1 * 1 ≤ n * k := Nat.mul_le_mul (by omega) hk
      omega
    simp [vindexAddr, ht, hs, h0, h1, hne]
theorem RowV.slice {k n : Nat} {v : V} {cs : List V} (h : RowV k v cs n) {t e : TypeId} (ht : P.underlying t = some (.slice e)) (hs : sizeT P e = some k) {lo hi : Option V} {a b : Nat} (hb : vbounds n lo hi none = some (a, b, none)) (hab : a ≤ b) (hbl : b ≤ n) :
    ∃ v', vslice P t v lo hi none = some v' ∧ RowV k v' ((cs.drop (a * k)).take ((b - a) * k)) (b - a) := by
  have hl : ((cs.drop (a * k)).take ((b - a) * k)).length = (b - a) * k := by
    have h1 := h.1
    have h2 : b * k ≤ n * k := Nat.mul_le_mul_right k hbl
    have h3 : b * k = a * k + (b - a) * k := by rw [← Nat.add_mul]; congr 1; omega
    rw [List.length_take, List.length_drop]
    omega
  rcases h.2 with ⟨rfl, rfl⟩ | ⟨p, rfl⟩
  · exact ⟨.nils, by simp [vslice, ht, hs, hb], hl, .inl ⟨rfl, by omega⟩⟩
  · refine ⟨_, ?_, hl, .inr ⟨if p = Perm.exact ∧ b = n then Perm.exact else if a = 0 ∧ b = n then p else Perm.ro, rfl⟩⟩
    simp only [vslice, ht, hs, if_true, hb]
def OwnR (e : TypeId) (k m : Nat) (σ : St) (v : V) (cs : List V) (n : Nat) : Prop :=
  cs.length = n * k ∧ ((v = .nils ∧ n = 0) ∨ ∃ p, v = .slice p k cs n ∧ (p = .exact ∨ ∃ q, p = .tok q e ∧ tokLive σ.toks q = true ∧ m ≤ q))
theorem OwnR.row {e k m n : Nat} {σ : St} {v : V} {cs : List V} (h : OwnR e k m σ v cs n) : RowV k v cs n := by
  rcases h with ⟨h1, h | ⟨p, h, _⟩⟩
  · exact ⟨h1, .inl h⟩
  · exact ⟨h1, .inr ⟨p, h⟩⟩
theorem OwnR.nil {e k m : Nat} {σ : St} : OwnR e k m σ .nils [] 0 := ⟨by simp, .inl ⟨rfl, rfl⟩⟩
theorem OwnR.keep {e k m n : Nat} {σ σ' : St} {v : V} {cs : List V} (h : OwnR e k m σ v cs n) (hk : ∀ k, tokLive σ.toks k = true → tokLive σ'.toks k = true) : OwnR e k m σ' v cs n := by
  rcases h with ⟨h1, h | ⟨p, h, h2⟩⟩
  · exact ⟨h1, .inl h⟩
  · refine ⟨h1, .inr ⟨p, h, ?_⟩⟩
    rcases h2 with h2 | ⟨q, h2, h3, h4⟩
    · exact .inl h2
    · exact .inr ⟨q, h2, hk q h3, h4⟩
theorem OwnR.low {e k m m' n : Nat} {σ : St} {v : V} {cs : List V} (h : OwnR e k m σ v cs n) (hm : m' ≤ m) : OwnR e k m' σ v cs n := by
  rcases h with ⟨h1, h | ⟨p, h, h2⟩⟩
  · exact ⟨h1, .inl h⟩
  · refine ⟨h1, .inr ⟨p, h, ?_⟩⟩
    rcases h2 with h2 | ⟨q, h2, h3, h4⟩
    · exact .inl h2
    · exact .inr ⟨q, h2, h3, Nat.le_trans hm h4⟩
theorem OwnR.appendO {t t2 e : TypeId} {k by_ : Nat} (hT : RowT P t e k by_) {m : Nat} {σ0 σ : St} {v y : V} {cs ys : List V} {n l : Nat} (h : OwnR e k m σ v cs n) (hn : m = σ0.toks.length) (hk : Keep σ0 σ) (hnews : vnewsO P σ.objs t2 y k = some (ys, l)) (hyl : ys.length = l * k) (hone : ys.all one = true) (hl : n + l ≤ 140737488355328) (hb : (n + l) * by_ ≤ 140737488355328) :
    ∃ v' σ', vappend P σ t t2 v y = some (v', σ') ∧ OwnR e k m σ' v' (cs ++ ys) (n + l) ∧ Keep σ0 σ' ∧ σ'.objs = σ.objs := by
  obtain ⟨z, hz, hzl⟩ := hT.z
  have hk0 : ¬ k = 0 := by have := hT.k0; omega
  have hml : m ≤ σ.toks.length := by rw [hn]; exact hk.2.1
  have keep1 : Keep σ0 ⟨σ.objs, σ.toks ++ [true]⟩ := ⟨hk.1, by simp; have := hk.2.1; omega, fun k h => tokLive_app (hk.2.2 k h)⟩
  have hlen : (cs ++ ys).length = (n + l) * k := by rw [List.length_append, Nat.add_mul, h.1, hyl]
  by_cases hm : l = 0
  · subst hm
    have hys : ys = [] := List.length_eq_zero_iff.1 (by simpa using hyl)
    subst hys
    refine ⟨v, σ, ?_, by simpa using h, hk, rfl⟩
    rcases h.2 with ⟨rfl, rfl⟩ | ⟨p, rfl, _⟩
    · simp [vappend, hT.u, hT.b, hT.s, hz, hnews, hzl, hk0]
    · simp [vappend, hT.u, hT.b, hT.s, hz, hnews, hzl, hk0]
  · rcases h.2 with ⟨rfl, rfl⟩ | ⟨p, rfl, hp⟩
    · have hcs : cs = [] := List.length_eq_zero_iff.1 (by simpa using h.1)
      subst hcs
      refine ⟨_, _, ?_, ⟨hlen, .inr ⟨.tok σ.toks.length e, rfl, .inr ⟨_, rfl, tokLive_new _, hml⟩⟩⟩, keep1, rfl⟩
      simp only [Nat.zero_add] at hl hb
      simp [vappend, hT.u, hT.b, hT.s, hz, hnews, hzl, hk0, hm, hl, hb]
    · rcases hp with rfl | ⟨q, rfl, hlive, hnk⟩
      · refine ⟨_, _, ?_, ⟨hlen, .inr ⟨.tok σ.toks.length e, rfl, .inr ⟨_, rfl, tokLive_new _, hml⟩⟩⟩, keep1, rfl⟩
        simp [vappend, hT.u, hT.b, hT.s, hz, hnews, hzl, hk0, hm, hl, hb]
      · have hkl : (killTok σ.toks q).length = σ.toks.length := by simp [killTok]
        refine ⟨.slice (.tok σ.toks.length e) k (cs ++ ys) (n + l), ⟨σ.objs, killTok σ.toks q ++ [true]⟩, ?_, ⟨hlen, .inr ⟨.tok σ.toks.length e, rfl, .inr ⟨_, rfl, by have := tokLive_new (killTok σ.toks q); rwa [hkl] at this, hml⟩⟩⟩, ?_, rfl⟩
        · simp [vappend, hT.u, hT.b, hT.s, hz, hnews, hzl, hk0, hm, hl, hb, hlive, hone] at hone ⊢
          first | exact hone | done
        · refine ⟨hk.1, by simp [hkl]; have := hk.2.1; omega, fun j hj => ?_⟩
          refine tokLive_app (tokLive_kill_ne (hk.2.2 j hj) ?_)
          have := tokLive_lt hj
          omega
theorem OwnR.append {t t2 e : TypeId} {k by_ : Nat} (hT : RowT P t e k by_) {m : Nat} {σ0 σ : St} {v y : V} {cs ys : List V} {n l : Nat} (h : OwnR e k m σ v cs n) (hn : m = σ0.toks.length) (hk : Keep σ0 σ) (hnews : vnews P t2 y k = some (ys, l)) (hyl : ys.length = l * k) (hone : ys.all one = true) (hl : n + l ≤ 140737488355328) (hb : (n + l) * by_ ≤ 140737488355328) :
    ∃ v' σ', vappend P σ t t2 v y = some (v', σ') ∧ OwnR e k m σ' v' (cs ++ ys) (n + l) ∧ Keep σ0 σ' ∧ σ'.objs = σ.objs := h.appendO hT hn hk (vnewsO_of hnews) hyl hone hl hb
theorem OwnV.toR {e m : Nat} {σ : St} {v : V} {bs : List UInt8} (h : OwnV e m σ v bs) : OwnR e 1 m σ v (bs.map byteV) bs.length := by
  refine ⟨by simp, ?_⟩
  rcases h with ⟨h, rfl⟩ | h
  · exact .inl ⟨h, rfl⟩
  · exact .inr h
theorem OwnR.toV {e m n : Nat} {σ : St} {v : V} {bs : List UInt8} (h : OwnR e 1 m σ v (bs.map byteV) n) : OwnV e m σ v bs := by
  have hl : bs.length = n := by have := h.1; simpa using this
  subst hl
  rcases h.2 with ⟨h, h0⟩ | h
  · exact .inl ⟨h, List.length_eq_zero_iff.1 h0⟩
  · exact .inr h
theorem ByteT.row {t e : TypeId} (h : ByteT P t e) : RowT P t e 1 1 := ⟨h.u, h.s, ⟨_, h.z, rfl⟩, h.b, by omega⟩
theorem OwnV.appendS {t t2 e : TypeId} (hT : ByteT P t e) {m : Nat} {σ0 σ : St} {v : V} {bs ys : List UInt8} (h : OwnV e m σ v bs) (hn : m = σ0.toks.length) (hk : Keep σ0 σ) (ht2 : P.underlying t2 = some .string) (hl : bs.length + ys.length ≤ 140737488355328) :
    ∃ v' σ', vappend P σ t t2 v (.str ys) = some (v', σ') ∧ OwnV e m σ' v' (bs ++ ys) ∧ Keep σ0 σ' ∧ σ'.objs = σ.objs := by
  obtain ⟨v', σ', h1, h2, h3⟩ := h.toR.append hT.row hn hk (t2 := t2) (y := .str ys) (ys := ys.map byteV) (l := ys.length) (by simp [vnews, ht2]) (by simp) (byteV_one ys) hl (by omega)
  rw [← List.map_append] at h2
  exact ⟨v', σ', h1, h2.toV, h3⟩
theorem Keep.push {σ0 σ : St} (h : Keep σ0 σ) (o : Ob) : Keep σ0 ⟨σ.objs ++ [o], σ.toks⟩ :=
  ⟨fun r o' ho => by
    have := h.1 r o' ho
    simp only
    rw [gA2 (gA0.1 this).1]
    exact this, h.2⟩
theorem KeepX.push {q : Nat} {σ0 σ : St} (h : KeepX q σ0 σ) (o : Ob) : KeepX q σ0 ⟨σ.objs ++ [o], σ.toks⟩ :=
  ⟨fun r o' hi ho => by
    have := h.1 r o' hi ho
    simp only
    rw [gA2 (gA0.1 this).1]
    exact this, h.2⟩
theorem push_new (objs : List Ob) (o : Ob) : (objs ++ [o])[objs.length]? = some o := by simp
theorem BtsV.str {v : V} {bs : List UInt8} (h : BtsV v bs) {t t2 e : TypeId} (ht : P.underlying t = some (.slice e)) (he : isU8 P e = true) (ht2 : P.underlying t2 = some .string) : vconv P t t2 v = some (.str bs) := by
  have hb : ∀ l : List UInt8, bytesOf' (l.map byteV) = some l := by
    intro l
    induction l with
    | nil => rfl
    | cons b l ih =>
      have h1 : byteOf1 (.int .u8 (b.toNat : Int)) = some b := by
        have := b.toNat_lt
        simp [byteOf1]
      simp only [List.map_cons, bytesOf', byteV, ih, h1]
  rcases h with ⟨rfl, rfl⟩ | ⟨p, rfl⟩
  · simp [vconv, ht, ht2, he]
  · simp [vconv, ht, ht2, he, hb]
end
end Go.Proofs.YtnegdinonfjdfaaDoor.Q
namespace Go.Proofs.YtnegdinonfjdfaaDoor.Q
open Go Go.RowKit
section
variable {P : Program}
def fieldsOf (P : Program) (t : TypeId) : List (TypeId × Nat) := match P.underlying t with
  | some (.struct fs) => if P.stoodInHeld t || fs.toList.any (fun f => decide (f.name = "_")) then [] else fs.toList.map fun f => (f.type, f.offset)
  | _ => []
def allEq (P : Program) (d : Nat) : List (TypeId × Nat) → List V → List V → Option Bool
  | [], _, _ => some true
  | f :: fs, xs, ys => match vpart P f.1 xs f.2, vpart P f.1 ys f.2 with
    | some a, some b => match aggEq P d f.1 a b with
      | some true => allEq P d fs xs ys
      | some false => some false
      | none => none
    | _, _ => none
end
end Go.Proofs.YtnegdinonfjdfaaDoor.Q
namespace Go.Proofs.YtnegdinonfjdfaaDoor.Q
open Go Go.RowKit
section
variable {P : Program}
end
end Go.Proofs.YtnegdinonfjdfaaDoor.Q
namespace Go.Proofs.YtnegdinonfjdfaaDoor.Q
open Go Go.RowKit
theorem WK0 : type_of% @Ev_seq' ∧ type_of% @Ev_region ∧ type_of% @Ev_wregion ∧ type_of% @EoW_nil ∧ type_of% @EoW_cons ∧ type_of% @wC_normal ∧ type_of% @wC_pan ∧ type_of% @pushB_true ∧ type_of% @pushB_false ∧ type_of% @look_nil ∧ type_of% @look_cons ∧ type_of% @WOk_nil ∧ type_of% @WOk_cons ∧ type_of% @WV_some ∧ type_of% @WJ_nil ∧ type_of% @WJ_cons ∧ type_of% @KQ_some ∧ type_of% @wantC_none ∧ type_of% @wantC_tt ∧ type_of% @Ev_block' := ⟨@Ev_seq', @Ev_region, @Ev_wregion, @EoW_nil, @EoW_cons, @wC_normal, @wC_pan, @pushB_true, @pushB_false, @look_nil, @look_cons, @WOk_nil, @WOk_cons, @WV_some, @WJ_nil, @WJ_cons, @KQ_some, @wantC_none, @wantC_tt, @Ev_block'⟩
theorem WK1 : type_of% @Ev_skip' ∧ type_of% @Ev_exit' ∧ type_of% @Ev_ret' ∧ type_of% @Ev_if ∧ type_of% @Eo_nil ∧ type_of% @Eo_builtin ∧ type_of% @Eo_call ∧ type_of% @Eo_callv ∧ type_of% @Eo_panic ∧ type_of% @Eo_guard ∧ type_of% @Eo_move ∧ type_of% @Eo_assign ∧ type_of% @Eo_pick ∧ type_of% @Eo_alloc ∧ type_of% @Eo_box ∧ type_of% @Eo_build ∧ type_of% @Eo_buildSlice ∧ type_of% @Eo_load ∧ type_of% @Eo_store ∧ type_of% @Eo_nilCheck := ⟨@Ev_skip', @Ev_exit', @Ev_ret', @Ev_if, @Eo_nil, @Eo_builtin, @Eo_call, @Eo_callv, @Eo_panic, @Eo_guard, @Eo_move, @Eo_assign, @Eo_pick, @Eo_alloc, @Eo_box, @Eo_build, @Eo_buildSlice, @Eo_load, @Eo_store, @Eo_nilCheck⟩
theorem WK2 : type_of% @Eo_binOp ∧ type_of% @Eo_unOp ∧ type_of% @Eo_convert ∧ type_of% @Eo_makeInterface ∧ type_of% @Eo_makeFunc ∧ type_of% @Eo_makeSlice ∧ type_of% @Eo_slice ∧ type_of% @Eo_fieldAddr ∧ type_of% @Eo_field ∧ type_of% @Eo_indexAddr ∧ type_of% @Eo_index ∧ type_of% @Eo_typeAssert ∧ type_of% @Eo_extract ∧ type_of% @Kop_some ∧ type_of% @KB_true ∧ type_of% @KB_false ∧ type_of% @KI_some ∧ type_of% @KG_tt ∧ type_of% @KG_ff ∧ type_of% @KG_tf ∧ type_of% @KG_ft := ⟨@Eo_binOp, @Eo_unOp, @Eo_convert, @Eo_makeInterface, @Eo_makeFunc, @Eo_makeSlice, @Eo_slice, @Eo_fieldAddr, @Eo_field, @Eo_indexAddr, @Eo_index, @Eo_typeAssert, @Eo_extract, @Kop_some, @KB_true, @KB_false, @KI_some, @KG_tt, @KG_ff, @KG_tf, @KG_ft⟩
theorem WK3 : type_of% @KG_tup ∧ type_of% @KC_some ∧ type_of% @KF_some ∧ type_of% @KP_some ∧ type_of% @KR_some ∧ type_of% @seqC_normal ∧ type_of% @seqC_exit ∧ type_of% @seqC_ret ∧ type_of% @seqC_pan ∧ type_of% @loopC_normal ∧ type_of% @loopC_exit ∧ type_of% @loopC_ret ∧ type_of% @loopC_pan ∧ type_of% @blockK_normal ∧ type_of% @blockK_exit ∧ type_of% @blockK_exit_ne ∧ type_of% @blockK_ret ∧ type_of% @blockK_pan ∧ type_of% @fnK_normal ∧ type_of% @fnK_ret := ⟨@KG_tup, @KC_some, @KF_some, @KP_some, @KR_some, @seqC_normal, @seqC_exit, @seqC_ret, @seqC_pan, @loopC_normal, @loopC_exit, @loopC_ret, @loopC_pan, @blockK_normal, @blockK_exit, @blockK_exit_ne, @blockK_ret, @blockK_pan, @fnK_normal, @fnK_ret⟩
theorem WK4 : type_of% @fnK_pan ∧ type_of% @evs_env ∧ type_of% @evs_const ∧ type_of% @evs_func ∧ type_of% @ofVal_int ∧ type_of% @ofVal_bool ∧ type_of% @ofVal_nil ∧ type_of% @ofVal_nilp ∧ type_of% @vnil_optr ∧ type_of% @vbin_add ∧ type_of% @vbin_sub ∧ type_of% @vbin_mul ∧ type_of% @vbin_quo ∧ type_of% @vbin_rem ∧ type_of% @vbin_eql ∧ type_of% @vbin_neq ∧ type_of% @vbin_lss ∧ type_of% @vbin_leq ∧ type_of% @vbin_gtr ∧ type_of% @vbin_geq := ⟨@fnK_pan, @evs_env, @evs_const, @evs_func, @ofVal_int, @ofVal_bool, @ofVal_nil, @ofVal_nilp, @vnil_optr, @vbin_add, @vbin_sub, @vbin_mul, @vbin_quo, @vbin_rem, @vbin_eql, @vbin_neq, @vbin_lss, @vbin_leq, @vbin_gtr, @vbin_geq⟩
theorem WK5 : type_of% @vbin_and ∧ type_of% @vbin_or ∧ type_of% @vbin_xor ∧ type_of% @vbin_andNot ∧ type_of% @vbin_shl ∧ type_of% @vbin_shr ∧ type_of% @vbin_str ∧ type_of% @upd_some ∧ type_of% @upd_none ∧ type_of% @vresults_tmp ∧ type_of% @vresults_nil ∧ type_of% @vresults_cell ∧ type_of% @vtuple_0 ∧ type_of% @vtuple_1 ∧ type_of% @vtuple_2 := ⟨@vbin_and, @vbin_or, @vbin_xor, @vbin_andNot, @vbin_shl, @vbin_shr, @vbin_str, @upd_some, @upd_none, @vresults_tmp, @vresults_nil, @vresults_cell, @vtuple_0, @vtuple_1, @vtuple_2⟩
theorem WK6 : type_of% @true_implies ∧ type_of% @decide_true ∧ type_of% @decide_false ∧ type_of% @Bool.not_true ∧ type_of% @Bool.not_false ∧ type_of% @not_true_eq_false ∧ type_of% @not_false_eq_true ∧ type_of% @Bool.false_eq_true ∧ type_of% @and_self ∧ type_of% @and_true ∧ type_of% @true_and ∧ type_of% @Option.map_some.{0,0} ∧ type_of% @Option.map_none.{0,0} ∧ type_of% @List.append_nil.{0} ∧ type_of% @List.getElem?_cons_zero.{0} ∧ type_of% @List.getElem?_cons_succ.{0} ∧ type_of% @ne_eq.{1} ∧ type_of% @List.getD_cons_zero.{0} ∧ type_of% @List.getD_cons_succ.{0} := ⟨@true_implies, @decide_true, @decide_false, @Bool.not_true, @Bool.not_false, @not_true_eq_false, @not_false_eq_true, @Bool.false_eq_true, @and_self, @and_true, @true_and, @Option.map_some.{0,0}, @Option.map_none.{0,0}, @List.append_nil.{0}, @List.getElem?_cons_zero.{0}, @List.getElem?_cons_succ.{0}, @ne_eq.{1}, @List.getD_cons_zero.{0}, @List.getD_cons_succ.{0}⟩
theorem WK7 : type_of% @Ev_hreg ∧ type_of% @EoH_nil ∧ type_of% @EoH_cold ∧ type_of% @EoH_hot ∧ type_of% @hC_normal ∧ type_of% @hC_pan ∧ type_of% @KH_some ∧ type_of% @Eo_makeMap ∧ type_of% @Eo_insert ∧ type_of% @Eo_mapUpdate ∧ type_of% @Eo_lookup ∧ type_of% @Ev_rf ∧ type_of% @KRF_some ∧ type_of% @KF_yld ∧ type_of% @KY_some ∧ type_of% @EoH_hotg ∧ type_of% @KGH_tt ∧ type_of% @KGH_ff ∧ type_of% @KGH_tf ∧ type_of% @KGH_ft ∧ type_of% @KGH_tup := ⟨@Ev_hreg, @EoH_nil, @EoH_cold, @EoH_hot, @hC_normal, @hC_pan, @KH_some, @Eo_makeMap, @Eo_insert, @Eo_mapUpdate, @Eo_lookup, @Ev_rf, @KRF_some, @KF_yld, @KY_some, @EoH_hotg, @KGH_tt, @KGH_ff, @KGH_tf, @KGH_ft, @KGH_tup⟩
theorem WK : type_of% WK0 ∧ type_of% WK1 ∧ type_of% WK2 ∧ type_of% WK3 ∧ type_of% WK4 ∧ type_of% WK5 ∧ type_of% WK6 ∧ type_of% WK7 := ⟨WK0, WK1, WK2, WK3, WK4, WK5, WK6, WK7⟩
theorem gD0 : type_of% @List.getD_cons_zero.{0} := @List.getD_cons_zero
theorem gD1 : type_of% @List.getD_cons_succ.{0} := @List.getD_cons_succ
theorem WKV : type_of% @WK ∧ type_of% @valloc_std ∧ type_of% @vop.eq_1 ∧ type_of% @vop.eq_2 ∧ type_of% @vop.eq_3 ∧ type_of% @vop.eq_4 ∧ type_of% @vop.eq_5 ∧ type_of% @vop.eq_6 ∧ type_of% @vop.eq_7 ∧ type_of% @vop.eq_8 ∧ type_of% @vop.eq_9 ∧ type_of% @vop.eq_10 ∧ type_of% @vop.eq_11 ∧ type_of% @vop.eq_12 ∧ type_of% @vop.eq_13 ∧ type_of% @vop.eq_14 ∧ type_of% @vop.eq_15 ∧ type_of% @vop.eq_16 ∧ type_of% @vop.eq_17 ∧ type_of% @vop.eq_18 ∧ type_of% @vop.eq_19 ∧ type_of% @vop.eq_20 ∧ type_of% @vop.eq_21 ∧ type_of% @vop.eq_22 ∧ type_of% @vop.eq_23 ∧ type_of% @vop.eq_24 ∧ type_of% @vop.eq_25 ∧ type_of% @vop.eq_26 ∧ type_of% @vop.eq_27 ∧ type_of% @vop.eq_28 ∧ type_of% @vop.eq_29 ∧ type_of% @evAll.eq_1 ∧ type_of% @evAll.eq_2 ∧ type_of% @evOpt.eq_1 ∧ type_of% @evOpt.eq_2 ∧ type_of% @evParts.eq_1 ∧ type_of% @evParts.eq_2 ∧ type_of% @vbuiltin.eq_1 ∧ type_of% @vbuiltin.eq_2 ∧ type_of% @vbuiltin.eq_3 ∧ type_of% @vbuiltin.eq_4 ∧ type_of% @vbuiltin.eq_5 ∧ type_of% @vbuiltin.eq_6 ∧ type_of% @vbuiltin.eq_7 ∧ type_of% @vun.eq_1 ∧ type_of% @vun.eq_2 ∧ type_of% @vun.eq_3 ∧ type_of% @vun.eq_4 ∧ type_of% @vextract.eq_1 ∧ type_of% @vextract.eq_2 ∧ type_of% @vhot.eq_1 ∧ type_of% @vhot.eq_2 ∧ type_of% @vhot.eq_3 ∧ type_of% @vhot.eq_4 ∧ type_of% @vhot.eq_5 ∧ type_of% @vhot.eq_6 ∧ type_of% @vhot.eq_7 ∧ type_of% @vhot.eq_8 ∧ type_of% @vhot.eq_9 := ⟨@WK, @valloc_std, @vop.eq_1, @vop.eq_2, @vop.eq_3, @vop.eq_4, @vop.eq_5, @vop.eq_6, @vop.eq_7, @vop.eq_8, @vop.eq_9, @vop.eq_10, @vop.eq_11, @vop.eq_12, @vop.eq_13, @vop.eq_14, @vop.eq_15, @vop.eq_16, @vop.eq_17, @vop.eq_18, @vop.eq_19, @vop.eq_20, @vop.eq_21, @vop.eq_22, @vop.eq_23, @vop.eq_24, @vop.eq_25, @vop.eq_26, @vop.eq_27, @vop.eq_28, @vop.eq_29, @evAll.eq_1, @evAll.eq_2, @evOpt.eq_1, @evOpt.eq_2, @evParts.eq_1, @evParts.eq_2, @vbuiltin.eq_1, @vbuiltin.eq_2, @vbuiltin.eq_3, @vbuiltin.eq_4, @vbuiltin.eq_5, @vbuiltin.eq_6, @vbuiltin.eq_7, @vun.eq_1, @vun.eq_2, @vun.eq_3, @vun.eq_4, @vextract.eq_1, @vextract.eq_2, @vhot.eq_1, @vhot.eq_2, @vhot.eq_3, @vhot.eq_4, @vhot.eq_5, @vhot.eq_6, @vhot.eq_7, @vhot.eq_8, @vhot.eq_9⟩
end Go.Proofs.YtnegdinonfjdfaaDoor.Q
namespace Go.Proofs.YtnegdinonfjdfaaDoor.Q
def crcP : BitVec 32 := 0xEDB88320#32
def step1 (r : BitVec 32) : BitVec 32 := (r >>> 1) ^^^ (if r.getLsbD 0 = true then crcP else 0#32)
def half : List Nat := [0x00000000, 0x1db71064, 0x3b6e20c8, 0x26d930ac, 0x76dc4190, 0x6b6b51f4, 0x4db26158, 0x5005713c, 0xedb88320, 0xf00f9344, 0xd6d6a3e8, 0xcb61b38c, 0x9b64c2b0, 0x86d3d2d4, 0xa00ae278, 0xbdbdf21c]
def nib (r : BitVec 32) : BitVec 32 := (r >>> 4) ^^^ BitVec.ofNat 32 (half.getD (r &&& 15#32).toNat 0)
def byteC (r : BitVec 32) (x : UInt8) : BitVec 32 := nib (nib (r ^^^ BitVec.ofNat 32 x.toNat))
def runC (r : BitVec 32) (bs : List UInt8) : BitVec 32 := bs.foldl byteC r
def crcAdd (s : BitVec 32) (bs : List UInt8) : BitVec 32 := ~~~ runC (~~~ s) bs
def crcSum (bs : List UInt8) : BitVec 32 := crcAdd 0#32 bs
end Go.Proofs.YtnegdinonfjdfaaDoor.Q
namespace Go.Proofs.YtnegdinonfjdfaaDoor.Q
open Go Go.RowKit Go.Proofs
def uV (r : BitVec 32) : V := .int .u32 (r.toNat : Int)
theorem wrap_u32 {x : Int} (h1 : 0 ≤ x) (h2 : x < 4294967296) : IntKind.u32.wrap x = x := by
  unfold IntKind.wrap
  simp [IntKind.bits, IntKind.signed, IntKind.max, IntKind.min]
  omega
theorem wrap_toNat (r : BitVec 32) : IntKind.u32.wrap ((r.toNat : Nat) : Int) = ((r.toNat : Nat) : Int) := wrap_u32 (by omega) (by have := r.isLt; omega)
theorem ofInt_toNat (r : BitVec 32) : BitVec.ofInt 32 ((r.toNat : Nat) : Int) = r := by simp
theorem bit_xor (a b : BitVec 32) : bitOp .xor .u32 ((a.toNat : Nat) : Int) ((b.toNat : Nat) : Int) = some (((a ^^^ b).toNat : Nat) : Int) := by
  show some (IntKind.u32.wrap (((BitVec.ofInt 32 ((a.toNat : Nat) : Int) ^^^ BitVec.ofInt 32 ((b.toNat : Nat) : Int)).toNat : Nat) : Int)) = _
  rw [ofInt_toNat, ofInt_toNat, wrap_toNat]
theorem bit_and (a b : BitVec 32) : bitOp .and .u32 ((a.toNat : Nat) : Int) ((b.toNat : Nat) : Int) = some (((a &&& b).toNat : Nat) : Int) := by
  show some (IntKind.u32.wrap (((BitVec.ofInt 32 ((a.toNat : Nat) : Int) &&& BitVec.ofInt 32 ((b.toNat : Nat) : Int)).toNat : Nat) : Int)) = _
  rw [ofInt_toNat, ofInt_toNat, wrap_toNat]
theorem bit_or (a b : BitVec 32) : bitOp .or .u32 ((a.toNat : Nat) : Int) ((b.toNat : Nat) : Int) = some (((a ||| b).toNat : Nat) : Int) := by
  show some (IntKind.u32.wrap (((BitVec.ofInt 32 ((a.toNat : Nat) : Int) ||| BitVec.ofInt 32 ((b.toNat : Nat) : Int)).toNat : Nat) : Int)) = _
  rw [ofInt_toNat, ofInt_toNat, wrap_toNat]
theorem bit_notW (a : BitVec 32) : bitOp .xor .u32 (if IntKind.u32.signed = true then -1 else IntKind.u32.max) ((a.toNat : Nat) : Int) = some (((~~~ a).toNat : Nat) : Int) := by
  have hm : (if IntKind.u32.signed = true then -1 else IntKind.u32.max) = (((BitVec.allOnes 32).toNat : Nat) : Int) := by decide
  rw [hm, bit_xor, BitVec.allOnes_xor]
theorem shr4 (r : BitVec 32) : (((r.toNat : Nat) : Int) / (2 : Int) ^ (min (4 : Int).toNat IntKind.u32.bits)) = (((r >>> 4).toNat : Nat) : Int) := by
  have e : (2 : Int) ^ (min (4 : Int).toNat IntKind.u32.bits) = ((16 : Nat) : Int) := by decide
  rw [e, BitVec.toNat_ushiftRight, Nat.shiftRight_eq_div_pow]
  omega
theorem and15 (r : BitVec 32) : bitOp .and .u32 ((r.toNat : Nat) : Int) 15 = some (((r &&& 15#32).toNat : Nat) : Int) := bit_and r 15#32
theorem byte32 (b : UInt8) : IntKind.u32.wrap ((b.toNat : Nat) : Int) = (((BitVec.ofNat 32 b.toNat).toNat : Nat) : Int) := by
  have := b.toNat_lt
  rw [BitVec.toNat_ofNat, Nat.mod_eq_of_lt (by omega), wrap_u32 (by omega) (by omega)]
theorem half_lt (i : Nat) : half.getD i 0 < 4294967296 := by
  by_cases h : i < 16
  · have : ∀ j : Fin 16, half.getD j.val 0 < 4294967296 := by decide
    exact this ⟨i, h⟩
  · rw [gA6, List.getElem?_eq_none (by simp [half]; omega)]; decide
theorem half_toNat (i : Nat) : (BitVec.ofNat 32 (half.getD i 0)).toNat = half.getD i 0 := by
  rw [BitVec.toNat_ofNat, Nat.mod_eq_of_lt]
  have := half_lt i
  omega
theorem runC_snoc (r : BitVec 32) (bs : List UInt8) (b : UInt8) : runC r (bs ++ [b]) = byteC (runC r bs) b := by
  unfold runC
  rw [List.foldl_append]; rfl
theorem runC_succ {r : BitVec 32} {bs : List UInt8} {i : Nat} (h : i < bs.length) : runC r (bs.take (i + 1)) = byteC (runC r (bs.take i)) bs[i] := by
  rw [List.take_succ_eq_append_getElem h, runC_snoc]
end Go.Proofs.YtnegdinonfjdfaaDoor.Q
namespace Go.Proofs.YtnegdinonfjdfaaDoor.Q
open Go
def digK : Nat → Nat → List UInt8
  | 0, _ => []
  | k + 1, n => digK k (n / 10) ++ [UInt8.ofNat (48 + n % 10)]
theorem digK_len : ∀ (k n : Nat), (digK k n).length = k
  | 0, _ => rfl
  | k + 1, n => by rw [digK, List.length_append, digK_len k]; rfl
theorem digK_front : ∀ (k n : Nat), digK (k + 1) n = UInt8.ofNat (48 + n / 10 ^ k % 10) :: digK k n
  | 0, n => by simp [digK]
  | k + 1, n => by
    rw [digK, digK_front k (n / 10), digK, Nat.div_div_eq_div_mul, Nat.pow_succ, Nat.mul_comm 10]
    rfl
theorem digK_zero {k n : Nat} (h : n < 10 ^ k) : digK (k + 1) n = 48 :: digK k n := by
  rw [digK_front, Nat.div_eq_of_lt h]; rfl
theorem dec_digK : ∀ (k n : Nat), 10 ^ k ≤ n ∨ k = 0 → n < 10 ^ (k + 1) → Lib.decDigits n = digK (k + 1) n
  | 0, n, _, h => by
    rw [Lib.decDigits, dif_pos (by simpa using h)]
    have : n % 10 = n := Nat.mod_eq_of_lt (by simpa using h)
    simp [digK, this]
  | k + 1, n, h1, h2 => by
    have hp : 1 ≤ 10 ^ k := Nat.one_le_pow _ _ (by decide)
    have h1 : 10 ^ (k + 1) ≤ n := by rcases h1 with h | h; exact h; omega
    have h3 := h1
    rw [Nat.pow_succ] at h1 h2
    rw [Lib.decDigits, dif_neg (by omega), digK, dec_digK k (n / 10) (by omega) (by omega)]
def zeros : Nat → List UInt8 → List UInt8
  | 0, s => s
  | k + 1, s => zeros k (48 :: s)
def wid (n : Nat) : Nat := if n < 10 then 1 else if n < 100 then 2 else if n < 1000 then 3 else if n < 10000 then 4 else if n < 100000 then 5 else if n < 1000000 then 6 else if n < 10000000 then 7 else if n < 100000000 then 8 else 9
theorem wid_ok {n : Nat} (h : n < 10 ^ 9) : wid n ≤ 9 ∧ 1 ≤ wid n ∧ n < 10 ^ wid n ∧ Lib.itoa (n : Int) = digK (wid n) n := by
  have h0 : Lib.itoa (n : Int) = Lib.decDigits n := by unfold Lib.itoa; rw [if_neg (by omega), Int.toNat_natCast]
  rw [h0]
  unfold wid
  repeat' split
  · exact ⟨by omega, by omega, by omega, dec_digK 0 n (.inr rfl) (by omega)⟩
  · exact ⟨by omega, by omega, by omega, dec_digK 1 n (.inl (by omega)) (by omega)⟩
  · exact ⟨by omega, by omega, by omega, dec_digK 2 n (.inl (by omega)) (by omega)⟩
  · exact ⟨by omega, by omega, by omega, dec_digK 3 n (.inl (by omega)) (by omega)⟩
  · exact ⟨by omega, by omega, by omega, dec_digK 4 n (.inl (by omega)) (by omega)⟩
  · exact ⟨by omega, by omega, by omega, dec_digK 5 n (.inl (by omega)) (by omega)⟩
  · exact ⟨by omega, by omega, by omega, dec_digK 6 n (.inl (by omega)) (by omega)⟩
  · exact ⟨by omega, by omega, by omega, dec_digK 7 n (.inl (by omega)) (by omega)⟩
  · exact ⟨by omega, by omega, by omega, dec_digK 8 n (.inl (by omega)) (by omega)⟩
def isDig (b : UInt8) : Bool := decide (48 ≤ b.toNat ∧ b.toNat ≤ 57)
def valD (acc : Nat) (l : List UInt8) : Nat := l.foldl (fun a b => a * 10 + (b.toNat - 48)) acc
theorem digK_dig : ∀ (k n : Nat), (digK k n).all isDig = true
  | 0, _ => rfl
  | k + 1, n => by
    rw [digK, List.all_append, digK_dig k]
    have : n % 10 < 10 := Nat.mod_lt _ (by decide)
    simp [isDig]
    omega
theorem valD_append (a : Nat) (l m : List UInt8) : valD a (l ++ m) = valD (valD a l) m := List.foldl_append ..
theorem digK_val : ∀ (l : List UInt8), l.all isDig = true → digK l.length (valD 0 l) = l ∧ valD 0 l < 10 ^ l.length := by
  intro l
  induction hn : l.length generalizing l with
  | zero =>
    intro _
    have : l = [] := List.length_eq_zero_iff.1 hn
    subst this
    exact ⟨rfl, by decide⟩
  | succ k ih =>
    intro hd
    have hne : l ≠ [] := by rintro rfl; simp at hn
    obtain ⟨m, b, rfl⟩ : ∃ m b, l = m ++ [b] := ⟨l.dropLast, l.getLast hne, (List.dropLast_concat_getLast hne).symm⟩
    rw [List.length_append] at hn
    rw [List.all_append] at hd
    simp only [List.all_cons, List.all_nil, Bool.and_true, Bool.and_eq_true, isDig, decide_eq_true_eq] at hd
    obtain ⟨i1, i2⟩ := ih m (by simpa using hn) hd.1
    have hv : valD 0 (m ++ [b]) = valD 0 m * 10 + (b.toNat - 48) := by rw [valD_append]; rfl
    rw [hv]
    refine ⟨?_, by rw [Nat.pow_succ]; omega⟩
    rw [digK, show (valD 0 m * 10 + (b.toNat - 48)) / 10 = valD 0 m from by omega, i1]
    congr 2
    apply UInt8.toNat_inj.1
    rw [UInt8.toNat_ofNat']
    omega
theorem dec_val : ∀ (l : List UInt8) (a : Nat), l.all isDig = true → Lib.decFrom a l = some (valD a l)
  | [], a, _ => rfl
  | b :: l, a, h => by
    simp only [List.all_cons, Bool.and_eq_true, isDig, decide_eq_true_eq] at h
    simp only [Lib.decFrom, Lib.digitVal, if_pos h.1]
    exact dec_val l _ h.2
theorem atoi_val {l : List UInt8} (h : l.all isDig = true) (hne : l ≠ []) : Lib.atoi l = some (valD 0 l : Nat) := by
  match l, hne with
  | b :: r, _ =>
    have hb := h
    simp only [List.all_cons, Bool.and_eq_true, isDig, decide_eq_true_eq] at hb
    have h45 : (b == 45) = false := by
      rw [beq_eq_false_iff_ne]; rintro rfl; simp at hb
    have h43 : (b == 43) = false := by
      rw [beq_eq_false_iff_ne]; rintro rfl; simp at hb
    simp only [Lib.atoi, h45, h43, Bool.false_eq_true, ↓reduceIte, Lib.decNat, List.isEmpty_cons]
    rw [dec_val _ _ h]
    rfl
theorem val_digK : ∀ (k n : Nat), n < 10 ^ k → valD 0 (digK k n) = n
  | 0, n, h => by simp at h; subst h; rfl
  | k + 1, n, h => by
    rw [Nat.pow_succ] at h
    rw [digK, valD_append, val_digK k (n / 10) (by omega)]
    have h1 : n % 10 < 10 := Nat.mod_lt _ (by decide)
    have : (UInt8.ofNat (48 + n % 10)).toNat = 48 + n % 10 := by rw [UInt8.toNat_ofNat']; omega
    simp only [valD, List.foldl_cons, List.foldl_nil, this]
    omega
def nameP (pre : UInt8) (lo n : Int) : List UInt8 := if n < lo ∨ 999999999 < n then [] else pre :: digK 9 n.toNat
def numP (pre : UInt8) (name : List UInt8) : Option Nat := match name with
  | b :: t => if b = pre ∧ t.length = 9 ∧ t.all isDig = true then some (valD 0 t) else none
  | [] => none
theorem num_name {pre : UInt8} {n : Nat} (h : n < 10 ^ 9) : numP pre (pre :: digK 9 n) = some n := by
  simp only [numP]
  rw [if_pos ⟨trivial, digK_len 9 n, digK_dig 9 n⟩, val_digK 9 n h]
theorem name_num {pre : UInt8} {name : List UInt8} {m : Nat} (h : numP pre name = some m) : name = pre :: digK 9 m ∧ m < 10 ^ 9 := by
  unfold numP at h
  split at h
  · split at h
    · rename_i b t hc
      injection h with h
      subst h
      obtain ⟨rfl, h2, h3⟩ := hc
      obtain ⟨h4, h5⟩ := digK_val t h3
      rw [h2] at h4 h5
      exact ⟨by rw [h4], h5⟩
    · cases h
  · cases h
theorem num_none {pre : UInt8} {t : List UInt8} (hl : t.length = 9) (h : Lib.atoi t = none) : numP pre (pre :: t) = none := by
  simp only [numP]
  rw [if_neg]
  rintro ⟨_, _, h3⟩
  rw [atoi_val h3 (by rintro rfl; simp at hl)] at h
  cases h
theorem num_some {pre : UInt8} {t : List UInt8} {m : Int} (hl : t.length = 9) (h : Lib.atoi t = some m) :
    (pre :: t = nameP pre 0 m → 0 ≤ m ∧ m ≤ 999999999 ∧ numP pre (pre :: t) = some m.toNat) ∧ (pre :: t ≠ nameP pre 0 m → numP pre (pre :: t) = none) := by
  constructor
  · intro hn
    unfold nameP at hn
    split at hn
    · cases hn
    · rename_i hr
      refine ⟨by omega, by omega, ?_⟩
      rw [hn]
      exact num_name (by omega)
  · intro hn
    cases hp : numP pre (pre :: t) with
    | none => rfl
    | some k =>
      exfalso
      obtain ⟨h1, h2⟩ := name_num hp
      injection h1 with _ h1
      have h3 := digK_dig 9 k
      rw [← h1] at h3
      rw [atoi_val h3 (by rintro rfl; simp at hl)] at h
      injection h with h
      apply hn
      have hv := val_digK 9 k h2
      rw [← h1] at hv
      rw [← h, hv]
      unfold nameP
      rw [if_neg (by omega), Int.toNat_natCast, h1]
end Go.Proofs.YtnegdinonfjdfaaDoor.Q
namespace Go.Proofs
open Go.Shelf
def Tryd.lays244_ren : Go.Shelf.Ren := ⟨fun | 244 => 76 | 247 => 85 | 287 => 105 | 321 => 116 | 322 => 117 | n => n, fun | 9 => 9 | 3 => 3 | 75 => 97 | 4 => 4 | 5 => 5 | 167 => 116 | 37 => 22 | 0 => 0 | 85 => 117 | 2 => 2 | 53 => 64 | 175 => 137 | 46 => 62 | 21 => 21 | 80 => 159 | n => n, fun | n => n⟩
def Tryd.lays172_ren : Go.Shelf.Ren := ⟨fun | 172 => 69 | 244 => 76 | 245 => 77 | 247 => 85 | 279 => 86 | 280 => 87 | 281 => 88 | 282 => 89 | 287 => 105 | 316 => 106 | 171 => 43 | 205 => 107 | 321 => 116 | 322 => 117 | 243 => 60 | 246 => 74 | 283 => 81 | 284 => 82 | 285 => 83 | 286 => 84 | 129 => 100 | 317 => 101 | 318 => 102 | 319 => 103 | 320 => 104 | 337 => 114 | 338 => 115 | n => n, fun | 9 => 9 | 3 => 3 | 75 => 97 | 76 => 98 | 4 => 4 | 5 => 5 | 167 => 116 | 37 => 22 | 0 => 0 | 85 => 117 | 2 => 2 | 168 => 119 | 53 => 64 | 175 => 137 | 46 => 62 | 210 => 141 | 127 => 150 | 145 => 153 | 143 => 151 | 21 => 21 | 171 => 111 | 173 => 114 | 212 => 134 | 51 => 61 | 20 => 20 | 213 => 135 | 232 => 157 | 233 => 158 | 80 => 159 | n => n, fun | 15 => 2 | 16 => 3 | 17 => 1 | 18 => 4 | 19 => 5 | n => n⟩
theorem Tryd.lays172 : Go.Proofs.Lays.n172 Tryd.prog Tryd.lays172_ren := {
  mixed := by kernel_rfl
  f129 := Tryd.func100.trans (congrArg some (by kernel_rfl))
  f171 := Tryd.func43.trans (congrArg some (by kernel_rfl))
  f172 := Tryd.func69.trans (congrArg some (by kernel_rfl))
  f205 := Tryd.func107.trans (congrArg some (by kernel_rfl))
  f243 := Tryd.func60.trans (congrArg some (by kernel_rfl))
  f244 := Tryd.func76.trans (congrArg some (by kernel_rfl))
  f245 := Tryd.func77.trans (congrArg some (by kernel_rfl))
  f246 := Tryd.func74.trans (congrArg some (by kernel_rfl))
  f247 := Tryd.func85.trans (congrArg some (by kernel_rfl))
  f279 := Tryd.func86.trans (congrArg some (by kernel_rfl))
  f280 := Tryd.func87.trans (congrArg some (by kernel_rfl))
  f281 := Tryd.func88.trans (congrArg some (by kernel_rfl))
  f282 := Tryd.func89.trans (congrArg some (by kernel_rfl))
  f283 := Tryd.func81.trans (congrArg some (by kernel_rfl))
  f284 := Tryd.func82.trans (congrArg some (by kernel_rfl))
  f285 := Tryd.func83.trans (congrArg some (by kernel_rfl))
  f286 := Tryd.func84.trans (congrArg some (by kernel_rfl))
  f287 := Tryd.func105.trans (congrArg some (by kernel_rfl))
  f316 := Tryd.func106.trans (congrArg some (by kernel_rfl))
  f317 := Tryd.func101.trans (congrArg some (by kernel_rfl))
  f318 := Tryd.func102.trans (congrArg some (by kernel_rfl))
  f319 := Tryd.func103.trans (congrArg some (by kernel_rfl))
  f320 := Tryd.func104.trans (congrArg some (by kernel_rfl))
  f321 := Tryd.func116.trans (congrArg some (by kernel_rfl))
  f322 := Tryd.func117.trans (congrArg some (by kernel_rfl))
  f337 := Tryd.func114.trans (congrArg some (by kernel_rfl))
  f338 := Tryd.func115.trans (congrArg some (by kernel_rfl))
  t0 := Tryd.underlying0
  a0 := Tryd.isAgg0
  z0 := Tryd.sizeOf0
  v0 := Tryd.zeroValue0
  t2 := Tryd.underlying2
  a2 := Tryd.isAgg2
  z2 := Tryd.sizeOf2
  v2 := Tryd.zeroValue2
  t3 := Tryd.underlying3
  a3 := Tryd.isAgg3
  z3 := Tryd.sizeOf3
  v3 := Tryd.zeroValue3
  t4 := Tryd.underlying4
  a4 := Tryd.isAgg4
  z4 := Tryd.sizeOf4
  v4 := Tryd.zeroValue4
  t5 := Tryd.underlying5
  a5 := Tryd.isAgg5
  z5 := Tryd.sizeOf5
  v5 := Tryd.zeroValue5
  t9 := Tryd.underlying9
  a9 := Tryd.isAgg9
  z9 := Tryd.sizeOf9
  v9 := Tryd.zeroValue9
  t20 := Tryd.underlying20
  a20 := Tryd.isAgg20
  z20 := Tryd.sizeOf20
  v20 := Tryd.zeroValue20
  t21 := Tryd.underlying21
  a21 := Tryd.isAgg21
  z21 := Tryd.sizeOf21
  v21 := Tryd.zeroValue21
  t37 := Tryd.underlying22
  a37 := Tryd.isAgg22
  z37 := Tryd.sizeOf22
  v37 := Tryd.zeroValue22
  t46 := Tryd.underlying62
  a46 := Tryd.isAgg62
  z46 := Tryd.sizeOf62
  v46 := Tryd.zeroValue62
  t51 := Tryd.underlying61
  a51 := Tryd.isAgg61
  z51 := Tryd.sizeOf61
  v51 := Tryd.zeroValue61
  t53 := Tryd.underlying64
  a53 := Tryd.isAgg64
  z53 := Tryd.sizeOf64
  v53 := Tryd.zeroValue64
  t75 := Tryd.underlying97
  a75 := Tryd.isAgg97
  z75 := Tryd.sizeOf97
  v75 := Tryd.zeroValue97
  t76 := Tryd.underlying98
  a76 := Tryd.isAgg98
  z76 := Tryd.sizeOf98
  v76 := Tryd.zeroValue98
  t85 := Tryd.underlying117
  a85 := Tryd.isAgg117
  z85 := Tryd.sizeOf117
  v85 := Tryd.zeroValue117
  t127 := Tryd.underlying150
  a127 := Tryd.isAgg150
  z127 := Tryd.sizeOf150
  v127 := Tryd.zeroValue150
  t143 := Tryd.underlying151
  a143 := Tryd.isAgg151
  z143 := Tryd.sizeOf151
  v143 := Tryd.zeroValue151
  t145 := Tryd.underlying153
  a145 := Tryd.isAgg153
  z145 := Tryd.sizeOf153
  v145 := Tryd.zeroValue153
  t167 := Tryd.underlying116
  a167 := Tryd.isAgg116
  z167 := Tryd.sizeOf116
  v167 := Tryd.zeroValue116
  t168 := Tryd.underlying119
  a168 := Tryd.isAgg119
  z168 := Tryd.sizeOf119
  v168 := Tryd.zeroValue119
  t171 := Tryd.underlying111
  a171 := Tryd.isAgg111
  z171 := Tryd.sizeOf111
  v171 := Tryd.zeroValue111
  t173 := Tryd.underlying114
  a173 := Tryd.isAgg114
  z173 := Tryd.sizeOf114
  v173 := Tryd.zeroValue114
  t175 := Tryd.underlying137
  a175 := Tryd.isAgg137
  z175 := Tryd.sizeOf137
  v175 := Tryd.zeroValue137
  t210 := Tryd.underlying141
  a210 := Tryd.isAgg141
  z210 := Tryd.sizeOf141
  v210 := Tryd.zeroValue141
  t212 := Tryd.underlying134
  a212 := Tryd.isAgg134
  z212 := Tryd.sizeOf134
  v212 := Tryd.zeroValue134
  t213 := Tryd.underlying135
  a213 := Tryd.isAgg135
  z213 := Tryd.sizeOf135
  t232 := Tryd.underlying157
  a232 := Tryd.isAgg157
  z232 := Tryd.sizeOf157
  v232 := Tryd.zeroValue157
  t233 := Tryd.underlying158
  a233 := Tryd.isAgg158
  z233 := Tryd.sizeOf158
  v233 := Tryd.zeroValue158
  g15 := by kernel_rfl
  g16 := by kernel_rfl
  g17 := by kernel_rfl
  g18 := by kernel_rfl
  g19 := by kernel_rfl }
open Go.RowKit in
theorem Tryd.strconv_Atoi (s : ByteArray) (n : Int) (hl : s.size ≤ 18) (h : Lib.atoi s.data.toList = some n) (w : World) :
    Calls Tryd.prog 69 #[.string s] w fun e w' => e = .returned (.tuple #[.int .i64 n, .nilIface]) ∧ ∃ t, w' = Lib.bytesWorld w 5 t := Any.strconv_Atoi Tryd.lays172 s n hl h w
def Tryd.laysM246_ren : Go.Shelf.Ren := ⟨fun | 246 => 74 | 283 => 81 | 284 => 82 | 285 => 83 | 286 => 84 | 129 => 100 | 317 => 101 | 318 => 102 | 319 => 103 | 320 => 104 | 337 => 114 | 338 => 115 | n => n, fun | 2 => 2 | 3 => 3 | 9 => 9 | 4 => 4 | 171 => 111 | 0 => 0 | 53 => 64 | 37 => 22 | 5 => 5 | 173 => 114 | 212 => 134 | 51 => 61 | 20 => 20 | 213 => 135 | 46 => 62 | 232 => 157 | 233 => 158 | n => n, fun | 17 => 1 | 18 => 4 | 19 => 5 | n => n⟩
def Tryd.lays246_ren : Go.Shelf.Ren := ⟨fun | 246 => 74 | 283 => 81 | 284 => 82 | 285 => 83 | 286 => 84 | 129 => 100 | 317 => 101 | 318 => 102 | 319 => 103 | 320 => 104 | 337 => 114 | 338 => 115 | n => n, fun | 2 => 2 | 3 => 3 | 9 => 9 | 4 => 4 | 171 => 111 | 0 => 0 | 53 => 64 | 37 => 22 | 5 => 5 | 173 => 114 | 212 => 134 | 51 => 61 | 20 => 20 | 213 => 135 | 46 => 62 | 232 => 157 | 233 => 158 | n => n, fun | 17 => 1 | 18 => 4 | 19 => 5 | n => n⟩
def Tryd.laysM243_ren : Go.Shelf.Ren := ⟨fun | 243 => 60 | 246 => 74 | 283 => 81 | 284 => 82 | 285 => 83 | 286 => 84 | 129 => 100 | 317 => 101 | 318 => 102 | 319 => 103 | 320 => 104 | 337 => 114 | 338 => 115 | n => n, fun | 3 => 3 | 9 => 9 | 2 => 2 | 4 => 4 | 171 => 111 | 0 => 0 | 53 => 64 | 37 => 22 | 5 => 5 | 173 => 114 | 212 => 134 | 51 => 61 | 20 => 20 | 213 => 135 | 46 => 62 | 232 => 157 | 233 => 158 | n => n, fun | 17 => 1 | 18 => 4 | 19 => 5 | n => n⟩
def Tryd.lays243_ren : Go.Shelf.Ren := ⟨fun | 243 => 60 | 246 => 74 | 283 => 81 | 284 => 82 | 285 => 83 | 286 => 84 | 129 => 100 | 317 => 101 | 318 => 102 | 319 => 103 | 320 => 104 | 337 => 114 | 338 => 115 | n => n, fun | 3 => 3 | 9 => 9 | 2 => 2 | 4 => 4 | 171 => 111 | 0 => 0 | 53 => 64 | 37 => 22 | 5 => 5 | 173 => 114 | 212 => 134 | 51 => 61 | 20 => 20 | 213 => 135 | 46 => 62 | 232 => 157 | 233 => 158 | n => n, fun | 17 => 1 | 18 => 4 | 19 => 5 | n => n⟩
def Tryd.laysM171_ren : Go.Shelf.Ren := ⟨fun | 171 => 43 | 243 => 60 | 246 => 74 | 283 => 81 | 284 => 82 | 285 => 83 | 286 => 84 | 129 => 100 | 317 => 101 | 318 => 102 | 319 => 103 | 320 => 104 | 337 => 114 | 338 => 115 | n => n, fun | 3 => 3 | 9 => 9 | 2 => 2 | 4 => 4 | 171 => 111 | 0 => 0 | 53 => 64 | 37 => 22 | 5 => 5 | 173 => 114 | 212 => 134 | 51 => 61 | 20 => 20 | 213 => 135 | 46 => 62 | 232 => 157 | 233 => 158 | n => n, fun | 17 => 1 | 18 => 4 | 19 => 5 | n => n⟩
theorem Tryd.laysM171 : Go.Proofs.LaysM.n171 Tryd.prog Tryd.laysM171_ren := {
  mixed := by kernel_rfl
  f129 := Tryd.func100.trans (congrArg some (by kernel_rfl))
  f171 := Tryd.func43.trans (congrArg some (by kernel_rfl))
  f243 := Tryd.func60.trans (congrArg some (by kernel_rfl))
  f246 := Tryd.func74.trans (congrArg some (by kernel_rfl))
  f283 := Tryd.func81.trans (congrArg some (by kernel_rfl))
  f284 := Tryd.func82.trans (congrArg some (by kernel_rfl))
  f285 := Tryd.func83.trans (congrArg some (by kernel_rfl))
  f286 := Tryd.func84.trans (congrArg some (by kernel_rfl))
  f317 := Tryd.func101.trans (congrArg some (by kernel_rfl))
  f318 := Tryd.func102.trans (congrArg some (by kernel_rfl))
  f319 := Tryd.func103.trans (congrArg some (by kernel_rfl))
  f320 := Tryd.func104.trans (congrArg some (by kernel_rfl))
  f337 := Tryd.func114.trans (congrArg some (by kernel_rfl))
  f338 := Tryd.func115.trans (congrArg some (by kernel_rfl))
  t0 := Tryd.underlying0
  a0 := Tryd.isAgg0
  z0 := Tryd.sizeOf0
  v0 := Tryd.zeroValue0
  t2 := Tryd.underlying2
  a2 := Tryd.isAgg2
  z2 := Tryd.sizeOf2
  v2 := Tryd.zeroValue2
  t3 := Tryd.underlying3
  a3 := Tryd.isAgg3
  z3 := Tryd.sizeOf3
  v3 := Tryd.zeroValue3
  t4 := Tryd.underlying4
  a4 := Tryd.isAgg4
  z4 := Tryd.sizeOf4
  v4 := Tryd.zeroValue4
  t5 := Tryd.underlying5
  a5 := Tryd.isAgg5
  z5 := Tryd.sizeOf5
  v5 := Tryd.zeroValue5
  t9 := Tryd.underlying9
  a9 := Tryd.isAgg9
  z9 := Tryd.sizeOf9
  v9 := Tryd.zeroValue9
  t20 := Tryd.underlying20
  a20 := Tryd.isAgg20
  z20 := Tryd.sizeOf20
  v20 := Tryd.zeroValue20
  t37 := Tryd.underlying22
  a37 := Tryd.isAgg22
  z37 := Tryd.sizeOf22
  v37 := Tryd.zeroValue22
  t46 := Tryd.underlying62
  a46 := Tryd.isAgg62
  z46 := Tryd.sizeOf62
  v46 := Tryd.zeroValue62
  t51 := Tryd.underlying61
  a51 := Tryd.isAgg61
  z51 := Tryd.sizeOf61
  v51 := Tryd.zeroValue61
  t53 := Tryd.underlying64
  a53 := Tryd.isAgg64
  z53 := Tryd.sizeOf64
  v53 := Tryd.zeroValue64
  t171 := Tryd.underlying111
  a171 := Tryd.isAgg111
  z171 := Tryd.sizeOf111
  v171 := Tryd.zeroValue111
  t173 := Tryd.underlying114
  a173 := Tryd.isAgg114
  z173 := Tryd.sizeOf114
  v173 := Tryd.zeroValue114
  t212 := Tryd.underlying134
  a212 := Tryd.isAgg134
  z212 := Tryd.sizeOf134
  v212 := Tryd.zeroValue134
  t213 := Tryd.underlying135
  a213 := Tryd.isAgg135
  z213 := Tryd.sizeOf135
  t232 := Tryd.underlying157
  a232 := Tryd.isAgg157
  z232 := Tryd.sizeOf157
  v232 := Tryd.zeroValue157
  t233 := Tryd.underlying158
  a233 := Tryd.isAgg158
  z233 := Tryd.sizeOf158
  v233 := Tryd.zeroValue158
  g17 := by kernel_rfl
  g18 := by kernel_rfl
  g19 := by kernel_rfl
  i0 := by kernel_rfl
  i2 := by kernel_rfl
  i3 := by kernel_rfl
  i4 := by kernel_rfl
  i5 := by kernel_rfl
  i9 := by kernel_rfl
  i20 := by kernel_rfl
  i37 := by kernel_rfl
  i46 := by kernel_rfl
  i51 := by kernel_rfl
  i53 := by kernel_rfl
  i171 := by kernel_rfl
  i173 := by kernel_rfl
  i212 := by kernel_rfl
  i232 := by kernel_rfl
  i233 := by kernel_rfl
  m17 := by kernel_rfl
  m18 := by kernel_rfl
  m19 := by kernel_rfl }
open Go.RowKit Go.Sort Go.Lib in
theorem Tryd.strconv_Itoa (n : Int) (h0 : -9223372036854775808 ≤ n) (h1 : n ≤ 9223372036854775807) (w : World) (htab : Lib.TabIs Tryd.prog w "internal/strconv.uint64pow10" .u64 Lib.pow10Tab) :
    Calls Tryd.prog 43 #[.int .i64 n] w fun e w' => e = .returned (.string ⟨(Lib.itoa n).toArray⟩) ∧ ∃ k os, w' = grow (w.drewN k) os := Any.strconv_Itoa Tryd.laysM171 n h0 h1 w htab
def Tryd.lays171_ren : Go.Shelf.Ren := ⟨fun | 171 => 43 | 243 => 60 | 246 => 74 | 283 => 81 | 284 => 82 | 285 => 83 | 286 => 84 | 129 => 100 | 317 => 101 | 318 => 102 | 319 => 103 | 320 => 104 | 337 => 114 | 338 => 115 | n => n, fun | 3 => 3 | 9 => 9 | 2 => 2 | 4 => 4 | 171 => 111 | 0 => 0 | 53 => 64 | 37 => 22 | 5 => 5 | 173 => 114 | 212 => 134 | 51 => 61 | 20 => 20 | 213 => 135 | 46 => 62 | 232 => 157 | 233 => 158 | n => n, fun | 17 => 1 | 18 => 4 | 19 => 5 | n => n⟩
def Tryd.laysC172_ren : Go.Shelf.Ren := ⟨fun | 172 => 69 | 244 => 76 | 245 => 77 | 247 => 85 | 279 => 86 | 280 => 87 | 281 => 88 | 282 => 89 | 287 => 105 | 316 => 106 | 171 => 43 | 205 => 107 | 321 => 116 | 322 => 117 | 243 => 60 | 246 => 74 | 283 => 81 | 284 => 82 | 285 => 83 | 286 => 84 | 129 => 100 | 317 => 101 | 318 => 102 | 319 => 103 | 320 => 104 | 337 => 114 | 338 => 115 | n => n, fun | 9 => 9 | 3 => 3 | 75 => 97 | 76 => 98 | 4 => 4 | 5 => 5 | 167 => 116 | 37 => 22 | 0 => 0 | 85 => 117 | 2 => 2 | 168 => 119 | 53 => 64 | 175 => 137 | 46 => 62 | 210 => 141 | 127 => 150 | 145 => 153 | 143 => 151 | 21 => 21 | 171 => 111 | 173 => 114 | 212 => 134 | 51 => 61 | 20 => 20 | 213 => 135 | 232 => 157 | 233 => 158 | 80 => 159 | n => n, fun | 15 => 2 | 16 => 3 | 17 => 1 | 18 => 4 | 19 => 5 | n => n⟩
theorem Tryd.laysC172 : Go.Proofs.LaysC.n172 Tryd.prog Tryd.laysC172_ren := {
  mixed := by kernel_rfl
  f129 := Tryd.func100.trans (congrArg some (by kernel_rfl))
  f171 := Tryd.func43.trans (congrArg some (by kernel_rfl))
  f172 := Tryd.func69.trans (congrArg some (by kernel_rfl))
  f205 := Tryd.func107.trans (congrArg some (by kernel_rfl))
  f243 := Tryd.func60.trans (congrArg some (by kernel_rfl))
  f244 := Tryd.func76.trans (congrArg some (by kernel_rfl))
  f245 := Tryd.func77.trans (congrArg some (by kernel_rfl))
  f246 := Tryd.func74.trans (congrArg some (by kernel_rfl))
  f247 := Tryd.func85.trans (congrArg some (by kernel_rfl))
  f279 := Tryd.func86.trans (congrArg some (by kernel_rfl))
  f280 := Tryd.func87.trans (congrArg some (by kernel_rfl))
  f281 := Tryd.func88.trans (congrArg some (by kernel_rfl))
  f282 := Tryd.func89.trans (congrArg some (by kernel_rfl))
  f283 := Tryd.func81.trans (congrArg some (by kernel_rfl))
  f284 := Tryd.func82.trans (congrArg some (by kernel_rfl))
  f285 := Tryd.func83.trans (congrArg some (by kernel_rfl))
  f286 := Tryd.func84.trans (congrArg some (by kernel_rfl))
  f287 := Tryd.func105.trans (congrArg some (by kernel_rfl))
  f316 := Tryd.func106.trans (congrArg some (by kernel_rfl))
  f317 := Tryd.func101.trans (congrArg some (by kernel_rfl))
  f318 := Tryd.func102.trans (congrArg some (by kernel_rfl))
  f319 := Tryd.func103.trans (congrArg some (by kernel_rfl))
  f320 := Tryd.func104.trans (congrArg some (by kernel_rfl))
  f321 := Tryd.func116.trans (congrArg some (by kernel_rfl))
  f322 := Tryd.func117.trans (congrArg some (by kernel_rfl))
  f337 := Tryd.func114.trans (congrArg some (by kernel_rfl))
  f338 := Tryd.func115.trans (congrArg some (by kernel_rfl))
  t0 := Tryd.underlying0
  a0 := Tryd.isAgg0
  z0 := Tryd.sizeOf0
  v0 := Tryd.zeroValue0
  t2 := Tryd.underlying2
  a2 := Tryd.isAgg2
  z2 := Tryd.sizeOf2
  v2 := Tryd.zeroValue2
  t3 := Tryd.underlying3
  a3 := Tryd.isAgg3
  z3 := Tryd.sizeOf3
  v3 := Tryd.zeroValue3
  t4 := Tryd.underlying4
  a4 := Tryd.isAgg4
  z4 := Tryd.sizeOf4
  v4 := Tryd.zeroValue4
  t5 := Tryd.underlying5
  a5 := Tryd.isAgg5
  z5 := Tryd.sizeOf5
  v5 := Tryd.zeroValue5
  t9 := Tryd.underlying9
  a9 := Tryd.isAgg9
  z9 := Tryd.sizeOf9
  v9 := Tryd.zeroValue9
  t20 := Tryd.underlying20
  a20 := Tryd.isAgg20
  z20 := Tryd.sizeOf20
  v20 := Tryd.zeroValue20
  t21 := Tryd.underlying21
  a21 := Tryd.isAgg21
  z21 := Tryd.sizeOf21
  v21 := Tryd.zeroValue21
  t37 := Tryd.underlying22
  a37 := Tryd.isAgg22
  z37 := Tryd.sizeOf22
  v37 := Tryd.zeroValue22
  t46 := Tryd.underlying62
  a46 := Tryd.isAgg62
  z46 := Tryd.sizeOf62
  v46 := Tryd.zeroValue62
  t51 := Tryd.underlying61
  a51 := Tryd.isAgg61
  z51 := Tryd.sizeOf61
  v51 := Tryd.zeroValue61
  t53 := Tryd.underlying64
  a53 := Tryd.isAgg64
  z53 := Tryd.sizeOf64
  v53 := Tryd.zeroValue64
  t75 := Tryd.underlying97
  a75 := Tryd.isAgg97
  z75 := Tryd.sizeOf97
  v75 := Tryd.zeroValue97
  t76 := Tryd.underlying98
  a76 := Tryd.isAgg98
  z76 := Tryd.sizeOf98
  v76 := Tryd.zeroValue98
  t85 := Tryd.underlying117
  a85 := Tryd.isAgg117
  z85 := Tryd.sizeOf117
  v85 := Tryd.zeroValue117
  t127 := Tryd.underlying150
  a127 := Tryd.isAgg150
  z127 := Tryd.sizeOf150
  v127 := Tryd.zeroValue150
  t143 := Tryd.underlying151
  a143 := Tryd.isAgg151
  z143 := Tryd.sizeOf151
  v143 := Tryd.zeroValue151
  t145 := Tryd.underlying153
  a145 := Tryd.isAgg153
  z145 := Tryd.sizeOf153
  v145 := Tryd.zeroValue153
  t167 := Tryd.underlying116
  a167 := Tryd.isAgg116
  z167 := Tryd.sizeOf116
  v167 := Tryd.zeroValue116
  t168 := Tryd.underlying119
  a168 := Tryd.isAgg119
  z168 := Tryd.sizeOf119
  v168 := Tryd.zeroValue119
  t171 := Tryd.underlying111
  a171 := Tryd.isAgg111
  z171 := Tryd.sizeOf111
  v171 := Tryd.zeroValue111
  t173 := Tryd.underlying114
  a173 := Tryd.isAgg114
  z173 := Tryd.sizeOf114
  v173 := Tryd.zeroValue114
  t175 := Tryd.underlying137
  a175 := Tryd.isAgg137
  z175 := Tryd.sizeOf137
  v175 := Tryd.zeroValue137
  t210 := Tryd.underlying141
  a210 := Tryd.isAgg141
  z210 := Tryd.sizeOf141
  v210 := Tryd.zeroValue141
  t212 := Tryd.underlying134
  a212 := Tryd.isAgg134
  z212 := Tryd.sizeOf134
  v212 := Tryd.zeroValue134
  t213 := Tryd.underlying135
  a213 := Tryd.isAgg135
  z213 := Tryd.sizeOf135
  t232 := Tryd.underlying157
  a232 := Tryd.isAgg157
  z232 := Tryd.sizeOf157
  v232 := Tryd.zeroValue157
  t233 := Tryd.underlying158
  a233 := Tryd.isAgg158
  z233 := Tryd.sizeOf158
  v233 := Tryd.zeroValue158
  g15 := by kernel_rfl
  g16 := by kernel_rfl
  g17 := by kernel_rfl
  g18 := by kernel_rfl
  g19 := by kernel_rfl
  t80 := Tryd.underlying159
  a80 := Tryd.isAgg159
  z80 := Tryd.sizeOf159
  v80 := Tryd.zeroValue159
  i0 := by kernel_rfl
  i2 := by kernel_rfl
  i3 := by kernel_rfl
  i4 := by kernel_rfl
  i5 := by kernel_rfl
  i9 := by kernel_rfl
  i20 := by kernel_rfl
  i21 := by kernel_rfl
  i37 := by kernel_rfl
  i46 := by kernel_rfl
  i51 := by kernel_rfl
  i53 := by kernel_rfl
  i75 := by kernel_rfl
  i76 := by kernel_rfl
  i80 := by kernel_rfl
  i85 := by kernel_rfl
  i127 := by kernel_rfl
  i143 := by kernel_rfl
  i145 := by kernel_rfl
  i167 := by kernel_rfl
  i168 := by kernel_rfl
  i171 := by kernel_rfl
  i173 := by kernel_rfl
  i175 := by kernel_rfl
  i210 := by kernel_rfl
  i212 := by kernel_rfl
  i232 := by kernel_rfl
  i233 := by kernel_rfl
  m15 := by kernel_rfl
  m16 := by kernel_rfl
  m17 := by kernel_rfl
  m18 := by kernel_rfl
  m19 := by kernel_rfl
  c0 := by kernel_rfl
  c2 := by kernel_rfl
  c3 := by kernel_rfl
  c4 := by kernel_rfl
  c5 := by kernel_rfl
  c9 := by kernel_rfl
  c20 := by kernel_rfl
  c21 := by kernel_rfl
  c37 := by kernel_rfl
  c46 := by kernel_rfl
  c51 := by kernel_rfl
  c53 := by kernel_rfl
  c75 := by kernel_rfl
  c76 := by kernel_rfl
  c80 := by kernel_rfl
  c85 := by kernel_rfl
  c127 := by kernel_rfl
  c143 := by kernel_rfl
  c145 := by kernel_rfl
  c167 := by kernel_rfl
  c168 := by kernel_rfl
  c171 := by kernel_rfl
  c173 := by kernel_rfl
  c175 := by kernel_rfl
  c210 := by kernel_rfl
  c212 := by kernel_rfl
  c213 := by kernel_rfl
  c232 := by kernel_rfl
  c233 := by kernel_rfl }
open Go.RowKit in
theorem Tryd.strconv_Atoi_err (s : ByteArray) (hl : s.size ≤ 18) (h : Lib.atoi s.data.toList = none) (ev : Value) (w : World) (hv : w.cell? ⟨2, 0, none⟩ = some ev) (hev : ev = .nilIface ∨ ∃ te pe, ev = .iface te pe) :
    Calls Tryd.prog 69 #[.string s] w fun e w' => ∃ N, e = .returned (.tuple #[.int .i64 0, .iface 119 (.pointer (some ⟨N, 0, none⟩))]) ∧ w.heap.size ≤ N ∧ w'.heap[N]? = some (.cells #[.string ⟨#[65, 116, 111, 105]⟩, .string s, ev] 141 (0, 0)) ∧ Below w.heap.size w w' := Any.strconv_Atoi_err Tryd.laysC172 s hl h ev w hv hev
end Go.Proofs
