/- A part of the proof: Rz, Qx, Qq, Qr, Qs, Qt, Qu, Pr. -/
import Derived.Test.YtnbmfhnfmhgaaaaMc4
import Derived.Test.YtnbmfhnfmhgaaaaChecked
import Derived.Maps.RangeRun
import Derived.Shelf.SlIter.Nil
import Derived.Shelf.SortM.Plain
import Derived.Shelf.SortM.SortNone
/- The code of some functions without its ornaments. Written by gen.py. -/
set_option maxRecDepth 100000
namespace Go.Proofs.Ytnbmfhnfmhgaaaa.Q
open Go Go.RowKit Go.Proofs
variable {P : Program} {pr : Prim} {N : Nat} {e : Nat → V} {σ : St} {Q : VX → (Nat → V) → St → Prop} {QQ : QD} {SS : QS} {m : Pn}
def k30_r0 : List COp := [o 2 (pZ .i64 0)]
def k30_r1 : List COp := [o 3 (pZ .i64 0)]
def k30_r2 : List COp := [o 6 (pM 0),
o 7 (.nilCheck (.tmp 6)),
o 8 (pF 57 7 0),
o 9 (pL 55 8),
o 10 (.range 55 (.tmp 9))]
def k30_r3 : List COp := [o 11 (.next (.tmp 10) false),
o 12 (pX 11 0)]
def k30_r4 : List COp := [o 13 (.entry (.tmp 10)),
o 14 (pX 13 1),
o 5 (pA 14)]
def k30_r5 : List COp := [oX 15 (pM 3),
oX 16 (pM 5),
oX 17 (.nilCheck (.tmp 16)),
oX 18 (pF 60 17 0),
oX 19 (pL 28 18),
oX 20 (pN 19 28),
o 21 (pM 5),
o 22 (.nilCheck (.tmp 21)),
o 23 (pF 60 22 1),
o 24 (pL 28 23),
o 25 (pN 24 28),
o 26 (pB .add 3 20 25 3),
o 27 (pB .add 3 15 26 3),
o 3 (pA 27)]
def k30_l0 : CC := (.seq (.region k30_r3) (.seq (.cond (.tmp 12) .skip (.exit 0)) (.block 1 (.seq (.region k30_r4) (.region k30_r5)))))
def k30_r6 : List COp := [o 28 (pM 3),
o 2 (pA 28)]
def k30 : CC := (.seq (.region k30_r0) (.seq (.region k30_r1) (.seq (.seq (.region k30_r2) (.block 0 (.loop k30_l0))) (.seq (.region k30_r6) .ret))))
def k30_p := PLift.up <| aI (vE k30.eq_1) <| aI (oE k30_r0.eq_1) <| aI (oE k30_r1.eq_1) <| aI (oE k30_r2.eq_1) <| aI (oE k30_r3.eq_1) <| aI (oE k30_r4.eq_1) <| aI (oE k30_r5.eq_1) <| aI (vE k30_l0.eq_1) (oE k30_r6.eq_1)
theorem k30_a : type_of% k30_p.down := k30_p.down
def k15_r0 : List COp := [o 6 (pM 0),
o 7 (.binOp .eql 25 (.tmp 6) (.const (.pointer .none)) 25),
o 8 (pM 7),
oF 9 (pM 0) 8,
oF 10 (.nilCheck (.tmp 9)) 8,
oF 11 (pF 57 10 2) 8,
oF 12 (pL 4 11) 8,
o 13 (pV 8 12)]
def k15_r1 : List COp := [o 14 (pM 0),
o 15 (.nilCheck (.tmp 14)),
o 16 (pF 57 15 0),
o 17 (pL 55 16),
o 18 (.range 55 (.tmp 17))]
def k15_r2 : List COp := [o 19 (.next (.tmp 18) false),
o 20 (pX 19 0)]
def k15_r3 : List COp := [o 21 (.entry (.tmp 18)),
o 22 (pX 21 1),
o 5 (pA 22)]
def k15_r4 : List COp := [oX 23 (pM 5),
oX 24 (pM 5),
oX 25 (pM 5),
oX 26 (.nilCheck (.tmp 25)),
oX 27 (pF 60 26 0),
oX 28 (pL 28 27),
oX 29 (pM 5),
oX 30 (.nilCheck (.tmp 29)),
oX 31 (pF 60 30 1),
oX 32 (pL 28 31),
oX 33 (pM 1),
oX 34 (.call { callee := .builtin .max, args := #[.tmp 33, .const (.int .i64 0)], argTypes := #[3, 3] }),
o 35 (pM 5),
o 36 (.nilCheck (.tmp 35)),
o 37 (pF 60 36 1),
o 38 (pL 28 37),
o 39 (pN 38 28),
o 40 (.call { callee := .builtin .min, args := #[.tmp 34, .tmp 39], argTypes := #[3, 3] }),
o 41 (.slice 28 (.tmp 32) .none (some (.tmp 40)) .none),
o 42 (.call { callee := .builtin .append, args := #[.tmp 28, .tmp 41], argTypes := #[28, 28, 0] }),
o 43 (.nilCheck (.tmp 23)),
o 44 (pF 60 43 0),
oS 28 44 42,
o 45 (.nilCheck (.tmp 24)),
o 46 (pF 60 45 1),
⟨none, .store 28 (.tmp 46) (.const (.slice .none 0 0)), none, true⟩]
def k15_l0 : CC := (.seq (.region k15_r2) (.seq (.cond (.tmp 20) .skip (.exit 0)) (.block 1 (.seq (.region k15_r3) (.region k15_r4)))))
def k15_r5 : List COp := [o 47 (pM 0),
o 48 (pM 0),
o 49 (.nilCheck (.tmp 47)),
o 50 (pF 57 49 2),
⟨none, .store 4 (.tmp 50) (.const (.bool true)), none, true⟩,
o 51 (.nilCheck (.tmp 48)),
o 52 (pF 57 51 4),
⟨none, .store 3 (.tmp 52) (.const (.int .i64 0)), none, true⟩]
def k15 : CC := (.seq (.seq (.region k15_r0) (.cond (.tmp 13) .ret .skip)) (.seq (.seq (.region k15_r1) (.block 0 (.loop k15_l0))) (.region k15_r5)))
def k15_p := PLift.up <| aI (vE k15.eq_1) <| aI (oE k15_r0.eq_1) <| aI (oE k15_r1.eq_1) <| aI (oE k15_r2.eq_1) <| aI (oE k15_r3.eq_1) <| aI (oE k15_r4.eq_1) <| aI (vE k15_l0.eq_1) (oE k15_r5.eq_1)
theorem k15_a : type_of% k15_p.down := k15_p.down
theorem noSB0 : True := trivial
end Go.Proofs.Ytnbmfhnfmhgaaaa.Q

/- Code whose order the run leaves open (loops over maps): what it may come to, told as a set. -/
set_option linter.unusedVariables false
set_option linter.unusedSimpArgs false
namespace Go.Proofs.Ytnbmfhnfmhgaaaa.Q
open Go Go.RowKit
open Go.ChangeMaps (setBlock)
section
variable {P : Program} {pr : Prim} {base : Nat} {w0 : World} {N : Nat}
/-- An end that is told. -/
def PostN (base : Nat) (w0 : World) (N : Nat) (Q : VX → (Nat → V) → St → Prop) (g : Gh) (σ : St) (w : World) (a : Act) (e : Exit) (a' : Act) (w' : World) : Prop :=
  ∃ x e1 σ' g', Q x e1 σ' ∧ (∀ v, x ≠ .pan v) ∧ Ext g σ.toks w g' σ'.toks w' ∧ Rel base w0 g' σ' w' ∧ XOk g' σ'.toks w' x e ∧ VRs g' σ'.toks w' (env N e1) a'.tmps.toList ∧ a'.defers = a.defers
def Nd (P : Program) (base : Nat) (w0 : World) (N : Nat) (c : Code) (e : Nat → V) (σ : St) (Q : VX → (Nat → V) → St → Prop) : Prop :=
  ∀ g w a, Rel base w0 g σ w → VRs g σ.toks w (env N e) a.tmps.toList → c.wp P (PostN base w0 N Q g σ w a) a w
def NdO (P : Program) (base : Nat) (w0 : World) (N : Nat) (ops : Array Oper) (l : List Oper) (e : Nat → V) (σ : St) (Q : VX → (Nat → V) → St → Prop) : Prop :=
  ∀ g w a, Rel base w0 g σ w → VRs g σ.toks w (env N e) a.tmps.toList → ∀ K : Exit → Act → World → Prop, (∀ e1 a' w', PostN base w0 N Q g σ w a e1 a' w' → K e1 a' w') → wpListIn (Fr none) 0 P ops K l a w
theorem PostN.trans {Q : VX → (Nat → V) → St → Prop} {g g1 : Gh} {σ σ1 : St} {w w1 : World} {a a1 : Act} {e : Exit} {a' : Act} {w' : World} (hE : Ext g σ.toks w g1 σ1.toks w1) (hd : a1.defers = a.defers)
    (h : PostN base w0 N Q g1 σ1 w1 a1 e a' w') : PostN base w0 N Q g σ w a e a' w' := by
  obtain ⟨x, e1, σ', g', h1, h2, h3, h4, h5, h6, h7⟩ := h
  exact ⟨x, e1, σ', g', h1, h2, hE.trans h3, h4, h5, h6, h7.trans hd⟩
theorem PostN.mono {Q Q' : VX → (Nat → V) → St → Prop} {g : Gh} {σ : St} {w : World} {a : Act} {e : Exit} {a' : Act} {w' : World} (hq : ∀ x e σ, Q x e σ → Q' x e σ) (h : PostN base w0 N Q g σ w a e a' w') : PostN base w0 N Q' g σ w a e a' w' := by
  obtain ⟨x, e1, σ', g', h1, h2⟩ := h
  exact ⟨x, e1, σ', g', hq _ _ _ h1, h2⟩
theorem Nd.mono {c : Code} {e : Nat → V} {σ : St} {Q Q' : VX → (Nat → V) → St → Prop} (h : Nd P base w0 N c e σ Q) (hq : ∀ x e σ, Q x e σ → Q' x e σ) : Nd P base w0 N c e σ Q' :=
  fun g w a hR hT => wp_mono (h g w a hR hT) fun e1 a' w' hp => hp.mono hq
/-- Before it runs, the state may be told in another way. -/
theorem Nd.re {c : Code} {e : Nat → V} {σ σ1 : St} {Q : VX → (Nat → V) → St → Prop} (hr : ∀ g w tm, Rel base w0 g σ w → VRs g σ.toks w (env N e) tm → ∃ g1, Ext g σ.toks w g1 σ1.toks w ∧ Rel base w0 g1 σ1 w)
    (h : Nd P base w0 N c e σ1 Q) : Nd P base w0 N c e σ Q := fun g w a hR hT => by
  obtain ⟨g1, hE, hR1⟩ := hr g w _ hR hT
  exact wp_mono (h g1 w a hR1 (VRs.ext hE _ hT)) fun e1 a' w' hp => hp.trans hE rfl
theorem Nd.seq {c d : Code} {e : Nat → V} {σ : St} {Q : VX → (Nat → V) → St → Prop} (h : Nd P base w0 N c e σ fun x e1 σ1 => (x = .normal ∧ Nd P base w0 N d e1 σ1 Q) ∨ (x ≠ .normal ∧ Q x e1 σ1)) : Nd P base w0 N (.seq c d) e σ Q := fun g w a hR hT => by
  refine wp_seq (wp_mono (h g w a hR hT) fun e1 a' w' hp => ?_)
  obtain ⟨x, e2, σ', g', h1, h2, h3, h4, h5, h6, h7⟩ := hp
  rcases h1 with ⟨rfl, h1⟩ | ⟨hx, h1⟩
  · simp only [XOk] at h5
    subst h5
    exact wp_mono (h1 g' w' a' h4 h6) fun e3 a3 w3 hp => hp.trans h3 h7
  · have hpost : PostN base w0 N Q g σ w a e1 a' w' := ⟨x, e2, σ', g', h1, h2, h3, h4, h5, h6, h7⟩
    cases x with
    | normal => exact absurd rfl hx
    | exit id => simp only [XOk] at h5; subst h5; exact hpost
    | ret => simp only [XOk] at h5; subst h5; exact hpost
    | pan v => exact absurd rfl (h2 v)
theorem Nd.skip {e : Nat → V} {σ : St} {Q : VX → (Nat → V) → St → Prop} (h : Q .normal e σ) : Nd P base w0 N .skip e σ Q := fun g w a hR hT =>
  wp_skip ⟨.normal, e, σ, g, h, fun _ h => (by cases h), Ext.refl _ _ _, hR, rfl, hT, rfl⟩
theorem Nd.exit {id : Nat} {e : Nat → V} {σ : St} {Q : VX → (Nat → V) → St → Prop} (h : Q (.exit id) e σ) : Nd P base w0 N (.exit id) e σ Q := fun g w a hR hT =>
  wp_exit ⟨.exit id, e, σ, g, h, fun _ h => (by cases h), Ext.refl _ _ _, hR, rfl, hT, rfl⟩
theorem Nd.ret {e : Nat → V} {σ : St} {Q : VX → (Nat → V) → St → Prop} (h : Q .ret e σ) : Nd P base w0 N .ret e σ Q := fun g w a hR hT =>
  wp_ret ⟨.ret, e, σ, g, h, fun _ h => (by cases h), Ext.refl _ _ _, hR, rfl, hT, rfl⟩
theorem Nd.cond {c : Operand} {x y : Code} {e : Nat → V} {σ : St} {t : Bool} {Q : VX → (Nat → V) → St → Prop} (hc : evs (env N e) c = some (.bool t)) (h : Nd P base w0 N (if t then x else y) e σ Q) : Nd P base w0 N (.cond c x y) e σ Q := fun g w a hR hT => by
  have hv := evs_ok hT hc
  simp only [VR] at hv
  exact wp_cond hv (h g w a hR hT)
theorem Nd.block {id : Nat} {c : Code} {e : Nat → V} {σ : St} {Q : VX → (Nat → V) → St → Prop} (h : Nd P base w0 N c e σ fun x e1 σ1 => (x = .exit id ∧ Q .normal e1 σ1) ∨ (x ≠ .exit id ∧ Q x e1 σ1)) : Nd P base w0 N (.block id c) e σ Q := fun g w a hR hT => by
  refine wp_block (wp_mono (h g w a hR hT) fun e1 a' w' hp => ?_)
  obtain ⟨x, e2, σ', g', h1, h2, h3, h4, h5, h6, h7⟩ := hp
  rcases h1 with ⟨rfl, h1⟩ | ⟨hx, h1⟩
  · simp only [XOk] at h5
    subst h5
    simp only [Exit.inBlock, if_true]
    exact ⟨.normal, e2, σ', g', h1, fun _ h => (by cases h), h3, h4, rfl, h6, h7⟩
  · have hpost : PostN base w0 N Q g σ w a e1 a' w' := ⟨x, e2, σ', g', h1, h2, h3, h4, h5, h6, h7⟩
    cases x with
    | normal => simp only [XOk] at h5; subst h5; exact hpost
    | exit id' =>
      simp only [XOk] at h5; subst h5
      simp only [Exit.inBlock]
      rw [if_neg (fun h => hx (by rw [h]))]
      exact hpost
    | ret => simp only [XOk] at h5; subst h5; exact hpost
    | pan v => exact absurd rfl (h2 v)
/-- A loop: what holds at its head, and a measure that falls. -/
theorem Nd.loop {ι : Type} {c : Code} {Q : VX → (Nat → V) → St → Prop} (I : ι → (Nat → V) → St → Prop) (m : ι → Nat)
    (h : ∀ i e σ, I i e σ → Nd P base w0 N c e σ fun x e1 σ1 => (x = .normal ∧ ∃ j, I j e1 σ1 ∧ m j < m i) ∨ (x ≠ .normal ∧ Q x e1 σ1)) (i : ι) {e : Nat → V} {σ : St} (hi : I i e σ) : Nd P base w0 N (.loop c) e σ Q := by
  have key : ∀ k i e σ, m i = k → I i e σ → ∀ g w a, Rel base w0 g σ w → VRs g σ.toks w (env N e) a.tmps.toList → LoopWp none P c (PostN base w0 N Q g σ w a) a w := by
    intro k
    induction k using Nat.strongRecOn with
    | _ k ih =>
      intro i e σ hk hi g w a hR hT
      refine LoopWp.round (wpIn_mono (wpIn_fr.2 (h i e σ hi g w a hR hT)) fun e1 a' w' hp => ?_)
      obtain ⟨x, e2, σ', g', h1, h2, h3, h4, h5, h6, h7⟩ := hp
      rcases h1 with ⟨rfl, j, hj, hlt⟩ | ⟨hx, h1⟩
      · simp only [XOk] at h5
        subst h5
        intro b k2 cs hro
        obtain ⟨e3, a3, w3, q3, r3⟩ := ih (m j) (by omega) j e2 σ' rfl hj g' w' a' h4 h6 b k2 cs hro
        exact ⟨e3, a3, w3, q3.trans h3 h7, r3⟩
      · have hpost : PostN base w0 N Q g σ w a e1 a' w' := ⟨x, e2, σ', g', h1, h2, h3, h4, h5, h6, h7⟩
        cases x with
        | normal => exact absurd rfl hx
        | exit id => simp only [XOk] at h5; subst h5; exact hpost
        | ret => simp only [XOk] at h5; subst h5; exact hpost
        | pan v => exact absurd rfl (h2 v)
  intro g w a hR hT
  exact wpIn_fr.1 (key _ i e σ rfl hi g w a hR hT).wp
/-- Code that the run tells. -/
theorem Nd.ev (hp : PrimOk P pr base w0) {c : Code} {k : CC} (hc : cc P pr.hot N c = some k) (hcalm : calm c = true) (hrf : hasRF c = false) {e : Nat → V} {σ : St} {Q : VX → (Nat → V) → St → Prop} (h : Ev P pr N k e σ fun x e1 σ1 => (∀ v, x ≠ .pan v) ∧ Q x e1 σ1) : Nd P base w0 N c e σ Q := fun g w a hR hT => by
  obtain ⟨x, e1, σ1, hb, hx, hq⟩ := h
  obtain ⟨n, ts, hv, _, hts⟩ := hb.vexec hc
  have hts := hts hcalm
  subst hts
  have := ((sound hp n).2.1 c _ σ x _ σ1 hv g w a hR hT none (.inl rfl)).1
  refine wp_mono (wpIn_fr.1 this) fun e2 a' w' hpost => ?_
  rw [hrf] at hpost
  obtain ⟨g', h1, h2, h3, h4, h5⟩ := hpost
  refine ⟨x, e1, σ1, g', hq, hx, h1, h2, h3, h4.resolve_left (fun ⟨v, h, _⟩ => hx v h), ?_⟩
  exact h5
/-! ### One operation behind the other -/
theorem Nd.region {id : Nat} {ops : Array Oper} {e : Nat → V} {σ : St} {Q : VX → (Nat → V) → St → Prop} (h : NdO P base w0 N ops ops.toList e σ Q) : Nd P base w0 N (.region id ops false) e σ Q := fun g w a hR hT =>
  wpIn_fr.1 (wpIn_region_list (h g w a hR hT _ fun _ _ _ hp => hp))
theorem NdO.nil {ops : Array Oper} {e : Nat → V} {σ : St} {Q : VX → (Nat → V) → St → Prop} (h : Q .normal e σ) : NdO P base w0 N ops [] e σ Q := fun g w a hR hT K hK =>
  wpListIn_nil (hK _ _ _ ⟨.normal, e, σ, g, h, fun _ h => (by cases h), Ext.refl _ _ _, hR, rfl, hT, rfl⟩)
theorem NdO.app {ops : Array Oper} {l l2 : List Oper} {e : Nat → V} {σ : St} {Q : VX → (Nat → V) → St → Prop} (h : NdO P base w0 N ops l e σ fun x e1 σ1 => x = .normal ∧ NdO P base w0 N ops l2 e1 σ1 Q) : NdO P base w0 N ops (l ++ l2) e σ Q := fun g w a hR hT K hK => by
  refine wpList_append _ _ (h g w a hR hT _ fun e1 a' w' hp => ?_)
  obtain ⟨x, e2, σ', g', ⟨rfl, h1⟩, h2, h3, h4, h5, h6, h7⟩ := hp
  simp only [XOk] at h5
  subst h5
  exact h1 g' w' a' h4 h6 K fun e3 a3 w3 hp => hK _ _ _ (hp.trans h3 h7)
theorem NdO.eo (hp : PrimOk P pr base w0) {ops : Array Oper} {l : List Oper} {cl : List COp} (hc : cops pr.hot N ops false l 0 = some cl) (hcold : l.any pr.hot = false) {e : Nat → V} {σ : St} {Q : VX → (Nat → V) → St → Prop}
    (h : Eo P pr N cl e σ fun x e1 σ1 => (∀ v, x ≠ .pan v) ∧ Q x e1 σ1) : NdO P base w0 N ops l e σ Q := fun g w a hR hT K hK => by
  obtain ⟨x, e1, σ1, ⟨hx, hq⟩, hE⟩ := Eo.split h
  obtain ⟨n, ts, hv, hts⟩ := Eo.vops hc (fun _ o ho => by
    cases h8 : pr.hot o with
    | false => rfl
    | true => rw [List.any_eq_true.2 ⟨o, ho, h8⟩] at hcold; cases hcold) hE
  refine (sound hp n).1 ops l _ σ x ts σ1 hv g w a hR hT K (fun e2 a' w' hpost => hK _ _ _ ?_) none
  obtain ⟨g', h1, h2, h3, h4, h5⟩ := hpost
  have hT1 := h4.resolve_left (fun ⟨v, h, _⟩ => hx v h)
  rcases hts with ⟨_, rfl⟩ | ⟨v, h, _⟩
  · exact ⟨x, e1, σ1, g', hq, hx, h1, h2, h3, hT1, h5⟩
  · exact absurd h (hx v)
/-- One operation that gives a value. -/
theorem NdO.op {ops : Array Oper} {o : Oper} {l : List Oper} (hg : o.guard = none) (hd : ∀ c, o.op ≠ .defer c) {e : Nat → V} {σ : St} {Q : VX → (Nat → V) → St → Prop} (R : V → St → Prop)
    (hop : ∀ (g : Gh) (w : World) (a : Act), Rel base w0 g σ w → VRs g σ.toks w (env N e) a.tmps.toList → ∃ u w' g' v σ1, (execOp a.eval o).run P w = .ok (.value u) w' ∧ R v σ1 ∧ Ext g σ.toks w g' σ1.toks w' ∧ Rel base w0 g' σ1 w' ∧ VR g' σ1.toks w' v u)
    (h : ∀ v σ1, R v σ1 → NdO P base w0 N ops l (upd e o.dst v) σ1 Q) : NdO P base w0 N ops (o :: l) e σ Q := fun g w a hR hT K hK => by
  obtain ⟨u, w', g', v, σ1, hrun, hRv, hE, hR1, hV⟩ := hop g w a hR hT
  show wpOper none P ops K o (wpListIn (Fr none) 0 P ops K l) a w
  refine wpOper_run (by simp [Region.wanted, hg]) hd hrun ?_
  refine h v σ1 hRv g' w' (a.put o.dst u) hR1 ?_ K fun e1 a' w2 hp => hK _ _ _ (hp.trans hE (put_defers' a o.dst u))
  have := vput_ok (VRs.ext hE _ hT) hV o.dst
  rw [vput_env] at this
  exact this
/-! ### Another word for an object -/
theorem Rel.reOb {g : Gh} {σ : St} {w : World} (h : Rel base w0 g σ w) {r : Nat} {o o' : Ob} (hr : σ.objs[r]? = some o) (hd : ∀ h : o.gone, False) (hnu : ¬ o' = .unb) (hok : ObjOk base g σ.toks w r o') : Rel base w0 g ⟨σ.objs.set r o', σ.toks⟩ w := by
  have hrl := (List.getElem?_eq_some_iff.1 hr).1
  have al : ∀ k, aliveAt (σ.objs.set r o') k → aliveAt σ.objs k := by
    intro k ⟨q, hq, hqd⟩
    rw [List.getElem?_set] at hq
    by_cases e : r = k
    · subst e; exact ⟨o, hr, hd⟩
    · rw [if_neg e] at hq; exact ⟨q, hq, hqd⟩
  exact {
    below := h.below
    bs := h.bs
    n := by simpa using h.n
    hid := fun k => by
      by_cases e : r = k
      · subst e
        rw [List.getElem?_set_self hrl, h.hid, hr]
        constructor
        · intro h; injection h with h; subst h; exact (hd trivial).elim
        · intro h; injection h with h; exact (hnu h).elim
      · rw [List.getElem?_set_ne e]; exact h.hid k
    obj := fun k q hk => by
      rw [List.getElem?_set] at hk
      by_cases e : r = k
      · subst e
        rw [if_pos rfl, if_pos hrl] at hk
        injection hk with hk; subst hk; exact hok
      · rw [if_neg e] at hk; exact h.obj k q hk
    inj := fun a b ha hb => h.inj a b (al a ha) (al b hb)
    tok := fun t ht => by obtain ⟨h1, h2, h3⟩ := h.tok t ht; exact ⟨h1, h2, fun a ha => h3 a (al a ha)⟩
    tinj := h.tinj
    lim := h.lim }
/-- A block that is neither a row nor a list of calls is another; it lies where it lay. -/
theorem Rel.blockSet {g : Gh} {σ : St} {w : World} (h : Rel base w0 g σ w) {r : Nat} {o : Ob} (hr : σ.objs[r]? = some o) (hd : ∀ h : o.gone, False) {x0 : Obj} (hb : base ≤ g.ρ r) (hL : g.L (g.ρ r) = 0) (hh : w.heap[g.ρ r]? = some x0) (hx1 : ∀ c t f, x0 ≠ .cells c t f) (hx2 : ∀ y, x0 ≠ .deferred y) (x : Obj) (o' : Ob) (hnu : ¬ o' = .unb)
    (hok : Ext g σ.toks w g σ.toks (setBlock w (g.ρ r) x) → (setBlock w (g.ρ r) x).heap[g.ρ r]? = some x → ObjOk base g σ.toks (setBlock w (g.ρ r) x) r o') :
    Ext g σ.toks w g σ.toks (setBlock w (g.ρ r) x) ∧ Rel base w0 g ⟨σ.objs.set r o', σ.toks⟩ (setBlock w (g.ρ r) x) := by
  have hlt := (Array.getElem?_eq_some_iff.1 hh).1
  have hrl := (List.getElem?_eq_some_iff.1 hr).1
  have halr : aliveAt σ.objs r := ⟨_, hr, hd⟩
  have other : ∀ k, k ≠ g.ρ r → (setBlock w (g.ρ r) x).heap[k]? = w.heap[k]? := fun k hk => by
    simp only [setBlock, Array.getElem?_setIfInBounds]
    rw [if_neg (fun e => hk e.symm)]
  have same : (setBlock w (g.ρ r) x).heap[g.ρ r]? = some x := by
    simp [setBlock, Array.getElem?_setIfInBounds, hlt]
  have E : Ext g σ.toks w g σ.toks (setBlock w (g.ρ r) x) := {
    n := Nat.le_refl _
    has := fun _ h => h
    ρ := fun _ _ => rfl
    ob := fun _ _ => rfl
    L := fun _ => Nat.le_refl _
    cells := fun b q hlo => by
      by_cases eb : b = g.ρ r
      · subst eb; rw [hL] at hlo; omega
      · exact cell?_heap (other b eb) q
    shape := fun b c ty fr hbb => by
      by_cases eb : b = g.ρ r
      · subst eb; rw [hh] at hbb; injection hbb with hbb; exact absurd hbb (hx1 _ _ _)
      · exact ⟨c, fr, (other b eb).trans hbb, rfl, .inl rfl⟩
    nt := Nat.le_refl _
    tok := fun s _ hl => ⟨hl, rfl, rfl⟩
    dfr := fun b y hbb => by
      by_cases eb : b = g.ρ r
      · subst eb; rw [hh] at hbb; injection hbb with hbb; exact absurd hbb (hx2 _)
      · exact (other b eb).trans hbb }
  have al : ∀ k, aliveAt (σ.objs.set r o') k → aliveAt σ.objs k := by
    intro k ⟨q, hq, hqd⟩
    rw [List.getElem?_set] at hq
    by_cases e : r = k
    · subst e; exact halr
    · rw [if_neg e] at hq; exact ⟨q, hq, hqd⟩
  refine ⟨E, {
    below := h.below.trans ⟨rfl, rfl, rfl, by simp [setBlock], fun i hi => other i (by omega)⟩
    bs := by simpa [setBlock] using h.bs
    n := by simpa using h.n
    hid := fun k => by
      by_cases e : r = k
      · subst e
        rw [List.getElem?_set_self hrl, h.hid, hr]
        constructor
        · intro h; injection h with h; subst h; exact (hd trivial).elim
        · intro h; injection h with h; exact (hnu h).elim
      · rw [List.getElem?_set_ne e]; exact h.hid k
    obj := fun k q hk => by
      rw [List.getElem?_set] at hk
      by_cases e : r = k
      · subst e
        rw [if_pos rfl, if_pos hrl] at hk
        injection hk with hk; subst hk; exact hok E same
      · rw [if_neg e] at hk
        by_cases hdd : q.gone
        · exact ObjOk.gone hdd
        · have hne : g.ρ k ≠ g.ρ r := fun ee => e (h.inj k r ⟨q, hk, hdd⟩ halr ee).symm
          exact (h.obj k q hk).ext E (h.hasO hk) (other _ hne) rfl
    inj := fun a b ha hb' => h.inj a b (al a ha) (al b hb')
    tok := fun t ht => by
      obtain ⟨h1, h2, h3⟩ := h.tok t ht
      exact ⟨h1, by simpa [setBlock] using h2, fun a ha => h3 a (al a ha)⟩
    tinj := h.tinj
    lim := fun b hb' => h.lim b (by simpa [setBlock] using hb') }⟩
/-! ### A loop over a map: ri is the iterator, rm the map, vis the places that have come -/
structure It (σ : St) (ri rm : Nat) (es : List (V × V)) (vis : List Nat) (b since : Nat) (a : Array MapEntry) (clock last : Nat) (seen : Array Nat) : Prop where
  it : σ.objs[ri]? = some (.it b since seen last)
  mp : σ.objs[rm]? = some (.mpR b es a clock)
  sz : a.size = es.length
  old : ∀ x ∈ a.toList, x.born < since
  sl : since ≤ last
  sc : since ≤ clock
  nd : (a.toList.map (·.born)).Nodup
  hvis : seen.toList = vis.map fun i => (a.getD i default).born
  vnd : vis.Nodup
  vlt : ∀ i ∈ vis, i < es.length
theorem NdO.range {ops : Array Oper} {o : Oper} {l : List Oper} {t : TypeId} {x : Operand} (ho : o.op = .range t x) (hg : o.guard = none) {kt et : TypeId} (ht : P.underlying t = some (.map kt et)) {e : Nat → V} {σ : St} {rm : Nat} {es : List (V × V)}
    (hx : evs (env N e) x = some (.omap rm)) (hm : σ.objs[rm]? = some (.mp es)) {Q : VX → (Nat → V) → St → Prop}
    (h : ∀ (b : Nat) (a : Array MapEntry) (clock : Nat), It ⟨σ.objs.set rm (.mpR b es a clock) ++ [.it b clock #[] clock], σ.toks⟩ σ.objs.length rm es [] b clock a clock clock #[] → NdO P base w0 N ops l (upd e o.dst (.optr σ.objs.length 0)) ⟨σ.objs.set rm (.mpR b es a clock) ++ [.it b clock #[] clock], σ.toks⟩ Q) :
    NdO P base w0 N ops (o :: l) e σ Q := by
  refine NdO.op hg (by rw [ho]; intro c h; cases h) (fun v σ1 => v = .optr σ.objs.length 0 ∧ ∃ b a clock, σ1 = ⟨σ.objs.set rm (.mpR b es a clock) ++ [.it b clock #[] clock], σ.toks⟩ ∧ It σ1 σ.objs.length rm es [] b clock a clock clock #[]) ?_ ?_
  · intro g w ac hR hT
    obtain ⟨o1, o2, a, clock, o3, o4, o5, o6, o7⟩ := hR.obj rm _ hm
    have hxv := evs_ok hT hx
    simp only [VR] at hxv
    obtain ⟨hh, hxv⟩ := hxv
    have hrml := (List.getElem?_eq_some_iff.1 hm).1
    have hrun : (execOp ac.eval o).run P w = .ok (.value (.pointer (some ⟨w.heap.size, 0, none⟩))) (w.alloc (.mapIter (some (g.ρ rm)) clock #[] clock)) := by
      simp [execOp, ho, hxv, run_range_map w t kt et (g.ρ rm) a clock ht o3]
    have hR1 := hR.reOb hm (fun h => h) (o' := .mpR (g.ρ rm) es a clock) (by intro h; cases h) ⟨o1, o2, rfl, o3, o4, o5, o6, o7⟩
    have hn := hR1.n
    have hR2 := hR1.newA (.mapIter (some (g.ρ rm)) clock #[] clock) (.it (g.ρ rm) clock #[] clock) (by
      simp only [ObjOk, Gh.obj]
      rw [if_pos hn.symm, if_pos hn.symm]
      exact ⟨hR1.bs, hR1.lim _ (Nat.le_refl _), rfl, heap_alloc_eq _ _⟩)
    have hE := Ext.obj hR1 (.mapIter (some (g.ρ rm)) clock #[] clock)
    refine ⟨_, _, _, .optr σ.objs.length 0, _, hrun, ⟨rfl, g.ρ rm, a, clock, rfl, ?_⟩, hE, hR2, ?_⟩
    · refine ⟨?_, ?_, ?_, o6, Nat.le_refl _, Nat.le_refl _, o7, rfl, List.nodup_nil, fun i h => by cases h⟩
      · simp only
        rw [List.getElem?_append_right (by simp)]
        simp
      · simp only
        rw [List.getElem?_append_left (by simpa using hrml), List.getElem?_set_self hrml]
      · have := o4.length
        simp at this
        omega
    · simp only [VR, Gh.obj]
      have hn2 : g.n = σ.objs.length := hR.n
      rw [if_pos hn2.symm, if_pos hn2.symm]
      refine ⟨⟨?_, ?_⟩, rfl⟩
      · show σ.objs.length < g.n + 1
        omega
      · show (if σ.objs.length = g.n then false else g.hid σ.objs.length) = false
        rw [if_pos hn2.symm]
  · rintro v σ1 ⟨rfl, b, a, clock, rfl, hI⟩
    exact h b a clock hI
theorem left_none {a : Array MapEntry} {seen : Array Nat} (h : (leftOf a seen).size = 0) {i : Nat} (hi : i < a.size) : seen.contains a[i].born = true := by
  have h1 := Array.eq_empty_of_size_eq_zero h
  cases hc : seen.contains a[i].born with
  | true => rfl
  | false =>
    exfalso
    have : a[i] ∈ leftOf a seen := by
      unfold leftOf
      rw [Array.mem_filter]
      exact ⟨Array.getElem_mem hi, by rw [hc]; rfl⟩
    rw [h1] at this
    simp at this
theorem seen_place {a : Array MapEntry} {es : List (V × V)} {seen : Array Nat} {vis : List Nat} (hs : seen.toList = vis.map fun i => (a.getD i default).born) (hsz : a.size = es.length) (hnd : (a.toList.map (·.born)).Nodup) (hlt : ∀ i ∈ vis, i < es.length) {i : Nat} (hi : i < a.size) : seen.contains a[i].born = true ↔ i ∈ vis := by
  rw [Array.contains_iff_mem, ← Array.mem_toList_iff, hs, List.mem_map]
  constructor
  · rintro ⟨j, hj, he⟩
    have hjl : j < a.size := by rw [hsz]; exact hlt j hj
    rw [Array.getD_eq_getD_getElem?, Array.getElem?_eq_getElem hjl, Option.getD_some] at he
    have h1 : (a.toList.map (·.born))[j]? = (a.toList.map (·.born))[i]? := by
      rw [List.getElem?_map, List.getElem?_map, Array.getElem?_toList, Array.getElem?_toList, Array.getElem?_eq_getElem hjl, Array.getElem?_eq_getElem hi]
      simp [he]
    have h2 := (List.getElem?_inj (by simpa using hjl) hnd).1 h1
    subst h2
    exact hj
  · intro hv
    exact ⟨i, hv, by rw [Array.getD_eq_getD_getElem?, Array.getElem?_eq_getElem hi, Option.getD_some]⟩
theorem NdO.next {ops : Array Oper} {o : Oper} {l : List Oper} {x : Operand} (ho : o.op = .next x false) (hg : o.guard = none) {e : Nat → V} {σ : St} {ri rm : Nat} {es : List (V × V)} {vis : List Nat} {b since : Nat} {a : Array MapEntry} {clock last : Nat} {seen : Array Nat}
    (hx : evs (env N e) x = some (.optr ri 0)) (hI : It σ ri rm es vis b since a clock last seen) (hne : ri ≠ rm) {Q : VX → (Nat → V) → St → Prop}
    (h1 : (∀ i, i < es.length → i ∈ vis) → NdO P base w0 N ops l (upd e o.dst (.tuple [.bool false])) σ Q)
    (h2 : ∀ i, i ∉ vis → ∀ (hi : i < es.length), It ⟨σ.objs.set ri (.it b since (seen.push (a.getD i default).born) clock), σ.toks⟩ ri rm es (vis ++ [i]) b since a clock clock (seen.push (a.getD i default).born) →
      NdO P base w0 N ops l (upd e o.dst (.tuple [.bool true, es[i].1, es[i].2])) ⟨σ.objs.set ri (.it b since (seen.push (a.getD i default).born) clock), σ.toks⟩ Q) :
    NdO P base w0 N ops (o :: l) e σ Q := by
  refine NdO.op hg (by rw [ho]; intro c h; cases h) (fun v σ1 => (v = .tuple [.bool false] ∧ σ1 = σ ∧ ∀ i, i < es.length → i ∈ vis) ∨ ∃ i, i ∉ vis ∧ ∃ hi : i < es.length, v = .tuple [.bool true, es[i].1, es[i].2] ∧ σ1 = ⟨σ.objs.set ri (.it b since (seen.push (a.getD i default).born) clock), σ.toks⟩) ?_ ?_
  · intro g w ac hR hT
    obtain ⟨i1, i2, i3, i4⟩ := hR.obj ri _ hI.it
    obtain ⟨m1, m2, m3, m4, m5, m6, m7, m8⟩ := hR.obj rm _ hI.mp
    have hxv := evs_ok hT hx
    simp only [VR] at hxv
    obtain ⟨hh, hxv⟩ := hxv
    rw [i3] at hxv
    rw [m3] at m4
    have hsz := hI.sz
    have hnx := run_next_at (P := P) w o.type (g.ρ ri) b since last seen a clock i4 m4 hI.old hI.sl
    rcases hnx with ⟨hl0, hrun⟩ | ⟨en, hen, w1, hw1, hrun⟩
    · refine ⟨.tuple #[.bool false], w, g, .tuple [.bool false], σ, ?_, .inl ⟨rfl, rfl, fun i hi => ?_⟩, Ext.refl _ _ _, hR, ?_⟩
      · simp [execOp, ho, hxv, hrun]
      · exact (seen_place hI.hvis hsz hI.nd hI.vlt (by omega)).1 (left_none hl0 (by omega))
      · simp [VR, VRs]
    · obtain ⟨hm1, hm2⟩ := mem_left hen
      obtain ⟨i, hi, rfl⟩ := List.mem_iff_getElem.1 hm1
      have hia : i < a.size := by simpa using hi
      have hie : i < es.length := by omega
      have hget : a.toList[i] = a[i] := by simp
      rw [hget] at hm2 hrun hm1
      have hgd : (a.getD i default).born = a[i].born := by rw [Array.getD_eq_getD_getElem?, Array.getElem?_eq_getElem hia, Option.getD_some]
      have hnv : i ∉ vis := fun hv => by rw [(seen_place hI.hvis hsz hI.nd hI.vlt hia).2 hv] at hm2; cases hm2
      have hR1 : Rel base w0 g σ w1 ∧ Ext g σ.toks w g σ.toks w1 := by
        rcases hw1 with rfl | rfl
        · exact ⟨hR, Ext.refl _ _ _⟩
        · exact ⟨hR.drew, Ext.drew _ _ _⟩
      have i4' : w1.heap[g.ρ ri]? = some (.mapIter (some b) since seen last) := by rcases hw1 with rfl | rfl <;> exact i4
      obtain ⟨hE2, hR2⟩ := hR1.1.blockSet hI.it (fun h => h) i1 i2 i4' (by intro _ _ _ h; cases h) (by intro _ h; cases h) (.mapIter (some b) since (seen.push a[i].born) clock) (.it b since (seen.push a[i].born) clock) (by intro h; cases h) (fun hE hs => ⟨i1, i2, i3, hs⟩)
      have hE := hR1.2.trans hE2
      refine ⟨.tuple #[.bool true, a[i].key, a[i].val], setBlock w1 (g.ρ ri) (.mapIter (some b) since (seen.push a[i].born) clock), g, .tuple [.bool true, es[i].1, es[i].2], _, by simp [execOp, ho, hxv, hrun], .inr ⟨i, hnv, hie, rfl, by rw [hgd]⟩, ?_, ?_, ?_⟩
      · exact hE
      · exact hR2
      · have k1 := VRs.get i (VRs.ext hE _ m5) (show (es.map (·.1))[i]? = some es[i].1 by simp [hie])
        have k2 := VRs.get i (VRs.ext hE _ m6) (show (es.map (·.2))[i]? = some es[i].2 by simp [hie])
        obtain ⟨u1, u1e, u1v⟩ := k1
        obtain ⟨u2, u2e, u2v⟩ := k2
        simp [hia] at u1e u2e
        simp only [VR]
        refine ⟨[.bool true, a[i].key, a[i].val], rfl, ?_⟩
        simp only [VRs]
        exact ⟨_, _, rfl, rfl, _, _, rfl, by rw [u1e]; exact u1v, _, _, rfl, by rw [u2e]; exact u2v, rfl⟩
  · rintro v σ1 (⟨rfl, rfl, hall⟩ | ⟨i, hnv, hi, rfl, rfl⟩)
    · exact h1 hall
    · refine h2 i hnv hi ⟨?_, ?_, hI.sz, hI.old, hI.sc, hI.sc, hI.nd, ?_, ?_, ?_⟩
      · exact List.getElem?_set_self (List.getElem?_eq_some_iff.1 hI.it).1
      · simp only; rw [List.getElem?_set_ne hne]; exact hI.mp
      · simp [hI.hvis]
      · exact List.nodup_append.2 ⟨hI.vnd, by simp, fun x hx y hy => by simp at hy; subst hy; rintro rfl; exact hnv hx⟩
      · intro j hj
        rcases List.mem_append.1 hj with hj | hj
        · exact hI.vlt j hj
        · simp at hj; subst hj; exact hi
theorem NdO.entry {ops : Array Oper} {o : Oper} {l : List Oper} {x : Operand} (ho : o.op = .entry x) (hg : o.guard = none) {e : Nat → V} {σ : St} {ri rm : Nat} {es : List (V × V)} {vis : List Nat} {i : Nat} {b since : Nat} {a : Array MapEntry} {clock : Nat} {seen : Array Nat}
    (hx : evs (env N e) x = some (.optr ri 0)) (hI : It σ ri rm es (vis ++ [i]) b since a clock clock (seen.push (a.getD i default).born)) (hi : i < es.length) {Q : VX → (Nat → V) → St → Prop}
    (h : NdO P base w0 N ops l (upd e o.dst (.tuple [es[i].1, es[i].2])) σ Q) : NdO P base w0 N ops (o :: l) e σ Q := by
  refine NdO.op hg (by rw [ho]; intro c h; cases h) (fun v σ1 => v = .tuple [es[i].1, es[i].2] ∧ σ1 = σ) ?_ ?_
  · intro g w ac hR hT
    obtain ⟨i1, i2, i3, i4⟩ := hR.obj ri _ hI.it
    obtain ⟨m1, m2, m3, m4, m5, m6, m7, m8⟩ := hR.obj rm _ hI.mp
    have hxv := evs_ok hT hx
    simp only [VR] at hxv
    obtain ⟨hh, hxv⟩ := hxv
    rw [i3] at hxv
    rw [m3] at m4
    have hia : i < a.size := by rw [hI.sz]; exact hi
    have hgd : (a.getD i default).born = a[i].born := by rw [Array.getD_eq_getD_getElem?, Array.getElem?_eq_getElem hia, Option.getD_some]
    rw [hgd] at i4
    have hrun := run_entry_at (P := P) w (g.ρ ri) b since seen a clock a[i] i4 m4 (by simp) hI.nd
    refine ⟨.tuple #[a[i].key, a[i].val], w, g, _, σ, by simp [execOp, ho, hxv, hrun], ⟨rfl, rfl⟩, Ext.refl _ _ _, hR, ?_⟩
    have k1 := VRs.get i m5 (show (es.map (·.1))[i]? = some es[i].1 by simp [hi])
    have k2 := VRs.get i m6 (show (es.map (·.2))[i]? = some es[i].2 by simp [hi])
    obtain ⟨u1, u1e, u1v⟩ := k1
    obtain ⟨u2, u2e, u2v⟩ := k2
    simp [hia] at u1e u2e
    simp only [VR]
    refine ⟨[a[i].key, a[i].val], rfl, ?_⟩
    simp only [VRs]
    exact ⟨_, _, rfl, by rw [u1e]; exact u1v, _, _, rfl, by rw [u2e]; exact u2v, rfl⟩
  · rintro v σ1 ⟨rfl, rfl⟩
    exact h
/-! ### Of a call -/
theorem CallOk.nd {f : FuncId} {fn : Func} {c : Code} (hfn : P.funcs[f]? = some fn) (hc : fn.body = some c) {vs : List V} {σ σ' : St} {v : V} (hl : vs.length ≤ fn.ntmps)
    (h : Nd P base w0 fn.ntmps c (fun i => vs.getD i (.tuple [])) σ fun x e σ1 => (x = .normal ∨ x = .ret) ∧ ∃ rs, vresults P σ1 (env fn.ntmps e) fn.results.toList = some rs ∧ vtuple rs = v ∧ σ1 = σ') : CallOk P base w0 f vs σ (.ret v) σ' := by
  intro g w us hR hV
  have hF := frame_ok (us := us.toArray) (by simpa using hV) fn.ntmps
  rw [env_start vs hl] at hF
  refine calls_of_wp hfn hc (wp_mono (h g w { tmps := us.toArray ++ Array.replicate (fn.ntmps - us.toArray.size) undef, defers := [] } hR hF) fun e a1 w1 hp => ?_)
  obtain ⟨x, e1, σ1, g1, ⟨hx, rs, hrs, hv, rfl⟩, _, hE, hR1, hxo, hT1, hd⟩ := hp
  obtain ⟨u, hu, hV2⟩ := results_ok hR1 hT1 hrs
  rw [hv] at hV2
  rcases hx with rfl | rfl
  · simp only [XOk] at hxo
    subst hxo
    exact ⟨hd, u, hu, g1, hE, hR1, u, rfl, hV2⟩
  · simp only [XOk] at hxo
    subst hxo
    exact ⟨hd, u, hu, g1, hE, hR1, u, rfl, hV2⟩
/-! ### Parts of code -/
def subC : List Bool → Code → Code
  | [], c => c
  | false :: p, .seq a _ => subC p a
  | true :: p, .seq _ b => subC p b
  | false :: p, .cond _ a _ => subC p a
  | true :: p, .cond _ _ b => subC p b
  | _ :: p, .block _ c => subC p c
  | _ :: p, .loop c => subC p c
  | _, c => c
def regOps : Code → Array Oper
  | .region _ ops _ => ops
  | _ => #[]
/-! ### What has run may be told in another way -/
theorem Nd.post {c : Code} {e : Nat → V} {σ : St} {Q Q' : VX → (Nat → V) → St → Prop} (h : Nd P base w0 N c e σ Q')
    (hq : ∀ x e1 σ1, Q' x e1 σ1 → ∃ e2 σ2, Q x e2 σ2 ∧ ∀ g0 W g w tm, Rel base w0 g0 σ W → Ext g0 σ.toks W g σ1.toks w → Rel base w0 g σ1 w → VRs g σ1.toks w (env N e1) tm → ∃ g1, Ext g0 σ.toks W g1 σ2.toks w ∧ Rel base w0 g1 σ2 w ∧ VRs g1 σ2.toks w (env N e2) tm) :
    Nd P base w0 N c e σ Q := fun g w a hR hT => by
  refine wp_mono (h g w a hR hT) fun e1 a' w' hp => ?_
  obtain ⟨x, e2, σ', g', h1, h2, h3, h4, h5, h6, h7⟩ := hp
  obtain ⟨e3, σ3, k1, k2⟩ := hq x e2 σ' h1
  obtain ⟨g1, k3, k4, k5⟩ := k2 g w g' w' _ hR h3 h4 h6
  refine ⟨x, e3, σ3, g1, k1, h2, k3, k4, ?_, k5, h7⟩
  cases x with
  | pan v => exact absurd rfl (h2 v)
  | normal => exact h5
  | ret => exact h5
  | exit id => exact h5
/-! ### The last object takes the place of one that is yet to be born -/
def Gh.move (g : Gh) (N j : Nat) : Gh := { g with n := N, hid := fun r => if r = j then false else g.hid r, ρ := fun r => if r = j then g.ρ N else g.ρ r, ob := fun r => if r = j then g.ob N else g.ob r }
mutual
/-- A value under another name for one object. -/
def renV (N j : Nat) : V → V
  | .optr r o => .optr (if r = N then j else r) o
  | .eptr cs o => .eptr (renVs N j cs) o
  | .slice p z cs n => .slice p z (renVs N j cs) n
  | .hslice r o z n => .hslice (if r = N then j else r) o z n
  | .func f cs => .func f (renVs N j cs)
  | .iface t v => .iface t (renV N j v)
  | .agg cs => .agg (renVs N j cs)
  | .tuple cs => .tuple (renVs N j cs)
  | .omap r => .omap (if r = N then j else r)
  | .yld r => .yld (if r = N then j else r)
  | v => v
def renVs (N j : Nat) : List V → List V
  | [] => []
  | v :: vs => renV N j v :: renVs N j vs
end
theorem renVs_map (N j : Nat) : ∀ vs, renVs N j vs = vs.map (renV N j)
  | [] => rfl
  | v :: vs => by simp [renVs, renVs_map N j vs]
theorem renVs_length (N j : Nat) (vs : List V) : (renVs N j vs).length = vs.length := by rw [renVs_map, List.length_map]
section
variable {g : Gh} {s : List Bool} {w : World} {N j : Nat}
theorem has_move (hn : g.n = N + 1) (hjN : j < N) (hj : g.hid j = true) {r : Nat} (h : g.has r) : (g.move N j).has (if r = N then j else r) ∧ (g.move N j).ρ (if r = N then j else r) = g.ρ r ∧ (g.move N j).ob (if r = N then j else r) = g.ob r := by
  by_cases e : r = N
  · subst e
    rw [if_pos rfl]
    exact ⟨⟨hjN, by simp [Gh.move]⟩, by simp [Gh.move], by simp [Gh.move]⟩
  · rw [if_neg e]
    have hrj : r ≠ j := fun h2 => by subst h2; rw [h.2] at hj; cases hj
    have h1 := h.1
    exact ⟨⟨by show r < N; omega, by simp [Gh.move, hrj, h.2]⟩, by simp [Gh.move, hrj], by simp [Gh.move, hrj]⟩
mutual
theorem VR.move (hn : g.n = N + 1) (hjN : j < N) (hj : g.hid j = true) : ∀ (v : V) {x : Value}, VR g s w v x → VR (g.move N j) s w (renV N j v) x
  | .bool b, x, h => by simpa only [VR, renV] using h
  | .int k n, x, h => by simpa only [VR, renV] using h
  | .str _, x, h => by simpa only [VR, renV] using h
  | .nilp, x, h => by simpa only [VR, renV] using h
  | .optr r off, x, h => by
    simp only [VR, renV] at h ⊢
    obtain ⟨h1, h2, h3⟩ := has_move hn hjN hj h.1
    exact ⟨h1, by rw [h2, h3]; exact h.2⟩
  | .eptr cs off, x, h => by
    simp only [VR, renV] at h ⊢
    obtain ⟨b, o, us, hx, hr, hc⟩ := h
    exact ⟨b, o, us, hx, hr, VRs.move hn hjN hj cs hc⟩
  | .nils, x, h => by simpa only [VR, renV] using h
  | .slice p esz cs len, x, h => by
    simp only [VR, renV] at h ⊢
    obtain ⟨ad, cap, us, hx, hl, hc, hm, hr, hs, hp⟩ := h
    exact ⟨ad, cap, us, hx, by rw [renVs_length]; exact hl, hc, hm, hr, VRs.move hn hjN hj cs hs, hp⟩
  | .hslice r off esz len, x, h => by
    simp only [VR, renV] at h ⊢
    obtain ⟨h1, h2, h3⟩ := has_move hn hjN hj h.1
    obtain ⟨hr, cap, hx, hc, hm, hb⟩ := h
    exact ⟨h1, cap, by rw [h2, h3]; exact hx, hc, hm, by rw [h2, h3]; exact hb⟩
  | .func f caps, x, h => by
    simp only [VR, renV] at h ⊢
    obtain ⟨us, hx, hc⟩ := h
    exact ⟨us, hx, VRs.move hn hjN hj caps hc⟩
  | .nilf, x, h => by simpa only [VR, renV] using h
  | .iface t v, x, h => by
    simp only [VR, renV] at h ⊢
    obtain ⟨u, hx, hc⟩ := h
    exact ⟨u, hx, VR.move hn hjN hj v hc⟩
  | .nili, x, h => by simpa only [VR, renV] using h
  | .agg cs, x, h => by
    simp only [VR, renV] at h ⊢
    obtain ⟨us, hx, hc⟩ := h
    exact ⟨us, hx, VRs.move hn hjN hj cs hc⟩
  | .tuple cs, x, h => by
    simp only [VR, renV] at h ⊢
    obtain ⟨us, hx, hc⟩ := h
    exact ⟨us, hx, VRs.move hn hjN hj cs hc⟩
  | .nilm, x, h => by simpa only [VR, renV] using h
  | .omap r, x, h => by
    simp only [VR, renV] at h ⊢
    obtain ⟨h1, h2, h3⟩ := has_move hn hjN hj h.1
    exact ⟨h1, by rw [h2]; exact h.2⟩
  | .yld r, x, h => by
    simp only [VR, renV] at h ⊢
    obtain ⟨h1, h2, h3⟩ := has_move hn hjN hj h.1
    exact ⟨h1, by rw [h2]; exact h.2⟩
theorem VRs.move (hn : g.n = N + 1) (hjN : j < N) (hj : g.hid j = true) : ∀ (vs : List V) {us : List Value}, VRs g s w vs us → VRs (g.move N j) s w (renVs N j vs) us
  | [], us, h => by simpa only [VRs, renVs] using h
  | v :: vs, us, h => by
    simp only [VRs, renVs] at h ⊢
    obtain ⟨u, us', hu, hv, hvs⟩ := h
    exact ⟨u, us', hu, VR.move hn hjN hj v hv, VRs.move hn hjN hj vs hvs⟩
end
mutual
/-- What was said of a value ahead of that object's birth: it does not name it. -/
theorem VR.ren_old (hN : ¬ g.has N) : ∀ (v : V) {x : Value}, VR g s w v x → renV N j v = v
  | .bool b, x, h => rfl
  | .int k n, x, h => rfl
  | .str _, x, h => rfl
  | .nilp, x, h => rfl
  | .optr r off, x, h => by
    simp only [VR] at h
    simp only [renV]
    rw [if_neg (fun e => hN (by rw [← e]; exact h.1))]
  | .eptr cs off, x, h => by
    simp only [VR] at h
    obtain ⟨b, o, us, hx, hr, hc⟩ := h
    simp only [renV, VRs.ren_old hN cs hc]
  | .nils, x, h => rfl
  | .slice p esz cs len, x, h => by
    simp only [VR] at h
    obtain ⟨ad, cap, us, hx, hl, hc, hm, hr, hs, hp⟩ := h
    simp only [renV, VRs.ren_old hN cs hs]
  | .hslice r off esz len, x, h => by
    simp only [VR] at h
    simp only [renV]
    rw [if_neg (fun e => hN (by rw [← e]; exact h.1))]
  | .func f caps, x, h => by
    simp only [VR] at h
    obtain ⟨us, hx, hc⟩ := h
    simp only [renV, VRs.ren_old hN caps hc]
  | .nilf, x, h => rfl
  | .iface t v, x, h => by
    simp only [VR] at h
    obtain ⟨u, hx, hc⟩ := h
    simp only [renV, VR.ren_old hN v hc]
  | .nili, x, h => rfl
  | .agg cs, x, h => by
    simp only [VR] at h
    obtain ⟨us, hx, hc⟩ := h
    simp only [renV, VRs.ren_old hN cs hc]
  | .tuple cs, x, h => by
    simp only [VR] at h
    obtain ⟨us, hx, hc⟩ := h
    simp only [renV, VRs.ren_old hN cs hc]
  | .nilm, x, h => rfl
  | .omap r, x, h => by
    simp only [VR] at h
    simp only [renV]
    rw [if_neg (fun e => hN (by rw [← e]; exact h.1))]
  | .yld r, x, h => by
    simp only [VR] at h
    simp only [renV]
    rw [if_neg (fun e => hN (by rw [← e]; exact h.1))]
theorem VRs.ren_old (hN : ¬ g.has N) : ∀ (vs : List V) {us : List Value}, VRs g s w vs us → renVs N j vs = vs
  | [], us, h => rfl
  | v :: vs, us, h => by
    simp only [VRs] at h
    obtain ⟨u, us', hu, hv, hvs⟩ := h
    simp only [renVs, VR.ren_old hN v hv, VRs.ren_old hN vs hvs]
end
end
/-- An object under another name for one. -/
def renO (N j : Nat) : Ob → Ob
  | .cells cs => .cells (renVs N j cs)
  | .tcells t cs => .tcells t (renVs N j cs)
  | .mp es => .mp (es.map fun e => (renV N j e.1, renV N j e.2))
  | .mpR b es a c => .mpR b (es.map fun e => (renV N j e.1, renV N j e.2)) a c
  | .lp tm p a b => .lp (renVs N j tm) p a b
  | .lpB tm p a b => .lpB (renVs N j tm) p a b
  | o => o
theorem renO_gone {N j : Nat} {o : Ob} : (renO N j o).gone ↔ o.gone := by cases o <;> exact Iff.rfl
theorem renO_unb {N j : Nat} {o : Ob} : renO N j o = .unb ↔ o = .unb := by cases o <;> simp [renO]
theorem ObjOk.ren_old {g : Gh} {s : List Bool} {w : World} {r N j : Nat} {o : Ob} (hN : ¬ g.has N) (h : ObjOk base g s w r o) : renO N j o = o := by
  have hm : ∀ (es : List (V × V)) (ks vs : List Value), VRs g s w (es.map (·.1)) ks → VRs g s w (es.map (·.2)) vs → (es.map fun e => (renV N j e.1, renV N j e.2)) = es := by
    intro es ks vs h1 h2
    have e1 := VRs.ren_old (j := j) hN _ h1
    have e2 := VRs.ren_old (j := j) hN _ h2
    rw [renVs_map, List.map_map] at e1 e2
    apply List.ext_getElem
    · simp
    · intro i hi hi2
      have g1 := congrArg (·[i]?) e1
      have g2 := congrArg (·[i]?) e2
      simp [hi2] at g1 g2
      simp [g1, g2]
  cases o with
  | dead => rfl
  | unb => rfl
  | cells cs => obtain ⟨_, _, c, ty, us, _, h4, _⟩ := h; simp only [renO, VRs.ren_old hN cs h4]
  | tcells t cs => obtain ⟨_, _, _, us, _, h4⟩ := h; simp only [renO, VRs.ren_old hN cs h4]
  | mp es => obtain ⟨_, _, a, cl, _, h1, h2, _⟩ := h; simp only [renO, hm es _ _ h1 h2]
  | mpR b es a c => obtain ⟨_, _, _, _, h1, h2, _⟩ := h; simp only [renO, hm es _ _ h1 h2]
  | lp tm p a b => obtain ⟨_, _, fn, df, us, _, h4⟩ := h; simp only [renO, VRs.ren_old hN tm h4]
  | lpB tm p a b => obtain ⟨_, _, fn, df, us, _, h4⟩ := h; simp only [renO, VRs.ren_old hN tm h4]
  | lpD c => rfl
  | it b a c d => rfl
theorem ObjOk.move {g : Gh} {s : List Bool} {w : World} {r N j : Nat} {o : Ob} (hn : g.n = N + 1) (hjN : j < N) (hj : g.hid j = true) (hr : g.has r) (h : ObjOk base g s w r o) : ObjOk base (g.move N j) s w (if r = N then j else r) (renO N j o) := by
  obtain ⟨h1, h2, h3⟩ := has_move hn hjN hj hr
  have hm : ∀ (es : List (V × V)) (ks vs : List Value), VRs g s w (es.map (·.1)) ks → VRs g s w (es.map (·.2)) vs →
      VRs (g.move N j) s w ((es.map fun e => (renV N j e.1, renV N j e.2)).map (·.1)) ks ∧ VRs (g.move N j) s w ((es.map fun e => (renV N j e.1, renV N j e.2)).map (·.2)) vs := by
    intro es ks vs k1 k2
    have e1 := VRs.move hn hjN hj _ k1
    have e2 := VRs.move hn hjN hj _ k2
    rw [renVs_map, List.map_map] at e1 e2
    simp only [List.map_map]
    exact ⟨e1, e2⟩
  have hL : (g.move N j).L = g.L := rfl
  cases o with
  | dead => trivial
  | unb => trivial
  | cells cs =>
    obtain ⟨k1, k2, c, ty, us, k3, k4, k5, k6⟩ := h
    simp only [ObjOk, renO]
    rw [h2, h3, hL]
    exact ⟨k1, k2, c, ty, us, k3, VRs.move hn hjN hj cs k4, k5, k6⟩
  | tcells t cs =>
    obtain ⟨k1, k2, k0, us, k3, k4⟩ := h
    simp only [ObjOk, renO]
    rw [h2, h3, hL]
    exact ⟨k1, k2, k0, us, k3, VRs.move hn hjN hj cs k4⟩
  | mp es =>
    obtain ⟨k1, k2, a, cl, k3, k4, k5, k6⟩ := h
    obtain ⟨m1, m2⟩ := hm es _ _ k4 k5
    simp only [ObjOk, renO]
    rw [h2, hL]
    exact ⟨k1, k2, a, cl, k3, m1, m2, k6⟩
  | mpR b es a c =>
    obtain ⟨k1, k2, k0, k3, k4, k5, k6⟩ := h
    obtain ⟨m1, m2⟩ := hm es _ _ k4 k5
    simp only [ObjOk, renO]
    rw [h2, hL]
    exact ⟨k1, k2, k0, k3, m1, m2, k6⟩
  | lp tm p a b =>
    obtain ⟨k1, k2, fn, df, us, k3, k4⟩ := h
    simp only [ObjOk, renO]
    rw [h2, hL]
    exact ⟨k1, k2, fn, df, us, k3, VRs.move hn hjN hj tm k4⟩
  | lpB tm p a b =>
    obtain ⟨k1, k2, fn, df, us, k3, k4⟩ := h
    simp only [ObjOk, renO]
    rw [h2, hL]
    exact ⟨k1, k2, fn, df, us, k3, VRs.move hn hjN hj tm k4⟩
  | lpD c =>
    obtain ⟨k1, k2, rec, k3, k4⟩ := h
    simp only [ObjOk, renO]
    rw [h2, hL]
    exact ⟨k1, k2, rec, k3, k4⟩
  | it b a c d =>
    obtain ⟨k1, k2, k3, k4⟩ := h
    simp only [ObjOk, renO]
    rw [h2, h3, hL]
    exact ⟨k1, k2, k3, k4⟩
theorem Rel.move {g : Gh} {A : List Ob} {o : Ob} {toks : List Bool} {w : World} (h : Rel base w0 g ⟨A ++ [o], toks⟩ w) {j : Nat} (hj : A[j]? = some .unb) (ho : o ≠ .unb) : Rel base w0 (g.move A.length j) ⟨(A.map (renO A.length j)).set j (renO A.length j o), toks⟩ w := by
  have hjl := (List.getElem?_eq_some_iff.1 hj).1
  have hn : g.n = A.length + 1 := by rw [h.n]; simp
  have hjh : g.hid j = true := (h.hid j).2 (by simp only; rw [List.getElem?_append_left hjl]; exact hj)
  have hNh : g.hid A.length = false := by
    cases hc : g.hid A.length with
    | false => rfl
    | true =>
      have := (h.hid _).1 hc
      simp at this
      exact absurd this ho
  -- back to the old places
  have back : ∀ r o', ((A.map (renO A.length j)).set j (renO A.length j o))[r]? = some o' → ∃ q o1, (A ++ [o])[q]? = some o1 ∧ o' = renO A.length j o1 ∧ r = (if q = A.length then j else q) ∧ (q = A.length ↔ r = j) := by
    intro r o' hr
    rw [List.getElem?_set] at hr
    by_cases e : j = r
    · subst e
      rw [if_pos rfl, if_pos (by simpa using hjl)] at hr
      injection hr with hr
      exact ⟨A.length, o, by simp, hr.symm, by rw [if_pos rfl], by simp⟩
    · rw [if_neg e, List.getElem?_map, Option.map_eq_some_iff] at hr
      obtain ⟨o1, h1, h2⟩ := hr
      have hrl := (List.getElem?_eq_some_iff.1 h1).1
      refine ⟨r, o1, by rw [List.getElem?_append_left hrl]; exact h1, h2.symm, by rw [if_neg (by omega)], ?_⟩
      constructor
      · intro h; omega
      · intro h; exact absurd h.symm e
  have alive : ∀ r, aliveAt ((A.map (renO A.length j)).set j (renO A.length j o)) r → ∃ q, aliveAt (A ++ [o]) q ∧ r = (if q = A.length then j else q) ∧ (q = A.length ↔ r = j) := by
    intro r ⟨o', h1, h2⟩
    obtain ⟨q, o1, k1, k2, k3, k4⟩ := back r o' h1
    exact ⟨q, ⟨o1, k1, fun hg => h2 (by rw [k2]; exact renO_gone.2 hg)⟩, k3, k4⟩
  exact {
    below := h.below
    bs := h.bs
    n := by simp [Gh.move]
    hid := fun r => by
      simp only [Gh.move]
      by_cases e : r = j
      · subst e
        rw [if_pos rfl, List.getElem?_set_self (by simpa using hjl)]
        constructor
        · intro h; cases h
        · intro h; injection h with h; exact absurd (renO_unb.1 h) ho
      · rw [if_neg e, List.getElem?_set_ne (Ne.symm e), List.getElem?_map, h.hid r]
        rcases Nat.lt_or_ge r A.length with h1 | h1
        · simp only
          rw [List.getElem?_append_left h1, List.getElem?_eq_getElem h1]
          simp [renO_unb]
        · rw [List.getElem?_eq_none h1]
          simp only [Option.map_none, reduceCtorEq, iff_false]
          intro h2
          have h3 := (List.getElem?_eq_some_iff.1 h2).1
          simp only [List.length_append, List.length_singleton] at h3
          have : r = A.length := by omega
          subst this
          simp at h2
          exact ho h2
    obj := fun r o' hr => by
      obtain ⟨q, o1, k1, rfl, k3, _⟩ := back r o' hr
      by_cases hg : o1.gone
      · exact ObjOk.gone (renO_gone.2 hg)
      · rw [k3]
        exact (h.obj q o1 k1).move hn hjl hjh ((h.hasO k1).resolve_right hg)
    inj := fun a b ha hb he => by
      obtain ⟨q, hq, hqa, hqe⟩ := alive a ha
      obtain ⟨q', hq', hqa', hqe'⟩ := alive b hb
      obtain ⟨_, k2, _⟩ := has_move hn hjl hjh (h.hasA hq)
      obtain ⟨_, k2', _⟩ := has_move hn hjl hjh (h.hasA hq')
      rw [hqa, hqa', k2, k2'] at he
      have := h.inj q q' hq hq' he
      rw [hqa, hqa', this]
    tok := fun t ht => by
      obtain ⟨h1, h2, h3⟩ := h.tok t ht
      refine ⟨h1, h2, fun a ha => ?_⟩
      obtain ⟨q, hq, hqa, _⟩ := alive a ha
      obtain ⟨_, k2, _⟩ := has_move hn hjl hjh (h.hasA hq)
      rw [hqa, k2]
      exact h3 q hq
    tinj := h.tinj
    lim := h.lim }
theorem Ext.move {g0 g : Gh} {s0 s : List Bool} {W w : World} (h : Ext g0 s0 W g s w) {N j : Nat} (h0 : g0.n ≤ N) (hj : ¬ g0.has j) : Ext g0 s0 W (g.move N j) s w where
  n := h0
  has r hr := by
    have := hr.1
    have hrj : r ≠ j := fun e => hj (by rw [← e]; exact hr)
    exact ⟨by show r < N; omega, by simp [Gh.move, hrj, (h.has r hr).2]⟩
  ρ r hr := by
    have hrj : r ≠ j := fun e => hj (by rw [← e]; exact hr)
    simp only [Gh.move]; rw [if_neg hrj]; exact h.ρ r hr
  ob r hr := by
    have hrj : r ≠ j := fun e => hj (by rw [← e]; exact hr)
    simp only [Gh.move]; rw [if_neg hrj]; exact h.ob r hr
  L := h.L
  cells := h.cells
  shape := h.shape
  dfr := h.dfr
  nt := h.nt
  tok := h.tok
/-! ### A world behind which nothing that lay before has turned -/
theorem Rel.later {g : Gh} {σ : St} {w w' : World} (h : Rel base w0 g σ w) (hb : Below w.heap.size w w') : Ext g σ.toks w g σ.toks w' ∧ Rel base w0 g σ w' := by
  have old : ∀ k, k < w.heap.size → w'.heap[k]? = w.heap[k]? := hb.block
  have E : Ext g σ.toks w g σ.toks w' := {
    n := Nat.le_refl _
    has := fun _ h => h
    ρ := fun _ _ => rfl
    ob := fun _ _ => rfl
    L := fun _ => Nat.le_refl _
    cells := fun b q hlo => by
      have hbl : b < w.heap.size := by
        rcases Nat.lt_or_ge b w.heap.size with h1 | h1
        · exact h1
        · rw [h.lim b h1] at hlo; omega
      exact cell?_heap (old b hbl) q
    shape := fun b c ty fr hbb => ⟨c, fr, by rw [old b (Array.getElem?_eq_some_iff.1 hbb).1]; exact hbb, rfl, .inl rfl⟩
    dfr := fun b x hbb => by rw [old b (Array.getElem?_eq_some_iff.1 hbb).1]; exact hbb
    nt := Nat.le_refl _
    tok := fun s _ hl => ⟨hl, rfl, rfl⟩ }
  refine ⟨E, {
    below := h.below.trans ⟨hb.os, hb.tape, hb.output, hb.size, fun k hk => old k (by have := h.bs; omega)⟩
    bs := by have := h.bs; have := hb.size; omega
    n := h.n
    hid := h.hid
    obj := fun r o ho => by
      by_cases hg : o.gone
      · exact ObjOk.gone hg
      · have hlt := (h.obj r o ho).lt hg
        exact (h.obj r o ho).ext E (h.hasO ho) (old _ hlt) rfl
    inj := h.inj
    tok := fun t ht => by obtain ⟨h1, h2, h3⟩ := h.tok t ht; exact ⟨h1, by have := hb.size; omega, h3⟩
    tinj := h.tinj
    lim := fun b hbb => h.lim b (by have := hb.size; omega) }⟩
/-- A block that is there becomes an object. -/
theorem Rel.adopt {g : Gh} {σ : St} {w : World} (h : Rel base w0 g σ w) {B : Nat} {cs : List V} (hB : B < w.heap.size) (hal : ∀ r, aliveAt σ.objs r → g.ρ r ≠ B) (htk : ∀ t, tokLive σ.toks t = true → g.tk t ≠ B) (hL : g.L B = 0)
    {c : Array Value} {ty : TypeId} {us : List Value} (hbase : base ≤ B) (hc : w.heap[B]? = some (.cells c ty (0, 0))) (hv : VRs g σ.toks w cs us) (hus : c.toList.take us.length = us) :
    Ext g σ.toks w (g.obj B) σ.toks w ∧ Rel base w0 (g.obj B) ⟨σ.objs ++ [.cells cs], σ.toks⟩ w := by
  have E : Ext g σ.toks w (g.obj B) σ.toks w := {
    n := by simp [Gh.obj]
    has := fun r hr => by obtain ⟨h1, h2⟩ := hr; exact ⟨by simp [Gh.obj]; omega, by simp only [Gh.obj]; rw [if_neg (by omega)]; exact h2⟩
    ρ := fun r hr => by have := hr.1; simp only [Gh.obj]; rw [if_neg (by omega)]
    ob := fun r hr => by have := hr.1; simp only [Gh.obj]; rw [if_neg (by omega)]
    L := fun _ => Nat.le_refl _
    cells := fun _ _ _ => rfl
    shape := fun b c t fr hb => ⟨c, fr, hb, rfl, .inl rfl⟩
    dfr := fun _ _ h => h
    nt := Nat.le_refl _
    tok := fun t ht hl => ⟨hl, rfl, rfl⟩ }
  have hle : us.length ≤ c.size := by
    have := congrArg List.length hus
    rw [List.length_take] at this
    have h2 : c.toList.length = c.size := Array.length_toList
    omega
  refine ⟨E, {
    below := h.below
    bs := h.bs
    n := by simp [Gh.obj, h.n]
    hid := fun r => by
      simp only [Gh.obj]
      rcases Nat.lt_or_ge r σ.objs.length with h1 | h1
      · rw [if_neg (by rw [h.n]; omega), List.getElem?_append_left h1]
        exact h.hid r
      · have h2 : g.hid r = false := by
          cases e : g.hid r with
          | false => rfl
          | true => have := (List.getElem?_eq_some_iff.1 ((h.hid r).1 e)).1; omega
        rw [h2]
        constructor
        · intro h; split at h <;> cases h
        · intro hu
          have h3 := (List.getElem?_eq_some_iff.1 hu).1
          simp only [List.length_append, List.length_singleton] at h3
          have : r = σ.objs.length := by omega
          subst this
          simp at hu
    obj := fun r ob hob => by
      rcases Nat.lt_or_ge r σ.objs.length with h1 | h1
      · rw [List.getElem?_append_left h1] at hob
        exact (h.obj r ob hob).ext E (h.hasO hob) rfl rfl
      · have hr : r = σ.objs.length := by
          have := (List.getElem?_eq_some_iff.1 hob).1
          simp only [List.length_append, List.length_singleton] at this
          omega
        subst hr
        simp at hob
        subst hob
        simp only [ObjOk, Gh.obj]
        rw [if_pos h.n.symm, if_pos h.n.symm]
        refine ⟨hbase, hL, c, ty, us, hc, VRs.ext E cs hv, by omega, fun i u hu => ?_⟩
        have hil : i < us.length := (List.getElem?_eq_some_iff.1 hu).1
        rw [← hus, List.getElem?_take_of_lt hil] at hu
        rw [Nat.zero_add]
        simpa using hu
    inj := fun r r' hr hr' he => by
      simp only [Gh.obj] at he
      rcases alive_append hr with h1 | h1 <;> rcases alive_append hr' with h2 | h2
      · have a := alive_lt h1
        have b := alive_lt h2
        rw [if_neg (by rw [h.n]; omega), if_neg (by rw [h.n]; omega)] at he
        exact h.inj r r' h1 h2 he
      · have a := alive_lt h1
        rw [if_neg (by rw [h.n]; omega), if_pos (by rw [h.n]; exact h2)] at he
        exact absurd he (hal r h1)
      · have b := alive_lt h2
        rw [if_neg (c := r' = g.n) (by rw [h.n]; omega), if_pos (by rw [h.n]; exact h1)] at he
        exact absurd he.symm (hal r' h2)
      · omega
    tok := fun t ht => by
      obtain ⟨h1, h2, h3⟩ := h.tok t ht
      refine ⟨h1, h2, fun r hr => ?_⟩
      simp only [Gh.obj]
      rcases alive_append hr with h4 | h4
      · have a := alive_lt h4
        rw [if_neg (by rw [h.n]; omega)]
        exact h3 r h4
      · rw [if_pos (by rw [h.n]; exact h4)]
        exact Ne.symm (htk t ht)
    tinj := h.tinj
    lim := h.lim }⟩
end
end Go.Proofs.Ytnbmfhnfmhgaaaa.Q

/- Objects: what pointers read and write. -/
set_option linter.unusedVariables false
set_option linter.unusedSimpArgs false
namespace Go.Proofs.Ytnbmfhnfmhgaaaa.Q
open Go Go.RowKit
theorem vcells_one {v : V} (h : one v = true) : vcells v = [v] := by
  cases v <;> first | rfl | cases h
theorem BtsV.one {v : V} {bs : List UInt8} (h : BtsV v bs) : one v = true := by
  rcases h with ⟨rfl, _⟩ | ⟨p, rfl⟩ <;> rfl
section
variable {P : Program}
theorem vload_obj {objs : List Ob} {r off : Nat} {cs : List V} {t : TypeId} (h : objs[r]? = some (.cells cs)) (ha : isAggT P t = some false) : vload P objs t (.optr r off) = cs[off]? := by
  simp [vload, vcellsAt, h, vpart, ha]
theorem vstore_obj {σ : St} {r off : Nat} {cs : List V} {t : TypeId} {v : V} (h : σ.objs[r]? = some (.cells cs)) (hs : sizeT P t = some 1) (h1 : one v = true) (hl : off < cs.length) : vstore P σ t (.optr r off) v = some ⟨σ.objs.set r (.cells (cs.set off v)), σ.toks⟩ := by
  have h2 : off + 1 ≤ cs.length := hl
  simp [vstore, h, hs, vcells_one h1, h1, h2, setAll]
theorem eql_nilp {t u : TypeId} {xo yo : Operand} (ht : P.underlying t = some (.pointer u)) : vbin P .eql t xo yo .nilp .nilp = some (.bool true) := by
  simp [vbin, bothSame, guardFree, aggEq, ht]
theorem eql_optr {t u : TypeId} {xo yo : Operand} {r o : Nat} (ht : P.underlying t = some (.pointer u)) : vbin P .eql t xo yo (.optr r o) .nilp = some (.bool false) := by
  simp [vbin, bothSame, guardFree, aggEq, ht]
theorem neq_nilp {t u : TypeId} {xo yo : Operand} (ht : P.underlying t = some (.pointer u)) : vbin P .neq t xo yo .nilp .nilp = some (.bool false) := by
  simp [vbin, bothSame, guardFree, aggEq, ht]
theorem neq_optr {t u : TypeId} {xo yo : Operand} {r o : Nat} (ht : P.underlying t = some (.pointer u)) : vbin P .neq t xo yo (.optr r o) .nilp = some (.bool true) := by
  simp [vbin, bothSame, guardFree, aggEq, ht]
end
theorem ofVal_nilp : ofVal (.pointer none) = some .nilp := rfl
theorem vnil_optr {r o : Nat} : vnil (.optr r o) = some (.optr r o) := rfl
/-- All objects but one, and all tokens, stay. -/
def KeepX (r : Nat) (σ σ' : St) : Prop := (∀ (q : Nat) (o : Ob), q ≠ r → σ.objs[q]? = some o → σ'.objs[q]? = some o) ∧ σ.toks.length ≤ σ'.toks.length ∧ ∀ k, tokLive σ.toks k = true → tokLive σ'.toks k = true
theorem Keep.x {σ σ' : St} (h : Keep σ σ') (r : Nat) : KeepX r σ σ' := ⟨fun q o _ ho => h.1 q o ho, h.2⟩
theorem KeepX.refl (r : Nat) (σ : St) : KeepX r σ σ := (Keep.refl σ).x r
theorem KeepX.trans {r : Nat} {a b c : St} (h : KeepX r a b) (h2 : KeepX r b c) : KeepX r a c := ⟨fun q o hq ho => h2.1 q o hq (h.1 q o hq ho), Nat.le_trans h.2.1 h2.2.1, fun k hk => h2.2.2 k (h.2.2 k hk)⟩
theorem KeepX.set (r : Nat) (o : Ob) (σ : St) : KeepX r σ ⟨σ.objs.set r o, σ.toks⟩ := ⟨fun q o' hq ho => by simp only; rw [List.getElem?_set_ne (Ne.symm hq)]; exact ho, Nat.le_refl _, fun _ h => h⟩
theorem obj_set {objs : List Ob} {r : Nat} {o o' : Ob} (h : objs[r]? = some o) : (objs.set r o')[r]? = some o' := by
  rw [List.getElem?_set_self (List.getElem?_eq_some_iff.1 h).1]
end Go.Proofs.Ytnbmfhnfmhgaaaa.Q

/- Rows whose elements have any number of cells; appended texts. -/
set_option linter.unusedVariables false
set_option linter.unusedSimpArgs false
namespace Go.Proofs.Ytnbmfhnfmhgaaaa.Q
open Go Go.RowKit
/-- v is a row of n elements of k cells each. -/
def RowV (k : Nat) (v : V) (cs : List V) (n : Nat) : Prop := cs.length = n * k ∧ ((v = .nils ∧ n = 0) ∨ ∃ p, v = .slice p k cs n)
theorem RowV.one {k n : Nat} {v : V} {cs : List V} (h : RowV k v cs n) : one v = true := by
  rcases h.2 with ⟨rfl, _⟩ | ⟨p, rfl⟩ <;> rfl
theorem RowV.nil (k : Nat) : RowV k .nils [] 0 := ⟨by simp, .inl ⟨rfl, rfl⟩⟩
section
variable {P : Program}
/-- What one must know of a row's types. -/
structure RowT (P : Program) (t e : TypeId) (k by_ : Nat) : Prop where
  u : P.underlying t = some (.slice e)
  s : sizeT P e = some k
  z : ∃ z, zeroT P e = some z ∧ (vcells z).length = k
  b : (P.info? e).map (·.bytes) = some by_
  k0 : 0 < k
theorem RowV.len {k n : Nat} {v : V} {cs : List V} (h : RowV k v cs n) {t e : TypeId} (ht : P.underlying t = some (.slice e)) : vlen P t v = some (.int .i64 n) := by
  rcases h.2 with ⟨rfl, rfl⟩ | ⟨p, rfl⟩ <;> simp [vlen, ht]
theorem RowV.addr {k n : Nat} {v : V} {cs : List V} (h : RowV k v cs n) {t e : TypeId} (ht : P.underlying t = some (.slice e)) (hs : sizeT P e = some k) (hk : 0 < k) {kk : IntKind} {i : Int} (h0 : 0 ≤ i) (h1 : i < n) : vindexAddr P t v (.int kk i) = some (.eptr cs (i.toNat * k)) := by
  rcases h.2 with ⟨rfl, rfl⟩ | ⟨p, rfl⟩
  · omega
  · have hne : cs ≠ [] := by
      rintro rfl
      have := h.1
      simp only [List.length_nil] at this
      have : 1 * 1 ≤ n * k := Nat.mul_le_mul (by omega) hk
      omega
    simp [vindexAddr, ht, hs, h0, h1, hne]
/-- A part of a row. -/
theorem RowV.slice {k n : Nat} {v : V} {cs : List V} (h : RowV k v cs n) {t e : TypeId} (ht : P.underlying t = some (.slice e)) (hs : sizeT P e = some k) {lo hi : Option V} {a b : Nat} (hb : vbounds n lo hi none = some (a, b, none)) (hab : a ≤ b) (hbl : b ≤ n) :
    ∃ v', vslice P t v lo hi none = some v' ∧ RowV k v' ((cs.drop (a * k)).take ((b - a) * k)) (b - a) := by
  have hl : ((cs.drop (a * k)).take ((b - a) * k)).length = (b - a) * k := by
    have h1 := h.1
    have h2 : b * k ≤ n * k := Nat.mul_le_mul_right k hbl
    have h3 : b * k = a * k + (b - a) * k := by rw [← Nat.add_mul]; congr 1; omega
    rw [List.length_take, List.length_drop]
    omega
  rcases h.2 with ⟨rfl, rfl⟩ | ⟨p, rfl⟩
  · exact ⟨.nils, by simp [vslice, ht, hs, hb], hl, .inl ⟨rfl, by omega⟩⟩
  · refine ⟨_, ?_, hl, .inr ⟨if p = Perm.exact ∧ b = n then Perm.exact else if a = 0 ∧ b = n then p else Perm.ro, rfl⟩⟩
    simp only [vslice, ht, hs, if_true, hb]
/-- v is such a row, and an append to it finds that nobody else has a part in what stands behind it; its token is not below m. -/
def OwnR (e : TypeId) (k m : Nat) (σ : St) (v : V) (cs : List V) (n : Nat) : Prop :=
  cs.length = n * k ∧ ((v = .nils ∧ n = 0) ∨ ∃ p, v = .slice p k cs n ∧ (p = .exact ∨ ∃ q, p = .tok q e ∧ tokLive σ.toks q = true ∧ m ≤ q))
theorem OwnR.row {e k m n : Nat} {σ : St} {v : V} {cs : List V} (h : OwnR e k m σ v cs n) : RowV k v cs n := by
  rcases h with ⟨h1, h | ⟨p, h, _⟩⟩
  · exact ⟨h1, .inl h⟩
  · exact ⟨h1, .inr ⟨p, h⟩⟩
theorem OwnR.nil {e k m : Nat} {σ : St} : OwnR e k m σ .nils [] 0 := ⟨by simp, .inl ⟨rfl, rfl⟩⟩
theorem OwnR.keep {e k m n : Nat} {σ σ' : St} {v : V} {cs : List V} (h : OwnR e k m σ v cs n) (hk : ∀ k, tokLive σ.toks k = true → tokLive σ'.toks k = true) : OwnR e k m σ' v cs n := by
  rcases h with ⟨h1, h | ⟨p, h, h2⟩⟩
  · exact ⟨h1, .inl h⟩
  · refine ⟨h1, .inr ⟨p, h, ?_⟩⟩
    rcases h2 with h2 | ⟨q, h2, h3, h4⟩
    · exact .inl h2
    · exact .inr ⟨q, h2, hk q h3, h4⟩
theorem OwnR.low {e k m m' n : Nat} {σ : St} {v : V} {cs : List V} (h : OwnR e k m σ v cs n) (hm : m' ≤ m) : OwnR e k m' σ v cs n := by
  rcases h with ⟨h1, h | ⟨p, h, h2⟩⟩
  · exact ⟨h1, .inl h⟩
  · refine ⟨h1, .inr ⟨p, h, ?_⟩⟩
    rcases h2 with h2 | ⟨q, h2, h3, h4⟩
    · exact .inl h2
    · exact .inr ⟨q, h2, h3, Nat.le_trans hm h4⟩
/-- An append to a row of one's own. -/
theorem OwnR.appendO {t t2 e : TypeId} {k by_ : Nat} (hT : RowT P t e k by_) {m : Nat} {σ0 σ : St} {v y : V} {cs ys : List V} {n l : Nat} (h : OwnR e k m σ v cs n) (hn : m = σ0.toks.length) (hk : Keep σ0 σ) (hnews : vnewsO P σ.objs t2 y k = some (ys, l)) (hyl : ys.length = l * k) (hone : ys.all one = true) (hl : n + l ≤ 140737488355328) (hb : (n + l) * by_ ≤ 140737488355328) :
    ∃ v' σ', vappend P σ t t2 v y = some (v', σ') ∧ OwnR e k m σ' v' (cs ++ ys) (n + l) ∧ Keep σ0 σ' ∧ σ'.objs = σ.objs := by
  obtain ⟨z, hz, hzl⟩ := hT.z
  have hk0 : ¬ k = 0 := by have := hT.k0; omega
  have hml : m ≤ σ.toks.length := by rw [hn]; exact hk.2.1
  have keep1 : Keep σ0 ⟨σ.objs, σ.toks ++ [true]⟩ := ⟨hk.1, by simp; have := hk.2.1; omega, fun k h => tokLive_app (hk.2.2 k h)⟩
  have hlen : (cs ++ ys).length = (n + l) * k := by rw [List.length_append, Nat.add_mul, h.1, hyl]
  by_cases hm : l = 0
  · subst hm
    have hys : ys = [] := List.length_eq_zero_iff.1 (by simpa using hyl)
    subst hys
    refine ⟨v, σ, ?_, by simpa using h, hk, rfl⟩
    rcases h.2 with ⟨rfl, rfl⟩ | ⟨p, rfl, _⟩
    · simp [vappend, hT.u, hT.b, hT.s, hz, hnews, hzl, hk0]
    · simp [vappend, hT.u, hT.b, hT.s, hz, hnews, hzl, hk0]
  · rcases h.2 with ⟨rfl, rfl⟩ | ⟨p, rfl, hp⟩
    · have hcs : cs = [] := List.length_eq_zero_iff.1 (by simpa using h.1)
      subst hcs
      refine ⟨_, _, ?_, ⟨hlen, .inr ⟨.tok σ.toks.length e, rfl, .inr ⟨_, rfl, tokLive_new _, hml⟩⟩⟩, keep1, rfl⟩
      simp only [Nat.zero_add] at hl hb
      simp [vappend, hT.u, hT.b, hT.s, hz, hnews, hzl, hk0, hm, hl, hb]
    · rcases hp with rfl | ⟨q, rfl, hlive, hnk⟩
      · refine ⟨_, _, ?_, ⟨hlen, .inr ⟨.tok σ.toks.length e, rfl, .inr ⟨_, rfl, tokLive_new _, hml⟩⟩⟩, keep1, rfl⟩
        simp [vappend, hT.u, hT.b, hT.s, hz, hnews, hzl, hk0, hm, hl, hb]
      · have hkl : (killTok σ.toks q).length = σ.toks.length := by simp [killTok]
        refine ⟨.slice (.tok σ.toks.length e) k (cs ++ ys) (n + l), ⟨σ.objs, killTok σ.toks q ++ [true]⟩, ?_, ⟨hlen, .inr ⟨.tok σ.toks.length e, rfl, .inr ⟨_, rfl, by have := tokLive_new (killTok σ.toks q); rwa [hkl] at this, hml⟩⟩⟩, ?_, rfl⟩
        · simp [vappend, hT.u, hT.b, hT.s, hz, hnews, hzl, hk0, hm, hl, hb, hlive, hone] at hone ⊢
          first | exact hone | done
        · refine ⟨hk.1, by simp [hkl]; have := hk.2.1; omega, fun j hj => ?_⟩
          refine tokLive_app (tokLive_kill_ne (hk.2.2 j hj) ?_)
          have := tokLive_lt hj
          omega
theorem OwnR.append {t t2 e : TypeId} {k by_ : Nat} (hT : RowT P t e k by_) {m : Nat} {σ0 σ : St} {v y : V} {cs ys : List V} {n l : Nat} (h : OwnR e k m σ v cs n) (hn : m = σ0.toks.length) (hk : Keep σ0 σ) (hnews : vnews P t2 y k = some (ys, l)) (hyl : ys.length = l * k) (hone : ys.all one = true) (hl : n + l ≤ 140737488355328) (hb : (n + l) * by_ ≤ 140737488355328) :
    ∃ v' σ', vappend P σ t t2 v y = some (v', σ') ∧ OwnR e k m σ' v' (cs ++ ys) (n + l) ∧ Keep σ0 σ' ∧ σ'.objs = σ.objs := h.appendO hT hn hk (vnewsO_of hnews) hyl hone hl hb
theorem OwnV.toR {e m : Nat} {σ : St} {v : V} {bs : List UInt8} (h : OwnV e m σ v bs) : OwnR e 1 m σ v (bs.map byteV) bs.length := by
  refine ⟨by simp, ?_⟩
  rcases h with ⟨h, rfl⟩ | h
  · exact .inl ⟨h, rfl⟩
  · exact .inr h
theorem OwnR.toV {e m n : Nat} {σ : St} {v : V} {bs : List UInt8} (h : OwnR e 1 m σ v (bs.map byteV) n) : OwnV e m σ v bs := by
  have hl : bs.length = n := by have := h.1; simpa using this
  subst hl
  rcases h.2 with ⟨h, h0⟩ | h
  · exact .inl ⟨h, List.length_eq_zero_iff.1 h0⟩
  · exact .inr h
theorem ByteT.row {t e : TypeId} (h : ByteT P t e) : RowT P t e 1 1 := ⟨h.u, h.s, ⟨_, h.z, rfl⟩, h.b, by omega⟩
/-- A row's elements, one behind the other. -/
theorem flat_drop {α : Type} {f : α → List V} {k : Nat} (hf : ∀ a, (f a).length = k) : ∀ (l : List α) (i : Nat), (l.flatMap f).drop (i * k) = (l.drop i).flatMap f
  | l, 0 => by simp
  | [], i + 1 => by simp
  | a :: l, i + 1 => by
    have : (i + 1) * k = (f a).length + i * k := by rw [hf, Nat.add_mul, Nat.one_mul, Nat.add_comm]
    rw [List.flatMap_cons, this, List.drop_length_add_append, List.drop_succ_cons]
    exact flat_drop hf l i
theorem flat_len {α : Type} {f : α → List V} {k : Nat} (hf : ∀ a, (f a).length = k) : ∀ (l : List α), (l.flatMap f).length = l.length * k
  | [] => by simp
  | a :: l => by rw [List.flatMap_cons, List.length_append, flat_len hf l, hf, List.length_cons, Nat.add_mul, Nat.one_mul, Nat.add_comm]
theorem flat_part {α : Type} {f : α → List V} {k : Nat} (hf : ∀ a, (f a).length = k) {l : List α} {i : Nat} (h : i < l.length) : ((l.flatMap f).drop (i * k)).take k = f l[i] := by
  rw [flat_drop hf, List.drop_eq_getElem_cons h, List.flatMap_cons]
  have := List.take_left (l₁ := f l[i]) (l₂ := (l.drop (i + 1)).flatMap f)
  rw [hf] at this
  exact this
/-- An element of a row. -/
theorem load_part {α : Type} {f : α → List V} {k : Nat} (hf : ∀ a, (f a).length = k) {l : List α} {i : Nat} (h : i < l.length) {e : TypeId} (ha : isAggT P e = some true) (hs : sizeT P e = some k) {objs : List Ob} : vload P objs e (.eptr (l.flatMap f) (i * k)) = some (.agg (f l[i])) := by
  have hl : i * k + k ≤ (l.flatMap f).length := by
    rw [flat_len hf]
    have : (i + 1) * k ≤ l.length * k := Nat.mul_le_mul_right k h
    rw [Nat.add_mul, Nat.one_mul] at this
    exact this
  simp only [vload, vcellsAt, vpart, ha, hs, if_pos hl, flat_part hf h]
/-- A part of it that is one itself. -/
theorem vload_sub {objs : List Ob} {r off n : Nat} {cs : List V} {t : TypeId} (h : objs[r]? = some (.cells cs)) (ha : isAggT P t = some true) (hs : sizeT P t = some n) (hl : off + n ≤ cs.length) : vload P objs t (.optr r off) = some (.agg ((cs.drop off).take n)) := by
  simp [vload, vcellsAt, h, vpart, ha, hs, hl]
theorem setAll_take : ∀ (vs : List V) (cs : List V) (off : Nat), off + vs.length ≤ cs.length → setAll cs off vs = cs.take off ++ vs ++ cs.drop (off + vs.length)
  | [], cs, off, h => by simp [setAll]
  | v :: vs, cs, off, h => by
    simp only [List.length_cons] at h
    rw [setAll, setAll_take vs _ _ (by simp; omega)]
    apply List.ext_getElem?
    intro i
    simp only [List.length_cons, List.getElem?_append, List.length_take, List.length_set, List.length_append, List.getElem?_drop, List.getElem?_take, List.getElem?_set]
    have e1 : min (off + 1) cs.length = off + 1 := by omega
    have e2 : min off cs.length = off := by omega
    rw [e1, e2]
    rcases Nat.lt_trichotomy i off with h1 | h1 | h1
    · simp [h1, show i < off + 1 by omega, show i < off + 1 + vs.length by omega, show i < off + (vs.length + 1) by omega, show off ≠ i by omega]
    · subst h1
      simp [show i < cs.length by omega]
      omega
    · by_cases h2 : i < off + 1 + vs.length
      · simp [show ¬ i < off by omega, show ¬ i < off + 1 by omega, h2, show i < off + (vs.length + 1) by omega]
        have : i - off = (i - (off + 1)) + 1 := by omega
        rw [this, List.getElem?_cons_succ]
      · simp [show ¬ i < off by omega, h2, show ¬ i < off + (vs.length + 1) by omega]
        have e3 : off + 1 + vs.length + (i - (off + 1 + vs.length)) = i := by omega
        have e4 : off + (vs.length + 1) + (i - (off + (vs.length + 1))) = i := by omega
        rw [e3, e4]
        simp [show off ≠ i by omega]
theorem Keep.push {σ0 σ : St} (h : Keep σ0 σ) (o : Ob) : Keep σ0 ⟨σ.objs ++ [o], σ.toks⟩ :=
  ⟨fun r o' ho => by
    have := h.1 r o' ho
    simp only
    rw [List.getElem?_append_left (List.getElem?_eq_some_iff.1 this).1]
    exact this, h.2⟩
theorem KeepX.push {q : Nat} {σ0 σ : St} (h : KeepX q σ0 σ) (o : Ob) : KeepX q σ0 ⟨σ.objs ++ [o], σ.toks⟩ :=
  ⟨fun r o' hi ho => by
    have := h.1 r o' hi ho
    simp only
    rw [List.getElem?_append_left (List.getElem?_eq_some_iff.1 this).1]
    exact this, h.2⟩
theorem push_new (objs : List Ob) (o : Ob) : (objs ++ [o])[objs.length]? = some o := by simp
/-- Texts and bytes. -/
theorem BtsV.str {v : V} {bs : List UInt8} (h : BtsV v bs) {t t2 e : TypeId} (ht : P.underlying t = some (.slice e)) (he : isU8 P e = true) (ht2 : P.underlying t2 = some .string) : vconv P t t2 v = some (.str bs) := by
  have hb : ∀ l : List UInt8, bytesOf' (l.map byteV) = some l := by
    intro l
    induction l with
    | nil => rfl
    | cons b l ih =>
      have h1 : byteOf1 (.int .u8 (b.toNat : Int)) = some b := by
        have := b.toNat_lt
        simp [byteOf1]
      simp only [List.map_cons, bytesOf', byteV, ih, h1]
  rcases h with ⟨rfl, rfl⟩ | ⟨p, rfl⟩
  · simp [vconv, ht, ht2, he]
  · simp [vconv, ht, ht2, he, hb]
end
end Go.Proofs.Ytnbmfhnfmhgaaaa.Q

/- Structures are compared field by field. -/
set_option linter.unusedVariables false
set_option linter.unusedSimpArgs false
namespace Go.Proofs.Ytnbmfhnfmhgaaaa.Q
open Go Go.RowKit
section
variable {P : Program}
/-- A structure's fields: type and place. -/
def fieldsOf (P : Program) (t : TypeId) : List (TypeId × Nat) := match P.underlying t with
  | some (.struct fs) => if P.stoodInHeld t || fs.toList.any (fun f => decide (f.name = "_")) then [] else fs.toList.map fun f => (f.type, f.offset)
  | _ => []
def allEq (P : Program) (d : Nat) : List (TypeId × Nat) → List V → List V → Option Bool
  | [], _, _ => some true
  | f :: fs, xs, ys => match vpart P f.1 xs f.2, vpart P f.1 ys f.2 with
    | some a, some b => match aggEq P d f.1 a b with
      | some true => allEq P d fs xs ys
      | some false => some false
      | none => none
    | _, _ => none
end
end Go.Proofs.Ytnbmfhnfmhgaaaa.Q

/- Arguments that are structures, and rows of them. -/
set_option linter.unusedVariables false
set_option linter.unusedSimpArgs false
namespace Go.Proofs.Ytnbmfhnfmhgaaaa.Q
open Go Go.RowKit
section
variable {P : Program}
end
end Go.Proofs.Ytnbmfhnfmhgaaaa.Q

/- The rules of a walk, as one. -/
set_option linter.unusedVariables false
namespace Go.Proofs.Ytnbmfhnfmhgaaaa.Q
open Go Go.RowKit
theorem WK0 : type_of% @Ev_seq' ∧ type_of% @Ev_region ∧ type_of% @Ev_wregion ∧ type_of% @EoW_nil ∧ type_of% @EoW_cons ∧ type_of% @wC_normal ∧ type_of% @wC_pan ∧ type_of% @pushB_true ∧ type_of% @pushB_false ∧ type_of% @look_nil ∧ type_of% @look_cons ∧ type_of% @WOk_nil ∧ type_of% @WOk_cons ∧ type_of% @WV_some ∧ type_of% @WJ_nil ∧ type_of% @WJ_cons ∧ type_of% @KQ_some ∧ type_of% @wantC_none ∧ type_of% @wantC_tt ∧ type_of% @Ev_block' := ⟨@Ev_seq', @Ev_region, @Ev_wregion, @EoW_nil, @EoW_cons, @wC_normal, @wC_pan, @pushB_true, @pushB_false, @look_nil, @look_cons, @WOk_nil, @WOk_cons, @WV_some, @WJ_nil, @WJ_cons, @KQ_some, @wantC_none, @wantC_tt, @Ev_block'⟩
theorem WK1 : type_of% @Ev_skip' ∧ type_of% @Ev_exit' ∧ type_of% @Ev_ret' ∧ type_of% @Ev_if ∧ type_of% @Eo_nil ∧ type_of% @Eo_builtin ∧ type_of% @Eo_call ∧ type_of% @Eo_callv ∧ type_of% @Eo_panic ∧ type_of% @Eo_guard ∧ type_of% @Eo_move ∧ type_of% @Eo_assign ∧ type_of% @Eo_pick ∧ type_of% @Eo_alloc ∧ type_of% @Eo_box ∧ type_of% @Eo_build ∧ type_of% @Eo_buildSlice ∧ type_of% @Eo_load ∧ type_of% @Eo_store ∧ type_of% @Eo_nilCheck := ⟨@Ev_skip', @Ev_exit', @Ev_ret', @Ev_if, @Eo_nil, @Eo_builtin, @Eo_call, @Eo_callv, @Eo_panic, @Eo_guard, @Eo_move, @Eo_assign, @Eo_pick, @Eo_alloc, @Eo_box, @Eo_build, @Eo_buildSlice, @Eo_load, @Eo_store, @Eo_nilCheck⟩
theorem WK2 : type_of% @Eo_binOp ∧ type_of% @Eo_unOp ∧ type_of% @Eo_convert ∧ type_of% @Eo_makeInterface ∧ type_of% @Eo_makeFunc ∧ type_of% @Eo_makeSlice ∧ type_of% @Eo_slice ∧ type_of% @Eo_fieldAddr ∧ type_of% @Eo_field ∧ type_of% @Eo_indexAddr ∧ type_of% @Eo_index ∧ type_of% @Eo_typeAssert ∧ type_of% @Eo_extract ∧ type_of% @Kop_some ∧ type_of% @KB_true ∧ type_of% @KB_false ∧ type_of% @KI_some ∧ type_of% @KG_tt ∧ type_of% @KG_ff ∧ type_of% @KG_tf ∧ type_of% @KG_ft := ⟨@Eo_binOp, @Eo_unOp, @Eo_convert, @Eo_makeInterface, @Eo_makeFunc, @Eo_makeSlice, @Eo_slice, @Eo_fieldAddr, @Eo_field, @Eo_indexAddr, @Eo_index, @Eo_typeAssert, @Eo_extract, @Kop_some, @KB_true, @KB_false, @KI_some, @KG_tt, @KG_ff, @KG_tf, @KG_ft⟩
theorem WK3 : type_of% @KG_tup ∧ type_of% @KC_some ∧ type_of% @KF_some ∧ type_of% @KP_some ∧ type_of% @KR_some ∧ type_of% @seqC_normal ∧ type_of% @seqC_exit ∧ type_of% @seqC_ret ∧ type_of% @seqC_pan ∧ type_of% @loopC_normal ∧ type_of% @loopC_exit ∧ type_of% @loopC_ret ∧ type_of% @loopC_pan ∧ type_of% @blockK_normal ∧ type_of% @blockK_exit ∧ type_of% @blockK_exit_ne ∧ type_of% @blockK_ret ∧ type_of% @blockK_pan ∧ type_of% @fnK_normal ∧ type_of% @fnK_ret := ⟨@KG_tup, @KC_some, @KF_some, @KP_some, @KR_some, @seqC_normal, @seqC_exit, @seqC_ret, @seqC_pan, @loopC_normal, @loopC_exit, @loopC_ret, @loopC_pan, @blockK_normal, @blockK_exit, @blockK_exit_ne, @blockK_ret, @blockK_pan, @fnK_normal, @fnK_ret⟩
theorem WK4 : type_of% @fnK_pan ∧ type_of% @evs_env ∧ type_of% @evs_const ∧ type_of% @evs_func ∧ type_of% @ofVal_int ∧ type_of% @ofVal_bool ∧ type_of% @ofVal_nil ∧ type_of% @ofVal_nilp ∧ type_of% @vnil_optr ∧ type_of% @vbin_add ∧ type_of% @vbin_sub ∧ type_of% @vbin_mul ∧ type_of% @vbin_quo ∧ type_of% @vbin_rem ∧ type_of% @vbin_eql ∧ type_of% @vbin_neq ∧ type_of% @vbin_lss ∧ type_of% @vbin_leq ∧ type_of% @vbin_gtr ∧ type_of% @vbin_geq := ⟨@fnK_pan, @evs_env, @evs_const, @evs_func, @ofVal_int, @ofVal_bool, @ofVal_nil, @ofVal_nilp, @vnil_optr, @vbin_add, @vbin_sub, @vbin_mul, @vbin_quo, @vbin_rem, @vbin_eql, @vbin_neq, @vbin_lss, @vbin_leq, @vbin_gtr, @vbin_geq⟩
theorem WK5 : type_of% @vbin_and ∧ type_of% @vbin_or ∧ type_of% @vbin_xor ∧ type_of% @vbin_andNot ∧ type_of% @vbin_shl ∧ type_of% @vbin_shr ∧ type_of% @vbin_str ∧ type_of% @upd_some ∧ type_of% @upd_none ∧ type_of% @vresults_tmp ∧ type_of% @vresults_nil ∧ type_of% @vresults_cell ∧ type_of% @vtuple_0 ∧ type_of% @vtuple_1 ∧ type_of% @vtuple_2 := ⟨@vbin_and, @vbin_or, @vbin_xor, @vbin_andNot, @vbin_shl, @vbin_shr, @vbin_str, @upd_some, @upd_none, @vresults_tmp, @vresults_nil, @vresults_cell, @vtuple_0, @vtuple_1, @vtuple_2⟩
theorem WK6 : type_of% @true_implies ∧ type_of% @decide_true ∧ type_of% @decide_false ∧ type_of% @Bool.not_true ∧ type_of% @Bool.not_false ∧ type_of% @not_true_eq_false ∧ type_of% @not_false_eq_true ∧ type_of% @Bool.false_eq_true ∧ type_of% @and_self ∧ type_of% @and_true ∧ type_of% @true_and ∧ type_of% @Option.map_some.{0,0} ∧ type_of% @Option.map_none.{0,0} ∧ type_of% @List.append_nil.{0} ∧ type_of% @List.getElem?_cons_zero.{0} ∧ type_of% @List.getElem?_cons_succ.{0} ∧ type_of% @ne_eq.{1} ∧ type_of% @List.getD_cons_zero.{0} ∧ type_of% @List.getD_cons_succ.{0} := ⟨@true_implies, @decide_true, @decide_false, @Bool.not_true, @Bool.not_false, @not_true_eq_false, @not_false_eq_true, @Bool.false_eq_true, @and_self, @and_true, @true_and, @Option.map_some.{0,0}, @Option.map_none.{0,0}, @List.append_nil.{0}, @List.getElem?_cons_zero.{0}, @List.getElem?_cons_succ.{0}, @ne_eq.{1}, @List.getD_cons_zero.{0}, @List.getD_cons_succ.{0}⟩
theorem WK7 : type_of% @Ev_hreg ∧ type_of% @EoH_nil ∧ type_of% @EoH_cold ∧ type_of% @EoH_hot ∧ type_of% @hC_normal ∧ type_of% @hC_pan ∧ type_of% @KH_some ∧ type_of% @Eo_makeMap ∧ type_of% @Eo_insert ∧ type_of% @Eo_mapUpdate ∧ type_of% @Eo_lookup ∧ type_of% @Ev_rf ∧ type_of% @KRF_some ∧ type_of% @KF_yld ∧ type_of% @KY_some ∧ type_of% @EoH_hotg ∧ type_of% @KGH_tt ∧ type_of% @KGH_ff ∧ type_of% @KGH_tf ∧ type_of% @KGH_ft ∧ type_of% @KGH_tup := ⟨@Ev_hreg, @EoH_nil, @EoH_cold, @EoH_hot, @hC_normal, @hC_pan, @KH_some, @Eo_makeMap, @Eo_insert, @Eo_mapUpdate, @Eo_lookup, @Ev_rf, @KRF_some, @KF_yld, @KY_some, @EoH_hotg, @KGH_tt, @KGH_ff, @KGH_tf, @KGH_ft, @KGH_tup⟩
theorem WK : type_of% WK0 ∧ type_of% WK1 ∧ type_of% WK2 ∧ type_of% WK3 ∧ type_of% WK4 ∧ type_of% WK5 ∧ type_of% WK6 ∧ type_of% WK7 := ⟨WK0, WK1, WK2, WK3, WK4, WK5, WK6, WK7⟩
end Go.Proofs.Ytnbmfhnfmhgaaaa.Q

/- Functions that are told by hand: they go over a map. -/
set_option linter.unusedVariables false
set_option linter.unusedSimpArgs false
set_option maxRecDepth 100000
namespace Go.Proofs.Ytnbmfhnfmhgaaaa.Q
open Go Go.RowKit Go.Proofs
theorem pTM : Try.prog.underlying 55 = some (.map 9 58) := by kernel_rfl
theorem pTF : Try.prog.underlying 58 = some (.pointer 60) := by kernel_rfl
theorem pTD : Try.prog.underlying 25 = some (.pointer 57) := by kernel_rfl
theorem pTB : Try.prog.underlying 28 = some (.slice 5) := by kernel_rfl
theorem pGM : isAggT Try.prog 55 = some false := by kernel_rfl
theorem pGB : isAggT Try.prog 28 = some false := by kernel_rfl
theorem pS1 : sizeT Try.prog 5 = some 1 := by kernel_rfl
theorem pSB : sizeT Try.prog 28 = some 1 := by kernel_rfl
theorem pFA : ∀ (r k : Nat) (hk : k < 6), vfieldAddr Try.prog 57 (.optr r 0) k = some (.optr r k)
  | r, 0, _ => by kernel_rfl
  | r, 1, _ => by kernel_rfl
  | r, 2, _ => by kernel_rfl
  | r, 3, _ => by kernel_rfl
  | r, 4, _ => by kernel_rfl
  | r, 5, _ => by kernel_rfl
theorem nilEP : ofVal (.slice none 0 0) = some .nils := by kernel_rfl
theorem pFF0 (r : Nat) : vfieldAddr Try.prog 60 (.optr r 0) 0 = some (.optr r 0) := by kernel_rfl
theorem pFF1 (r : Nat) : vfieldAddr Try.prog 60 (.optr r 0) 1 = some (.optr r 1) := by kernel_rfl
/-- How long a row is. -/
def rowLen : V → Option Nat
  | .nils => some 0
  | .slice _ _ _ n => some n
  | .hslice _ _ _ n => some n
  | _ => none
theorem rowLen_len {v : V} {n : Nat} (h : rowLen v = some n) : vlen Try.prog 28 v = some (.int .i64 (n : Nat)) := by
  cases v <;> simp only [rowLen, Option.some.injEq, reduceCtorEq] at h <;> (subst h; simp [vlen, pTB])
/-- How long the files of a map are. -/
def fileLen (objs : List Ob) : V × V → Option Nat
  | (_, .optr rf 0) => match objs[rf]? with
    | some (.cells [s, w]) => match rowLen s, rowLen w with
      | some a, some b => some (a + b)
      | _, _ => none
    | _ => none
  | _ => none
def fileLens (objs : List Ob) : List (V × V) → Option (List Nat)
  | [] => some []
  | e :: es => match fileLen objs e, fileLens objs es with
    | some a, some l => some (a :: l)
    | _, _ => none
theorem fileLens_get {objs : List Ob} : ∀ {es : List (V × V)} {l : List Nat}, fileLens objs es = some l → l.length = es.length ∧ ∀ i (h : i < es.length), fileLen objs es[i] = some (l.getD i 0)
  | [], l, h => by simp [fileLens] at h; subst h; exact ⟨rfl, fun i h => by simp at h⟩
  | e :: es, l, h => by
    simp only [fileLens] at h
    split at h
    · rename_i a l' h1 h2
      injection h with h
      subst h
      obtain ⟨g1, g2⟩ := fileLens_get h2
      refine ⟨by simp [g1], fun i hi => ?_⟩
      cases i with
      | zero => exact h1
      | succ i => simpa using g2 i (by simpa using hi)
    · cases h
def sizeP (vs : List V) (σ : St) : Option (V × St) := match vs with
  | [.optr r 0] => match σ.objs[r]? with
    | some (.cells (.omap rm :: _)) => match σ.objs[rm]? with
      | some (.mp es) => match fileLens σ.objs es with
        | some l => if l.sum ≤ 4611686018427387904 then some (.int .i64 (l.sum : Nat), ⟨σ.objs ++ [.dead], σ.toks⟩) else none
        | none => none
      | _ => none
    | _ => none
  | _ => none
noncomputable def cSize : Code := (Try.f30.body).getD .skip
theorem bSize : Try.f30.body = some cSize := by kernel_rfl
noncomputable def lSize : Code := subC [true, true, false, true, false, false] cSize
theorem sSize : cSize = .seq (subC [false] cSize) (.seq (subC [true, false] cSize) (.seq (.seq (.region 2 (regOps (subC [true, true, false, false] cSize)) false) (.block 0 (.loop lSize))) (subC [true, true, true] cSize))) := by kernel_rfl
noncomputable def oSize2 : Array Oper := regOps (subC [true, true, false, false] cSize)
noncomputable def oSize3 : Array Oper := regOps (subC [false] lSize)
noncomputable def oSize4 : Array Oper := regOps (subC [true, true, false, false] lSize)
theorem slSize : lSize = .seq (.region 3 oSize3 false) (.seq (.cond (.tmp 12) .skip (.exit 0)) (.block 1 (.seq (.region 4 oSize4 false) (subC [true, true, false, true] lSize)))) := by kernel_rfl
theorem o2s : oSize2.toList = oSize2.toList.take 4 ++ [oSize2.getD 4 default] := by kernel_rfl
theorem o3s : oSize3.toList = oSize3.getD 0 default :: oSize3.toList.drop 1 := by kernel_rfl
theorem o4s : oSize4.toList = oSize4.getD 0 default :: oSize4.toList.drop 1 := by kernel_rfl
theorem vis_filter {n : Nat} {vis : List Nat} (h : vis.Nodup) (hl : ∀ i ∈ vis, i < n) : vis.Perm ((List.range n).filter fun i => decide (i ∈ vis)) :=
  (List.perm_ext_iff_of_nodup h (List.Pairwise.filter _ List.nodup_range)).2 fun i => by
    rw [List.mem_filter, List.mem_range]
    exact ⟨fun hi => ⟨hl i hi, by simpa using hi⟩, fun hi => by simpa using hi.2⟩
theorem vis_le {n : Nat} {vis : List Nat} (h : vis.Nodup) (hl : ∀ i ∈ vis, i < n) : vis.length ≤ n := by
  rw [(vis_filter h hl).length_eq]
  have := List.length_filter_le (fun i => decide (i ∈ vis)) (List.range n)
  simpa using this
theorem sum_filter_le (f : Nat → Nat) (p : Nat → Bool) : ∀ l : List Nat, ((l.filter p).map f).sum ≤ (l.map f).sum
  | [] => by simp
  | x :: l => by
    have := sum_filter_le f p l
    simp only [List.filter_cons]
    split
    · simp only [List.map_cons, List.sum_cons]; omega
    · simp only [List.map_cons, List.sum_cons]; omega
theorem vis_perm {n : Nat} {vis : List Nat} (h : vis.Nodup) (hl : ∀ i ∈ vis, i < n) (ha : ∀ i, i < n → i ∈ vis) : vis.Perm (List.range n) :=
  (List.perm_ext_iff_of_nodup h List.nodup_range).2 fun i => ⟨fun hi => List.mem_range.2 (hl i hi), fun hi => ha i (List.mem_range.1 hi)⟩
theorem set_self {α : Type} {l : List α} {i : Nat} {x : α} (h : l[i]? = some x) : l.set i x = l := by
  apply List.ext_getElem?
  intro j
  by_cases e : i = j
  · subst e; rw [List.getElem?_set_self (List.getElem?_eq_some_iff.1 h).1, h]
  · rw [List.getElem?_set_ne e]
theorem sum_range (l : List Nat) : ((List.range l.length).map fun i => l.getD i 0).sum = l.sum := by
  congr 1
  apply List.ext_getElem
  · simp
  · intro i h1 h2; simp at h1 ⊢; simp [h1]
theorem sum_le_of_vis {l : List Nat} {vis : List Nat} (h : vis.Nodup) (hl : ∀ i ∈ vis, i < l.length) : (vis.map fun i => l.getD i 0).sum ≤ l.sum := by
  rw [((vis_filter h hl).map _).sum_nat, ← sum_range l]
  exact sum_filter_le _ _ _
theorem size_ok {base : Nat} {w0 : World} {vs : List V} {σ : St} {v : V} {σ' : St} (h : sizeP vs σ = some (v, σ')) : CallOk Try.prog base w0 30 vs σ (.ret v) σ' := by
  unfold sizeP at h
  split at h
  · rename_i r
    split at h
    · rename_i rm rest hr
      split at h
      · rename_i es hm
        split at h
        · rename_i l hl
          split at h
          · rename_i hs
            injection h with h
            injection h with h1 h2
            subst h1 h2
            obtain ⟨hll, hlg⟩ := fileLens_get hl
            have hrml := (List.getElem?_eq_some_iff.1 hm).1
            refine CallOk.nd (fn := Try.f30) Try.func30 bSize (by show [V.optr r 0].length ≤ 29; simp) ?_
            show Nd Try.prog base w0 29 cSize _ _ _
            rw [sSize]
            have hp := prim0_ok base w0
            refine Nd.seq (Nd.ev hp (k := .region k30_r0) (by kernel_rfl) (by kernel_rfl) (by kernel_rfl) ?_)
            simp only [k30_a, WK, vop, evAll, evOpt, evParts, vbuiltin, vun, vextract, Nat.reduceLT, Nat.reduceEqDiff, ↓reduceIte, reduceCtorEq, Nat.reduceAdd, Int.reduceLT, Int.reduceNeg, valloc_std, noSB0, vhot, implies_true, eq_self, false_and, or_false, false_or]
            refine Nd.seq (Nd.ev hp (k := .region k30_r1) (by kernel_rfl) (by kernel_rfl) (by kernel_rfl) ?_)
            simp only [k30_a, WK, vop, evAll, evOpt, evParts, vbuiltin, vun, vextract, Nat.reduceLT, Nat.reduceEqDiff, ↓reduceIte, reduceCtorEq, Nat.reduceAdd, Int.reduceLT, Int.reduceNeg, valloc_std, noSB0, vhot, implies_true, eq_self, false_and, or_false, false_or]
            refine Nd.seq (Nd.seq (Nd.region ?_))
            rw [show regOps (subC [true, true, false, false] cSize) = oSize2 from rfl, o2s]
            refine NdO.app (NdO.eo hp (cl := k30_r2.take 4) (by kernel_rfl) (by kernel_rfl) ?_)
            unfold k30_r2
            simp only [List.take_succ_cons, List.take_zero, WK, vop, evAll, evOpt, evParts, vbuiltin, vun, vextract, Nat.reduceLT, Nat.reduceEqDiff, ↓reduceIte, reduceCtorEq, Nat.reduceAdd, Int.reduceLT, Int.reduceNeg, valloc_std, noSB0, vhot, implies_true, eq_self, false_and, or_false, false_or, List.getD_cons_zero, pFA r 0 (by omega), vload_obj hr pGM]
            refine NdO.range (rm := rm) (es := es) (t := 55) (x := .tmp 9) (by kernel_rfl) (by kernel_rfl) pTM (by simp only [WK, vop, evAll, evOpt, evParts, vbuiltin, vun, vextract, Nat.reduceLT, Nat.reduceEqDiff, ↓reduceIte, reduceCtorEq, Nat.reduceAdd, Int.reduceLT, Int.reduceNeg, valloc_std, noSB0, vhot, implies_true, eq_self, false_and, or_false, false_or]) hm ?_
            intro b a clock hI
            have hd : (oSize2.getD 4 default).dst = some 10 := by kernel_rfl
            rw [hd]
            refine NdO.nil (.inl ⟨rfl, ?_⟩)
            refine Nd.block ?_
            refine Nd.loop (fun vis e τ => ∃ seen last, It τ σ.objs.length rm es vis b clock a clock last seen ∧ τ = ⟨σ.objs.set rm (.mpR b es a clock) ++ [.it b clock seen last], σ.toks⟩ ∧ e 10 = .optr σ.objs.length 0 ∧ e 3 = .int .i64 ((vis.map fun i => l.getD i 0).sum : Nat)) (fun vis => es.length - vis.length) ?_ [] ⟨#[], clock, hI, rfl, by simp [upd_some], by simp [upd_some]⟩
            rintro vis e τ ⟨seen, last, hI, rfl, h10, h3⟩
            rw [slSize]
            refine Nd.seq (Nd.region ?_)
            rw [o3s]
            have hd3 : (oSize3.getD 0 default).dst = some 11 := by kernel_rfl
            refine NdO.next (ri := σ.objs.length) (rm := rm) (x := .tmp 10) (by kernel_rfl) (by kernel_rfl) (by simp only [WK, vop, evAll, evOpt, evParts, vbuiltin, vun, vextract, Nat.reduceLT, Nat.reduceEqDiff, ↓reduceIte, reduceCtorEq, Nat.reduceAdd, Int.reduceLT, Int.reduceNeg, valloc_std, noSB0, vhot, implies_true, eq_self, false_and, or_false, false_or, h10]) hI (by omega) ?_ ?_
            · intro hall
              rw [hd3]
              refine NdO.eo hp (cl := k30_r3.drop 1) (by kernel_rfl) (by kernel_rfl) ?_
              unfold k30_r3
              simp only [List.drop_succ_cons, List.drop_zero, WK, vop, evAll, evOpt, evParts, vbuiltin, vun, vextract, Nat.reduceLT, Nat.reduceEqDiff, ↓reduceIte, reduceCtorEq, Nat.reduceAdd, Int.reduceLT, Int.reduceNeg, valloc_std, noSB0, vhot, implies_true, eq_self, false_and, or_false, false_or]
              refine Nd.seq (Nd.cond (t := false) (by simp only [WK, vop, evAll, evOpt, evParts, vbuiltin, vun, vextract, Nat.reduceLT, Nat.reduceEqDiff, ↓reduceIte, reduceCtorEq, Nat.reduceAdd, Int.reduceLT, Int.reduceNeg, valloc_std, noSB0, vhot, implies_true, eq_self, false_and, or_false, false_or]) (Nd.exit (.inr ⟨(by intro h; cases h), .inr ⟨(by intro h; cases h), .inl ⟨rfl, ?_⟩⟩⟩)))
              have hperm := vis_perm hI.vnd hI.vlt hall
              have hsum : (vis.map fun i => l.getD i 0).sum = l.sum := by rw [(hperm.map _).sum_nat, ← hll, sum_range]
              rw [hsum] at h3
              refine Nd.re (σ1 := ⟨σ.objs ++ [.dead], σ.toks⟩) ?_ ?_
              · intro g w tm hR hT
                refine ⟨g, Ext.refl _ _ _, ?_⟩
                obtain ⟨m1, m2, m3, m4, m5, m6, m7⟩ := hR.obj rm _ hI.mp
                have h1 := hR.reOb hI.mp (fun h => h) (o' := .mp es) (by intro h; cases h) ⟨m1, m2, a, clock, m4, m5, m6, m7⟩
                have h2 := h1.bury σ.objs.length (by
                  simp only
                  rw [List.getElem?_set_ne (by omega), hI.it]
                  intro h; cases h)
                have e1 : ((σ.objs.set rm (.mpR b es a clock) ++ [Ob.it b clock seen last]).set rm (.mp es)).set σ.objs.length .dead = σ.objs ++ [.dead] := by
                  rw [List.set_append_left _ _ (by simpa using hrml), List.set_set, List.set_append_right _ _ (by simp)]
                  simp [set_self hm]
                simp only at h2
                rw [e1] at h2
                exact h2
              · refine Nd.ev hp (k := .seq (.region k30_r6) .ret) (by kernel_rfl) (by kernel_rfl) (by kernel_rfl) ?_
                simp only [k30_a, WK, vop, evAll, evOpt, evParts, vbuiltin, vun, vextract, Nat.reduceLT, Nat.reduceEqDiff, ↓reduceIte, reduceCtorEq, Nat.reduceAdd, Int.reduceLT, Int.reduceNeg, valloc_std, noSB0, vhot, implies_true, eq_self, false_and, or_false, false_or, h3]
                refine ⟨_, by show vresults _ _ (env 29 _) [ResultVar.tmp 2] = _; simp only [WK, vop, evAll, evOpt, evParts, vbuiltin, vun, vextract, Nat.reduceLT, Nat.reduceEqDiff, ↓reduceIte, reduceCtorEq, Nat.reduceAdd, Int.reduceLT, Int.reduceNeg, valloc_std, noSB0, vhot, implies_true, eq_self, false_and, or_false, false_or]; rfl, rfl⟩
            · intro i hiv hi hI2
              rw [hd3]
              refine NdO.eo hp (cl := k30_r3.drop 1) (by kernel_rfl) (by kernel_rfl) ?_
              unfold k30_r3
              simp only [List.drop_succ_cons, List.drop_zero, WK, vop, evAll, evOpt, evParts, vbuiltin, vun, vextract, Nat.reduceLT, Nat.reduceEqDiff, ↓reduceIte, reduceCtorEq, Nat.reduceAdd, Int.reduceLT, Int.reduceNeg, valloc_std, noSB0, vhot, implies_true, eq_self, false_and, or_false, false_or]
              refine Nd.seq (Nd.cond (t := true) (by simp only [WK, vop, evAll, evOpt, evParts, vbuiltin, vun, vextract, Nat.reduceLT, Nat.reduceEqDiff, ↓reduceIte, reduceCtorEq, Nat.reduceAdd, Int.reduceLT, Int.reduceNeg, valloc_std, noSB0, vhot, implies_true, eq_self, false_and, or_false, false_or]) (Nd.skip (.inl ⟨rfl, ?_⟩)))
              refine Nd.block (Nd.seq (Nd.region ?_))
              rw [o4s]
              refine NdO.entry (x := .tmp 10) (by kernel_rfl) (by kernel_rfl) (by simp only [WK, vop, evAll, evOpt, evParts, vbuiltin, vun, vextract, Nat.reduceLT, Nat.reduceEqDiff, ↓reduceIte, reduceCtorEq, Nat.reduceAdd, Int.reduceLT, Int.reduceNeg, valloc_std, noSB0, vhot, implies_true, eq_self, false_and, or_false, false_or, h10]) hI2 hi ?_
              have hd4 : (oSize4.getD 0 default).dst = some 13 := by kernel_rfl
              rw [hd4]
              refine NdO.eo hp (cl := k30_r4.drop 1) (by kernel_rfl) (by kernel_rfl) ?_
              unfold k30_r4
              simp only [List.drop_succ_cons, List.drop_zero, WK, vop, evAll, evOpt, evParts, vbuiltin, vun, vextract, Nat.reduceLT, Nat.reduceEqDiff, ↓reduceIte, reduceCtorEq, Nat.reduceAdd, Int.reduceLT, Int.reduceNeg, valloc_std, noSB0, vhot, implies_true, eq_self, false_and, or_false, false_or, h3]
              have hfl := hlg i hi
              unfold fileLen at hfl
              split at hfl
              · rename_i key rf hei
                split at hfl
                · rename_i fs fw hrf
                  split at hfl
                  · rename_i la lb hla hlb
                    injection hfl with hfl
                    have hne : rf ≠ rm := fun h => by rw [h, hm] at hrf; cases hrf
                    have hrfl := (List.getElem?_eq_some_iff.1 hrf).1
                    have hset : (σ.objs.set rm (.mpR b es a clock) ++ [Ob.it b clock seen last]).set σ.objs.length (.it b clock (seen.push (a.getD i default).born) clock) = σ.objs.set rm (.mpR b es a clock) ++ [.it b clock (seen.push (a.getD i default).born) clock] := by
                      rw [List.set_append_right _ _ (by simp), List.length_set, Nat.sub_self]
                      rfl
                    simp only [hset] at hI2 ⊢
                    have hof : (σ.objs.set rm (.mpR b es a clock) ++ [Ob.it b clock (seen.push (a.getD i default).born) clock])[rf]? = some (.cells [fs, fw]) := by
                      rw [List.getElem?_append_left (by simpa using hrfl), List.getElem?_set_ne (Ne.symm hne)]
                      exact hrf
                    have hsum := sum_le_of_vis (l := l) hI2.vnd (by rw [hll]; exact hI2.vlt)
                    simp only [List.map_append, List.map_cons, List.map_nil, List.sum_append, List.sum_cons, List.sum_nil, Nat.add_zero] at hsum
                    have w1 : IntKind.i64.wrap ((la : Int) + (lb : Nat)) = ((la + lb : Nat) : Int) := by rw [wrap_i64 (by omega) (by omega)]; omega
                    have w2 : IntKind.i64.wrap ((((vis.map fun i => l.getD i 0).sum : Nat) : Int) + ((la + lb : Nat) : Int)) = ((((vis ++ [i]).map fun i => l.getD i 0).sum : Nat) : Int) := by
                      simp only [List.map_append, List.map_cons, List.map_nil, List.sum_append, List.sum_cons, List.sum_nil, Nat.add_zero]
                      rw [wrap_i64 (by omega) (by omega)]
                      omega
                    refine Nd.ev hp (k := .region k30_r5) (by kernel_rfl) (by kernel_rfl) (by kernel_rfl) ?_
                    simp only [k30_a, WK, vop, evAll, evOpt, evParts, vbuiltin, vun, vextract, Nat.reduceLT, Nat.reduceEqDiff, ↓reduceIte, reduceCtorEq, Nat.reduceAdd, Int.reduceLT, Int.reduceNeg, valloc_std, noSB0, vhot, implies_true, eq_self, false_and, or_false, false_or, h3, hei, pFF0, pFF1, vload_obj hof pGB, rowLen_len hla, rowLen_len hlb, w1, w2]
                    refine ⟨vis ++ [i], ⟨_, _, hI2, rfl, by simp [upd_some, h10], by simp [upd_some]⟩, ?_⟩
                    have := vis_le hI2.vnd hI2.vlt
                    simp only [List.length_append, List.length_cons, List.length_nil] at this ⊢
                    omega
                  · cases hfl
                · cases hfl
              · cases hfl
          · cases h
        · cases h
      · cases h
    · cases h
  · cases h
/-! ### Writes at many places -/
def applyW (W : List (Nat × Ob)) (O : List Ob) : List Ob := W.foldl (fun O p => O.set p.1 p.2) O
theorem applyW_cons (p : Nat × Ob) (W : List (Nat × Ob)) (O : List Ob) : applyW (p :: W) O = applyW W (O.set p.1 p.2) := rfl
theorem applyW_append (W W2 : List (Nat × Ob)) (O : List Ob) : applyW (W ++ W2) O = applyW W2 (applyW W O) := List.foldl_append
theorem applyW_len : ∀ (W : List (Nat × Ob)) (O : List Ob), (applyW W O).length = O.length
  | [], O => rfl
  | p :: W, O => by rw [applyW_cons, applyW_len W, List.length_set]
theorem applyW_ne : ∀ (W : List (Nat × Ob)) (O : List Ob) {q : Nat}, q ∉ W.map (·.1) → (applyW W O)[q]? = O[q]?
  | [], O, q, h => rfl
  | p :: W, O, q, h => by
    simp only [List.map_cons, List.mem_cons, not_or] at h
    rw [applyW_cons, applyW_ne W _ h.2, List.getElem?_set_ne (Ne.symm h.1)]
theorem applyW_set : ∀ (W : List (Nat × Ob)) (O : List Ob) {q : Nat} (x : Ob), q ∉ W.map (·.1) → applyW W (O.set q x) = (applyW W O).set q x
  | [], O, q, x, h => rfl
  | p :: W, O, q, x, h => by
    simp only [List.map_cons, List.mem_cons, not_or] at h
    rw [applyW_cons, applyW_cons, List.set_comm _ _ h.1, applyW_set W _ x h.2]
theorem applyW_dead : ∀ {l : List Nat} {O : List Ob} {q : Nat} {o : Ob}, (applyW (l.map (·, Ob.dead)) O)[q]? = some o → o = .dead ∨ O[q]? = some o
  | [], O, q, o, h => .inr h
  | a :: l, O, q, o, h => by
    rw [List.map_cons, applyW_cons] at h
    rcases applyW_dead h with h | h
    · exact .inl h
    · rw [List.getElem?_set] at h
      split at h
      · split at h
        · injection h with h; exact .inl h.symm
        · cases h
      · exact .inr h
theorem nodup_key : ∀ {W : List (Nat × Ob)}, (W.map (·.1)).Nodup → ∀ x ∈ W, ∀ y ∈ W, x.1 = y.1 → x = y
  | [], _, x, hx, _, _, _ => by cases hx
  | p :: W, h, x, hx, y, hy, he => by
    simp only [List.map_cons, List.nodup_cons] at h
    rcases List.mem_cons.1 hx with rfl | hx1 <;> rcases List.mem_cons.1 hy with rfl | hy1
    · rfl
    · exact absurd (List.mem_map.2 ⟨y, hy1, he.symm⟩) h.1
    · exact absurd (List.mem_map.2 ⟨x, hx1, he⟩) h.1
    · exact nodup_key h.2 x hx1 y hy1 he
theorem applyW_perm {W W2 : List (Nat × Ob)} (hp : W.Perm W2) (hn : (W.map (·.1)).Nodup) (O : List Ob) : applyW W O = applyW W2 O := by
  refine hp.foldl_eq' (fun x hx y hy z => ?_) O
  by_cases e : x.1 = y.1
  · rw [nodup_key hn x hx y hy e]
  · exact List.set_comm _ _ e
theorem nodup_flat {f : Nat → List Nat} : ∀ {l : List Nat}, l.Nodup → (∀ i ∈ l, (f i).Nodup) → (∀ i ∈ l, ∀ j ∈ l, i ≠ j → ∀ x ∈ f i, x ∉ f j) → (l.flatMap f).Nodup
  | [], _, _, _ => by simp
  | i :: l, hl, h1, h2 => by
    rw [List.flatMap_cons, List.nodup_append]
    rw [List.nodup_cons] at hl
    refine ⟨h1 i (List.mem_cons_self ..), nodup_flat hl.2 (fun j hj => h1 j (List.mem_cons_of_mem _ hj)) (fun a ha b hb => h2 a (List.mem_cons_of_mem _ ha) b (List.mem_cons_of_mem _ hb)), fun x hx y hy => ?_⟩
    rintro rfl
    obtain ⟨j, hj, hxj⟩ := List.mem_flatMap.1 hy
    exact h2 i (List.mem_cons_self ..) j (List.mem_cons_of_mem _ hj) (fun e => hl.1 (by rw [e]; exact hj)) x hx hxj
theorem flat_nodup {α : Type} {f : α → List Nat} : ∀ {l : List α}, (l.flatMap f).Nodup → (∀ (i : Nat) (h : i < l.length), (f l[i]).Nodup) ∧ ∀ (i j : Nat) (h : i < l.length) (h' : j < l.length), i ≠ j → ∀ x ∈ f l[i], x ∉ f l[j]
  | [], _ => ⟨fun i h => by simp at h, fun i j h => by simp at h⟩
  | a :: l, hl => by
    rw [List.flatMap_cons, List.nodup_append] at hl
    obtain ⟨g1, g2⟩ := flat_nodup hl.2.1
    have g3 : ∀ (j : Nat) (h : j < l.length), ∀ x ∈ f a, x ∉ f l[j] := fun j h x hx hy => hl.2.2 x hx x (List.mem_flatMap.2 ⟨_, List.getElem_mem h, hy⟩) rfl
    refine ⟨fun i h => ?_, fun i j h h' hne x hx hy => ?_⟩
    · cases i with
      | zero => exact hl.1
      | succ i => exact g1 i (by simpa using h)
    · cases i with
      | zero => cases j with
        | zero => exact hne rfl
        | succ j => exact g3 j (by simpa using h') x hx hy
      | succ i => cases j with
        | zero => exact g3 i (by simpa using h) x hy hx
        | succ j => exact g2 i j (by simpa using h) (by simpa using h') (by omega) x hx hy
/-! ### Off -/
structure FO where
  rf : Nat
  s : V
  rs : Option Nat
  cs : List V
  w : V
  rw : Option Nat
  ds : List V
  deriving Inhabited
/-- A row: its object, its cells. -/
def rowOf (objs : List Ob) : V → Option (Option Nat × List V)
  | .nils => some (none, [])
  | .hslice r 0 1 n => match objs[r]? with
    | some (.cells cs) => if n ≤ cs.length then some (some r, cs.take n) else none
    | _ => none
  | _ => none
def fileOf (objs : List Ob) : V × V → Option FO
  | (_, .optr rf 0) => match objs[rf]? with
    | some (.cells [s, w]) => match rowOf objs s, rowOf objs w with
      | some (rs, cs), some (rw, ds) => some ⟨rf, s, rs, cs, w, rw, ds⟩
      | _, _ => none
    | _ => none
  | _ => none
def filesOf (objs : List Ob) : List (V × V) → Option (List FO)
  | [] => some []
  | e :: es => match fileOf objs e, filesOf objs es with
    | some a, some l => some (a :: l)
    | _, _ => none
def FO.ids (f : FO) : List Nat := f.rf :: (f.rs.toList ++ f.rw.toList)
def FO.kept (f : FO) (k : Int) : List V := f.ds.take k.toNat
def fwrites (k : Int) (base : Nat) (fos : List FO) (i : Nat) : List (Nat × Ob) :=
  let f := fos.getD i default
  if f.kept k = [] then [(f.rf, .cells [f.s, .nils])] else
    f.rs.toList.map (·, Ob.dead) ++ [(f.rf, .cells [.hslice (base + i) 0 1 (f.cs.length + (f.kept k).length), .nils]), (base + i, .cells (f.cs ++ f.kept k))]
instance (k : Int) (f : FO) : Decidable (f.kept k = []) := match f.kept k with
  | [] => .isTrue rfl
  | _ :: _ => .isFalse (by intro h; cases h)
def offP (vs : List V) (σ : St) : Option (V × St) := match vs with
  | [.nilp, _] => some (.tuple [], σ)
  | [.optr r 0, .int .i64 k] => match σ.objs[r]? with
    | some (.cells [.omap rm, room, .bool off, wr, ar, kp]) => if off = true then some (.tuple [], σ) else match σ.objs[rm]? with
      | some (.mp es) => match filesOf σ.objs es with
        | some fos => if (fos.flatMap FO.ids).Nodup ∧ r ∉ fos.flatMap FO.ids ∧ (fos.all fun f => (f.kept k).all one && decide (f.cs.length + (f.kept k).length ≤ 140737488355328)) = true then
            some (.tuple [], ⟨(applyW ((List.range es.length).flatMap (fwrites k (σ.objs.length + 1) fos)) (σ.objs ++ [.dead] ++ List.replicate es.length .unb)).set r (.cells [.omap rm, room, .bool true, wr, .int .i64 0, kp]), σ.toks⟩)
          else none
        | none => none
      | _ => none
    | _ => none
  | _ => none
theorem filesOf_get {objs : List Ob} : ∀ {es : List (V × V)} {l : List FO}, filesOf objs es = some l → l.length = es.length ∧ ∀ i (h : i < es.length) (h' : i < l.length), fileOf objs es[i] = some l[i]
  | [], l, h => by simp [filesOf] at h; subst h; exact ⟨rfl, fun i h => by simp at h⟩
  | e :: es, l, h => by
    simp only [filesOf] at h
    split at h
    · rename_i a l' h1 h2
      injection h with h
      subst h
      obtain ⟨g1, g2⟩ := filesOf_get h2
      refine ⟨by simp [g1], fun i hi hi' => ?_⟩
      cases i with
      | zero => exact h1
      | succ i => simpa using g2 i (by simpa using hi) (by simpa using hi')
    · cases h
theorem rowOf_spec {objs : List Ob} {v : V} {q : Option Nat} {cs : List V} (h : rowOf objs v = some (q, cs)) : (v = .nils ∧ q = none ∧ cs = []) ∨ ∃ r full, v = .hslice r 0 1 cs.length ∧ q = some r ∧ objs[r]? = some (.cells full) ∧ cs.length ≤ full.length ∧ cs = full.take cs.length := by
  unfold rowOf at h
  split at h
  · injection h with h; injection h with h1 h2; subst h1 h2; exact .inl ⟨rfl, rfl, rfl⟩
  · rename_i r n
    split at h
    · rename_i full hr
      split at h
      · rename_i hn
        injection h with h; injection h with h1 h2; subst h1 h2
        have : (full.take n).length = n := by rw [List.length_take]; omega
        exact .inr ⟨r, full, by rw [this], rfl, hr, by rw [this]; exact hn, by rw [this]⟩
      · cases h
    · cases h
  · cases h
theorem fileOf_spec {objs : List Ob} {e : V × V} {f : FO} (h : fileOf objs e = some f) : e.2 = .optr f.rf 0 ∧ objs[f.rf]? = some (.cells [f.s, f.w]) ∧ rowOf objs f.s = some (f.rs, f.cs) ∧ rowOf objs f.w = some (f.rw, f.ds) := by
  unfold fileOf at h
  split at h
  · rename_i key rf
    split at h
    · rename_i s w hr
      split at h
      · rename_i rs cs rw ds h1 h2
        injection h with h
        subst h
        exact ⟨rfl, hr, h1, h2⟩
      · cases h
    · cases h
  · cases h
theorem fwrites_keys {k : Int} {base : Nat} {fos : List FO} {i : Nat} {q : Nat} (h : q ∈ (fwrites k base fos i).map (·.1)) : q ∈ (fos.getD i default).ids ∨ q = base + i := by
  unfold fwrites at h
  simp only at h
  split at h
  · simp at h; exact .inl (by simp [FO.ids, h])
  · simp only [List.map_append, List.map_map, List.map_cons, List.map_nil, List.mem_append, List.mem_map, List.mem_cons, List.not_mem_nil, or_false] at h
    rcases h with ⟨a, ha, rfl⟩ | rfl | rfl
    · exact .inl (by simp only [FO.ids, List.mem_cons, List.mem_append]; exact .inr (.inl ha))
    · exact .inl (by simp [FO.ids])
    · exact .inr rfl
theorem ids_lt {objs : List Ob} {e : V × V} {f : FO} (h : fileOf objs e = some f) {q : Nat} (hq : q ∈ f.ids) : ∃ cs, objs[q]? = some (.cells cs) := by
  obtain ⟨_, h2, h3, h4⟩ := fileOf_spec h
  simp only [FO.ids, List.mem_cons, List.mem_append] at hq
  rcases hq with rfl | hq | hq
  · exact ⟨_, h2⟩
  · rcases rowOf_spec h3 with ⟨_, e, _⟩ | ⟨r, full, _, e, hr, _⟩
    · rw [e] at hq; cases hq
    · rw [e] at hq; simp at hq; subst hq; exact ⟨_, hr⟩
  · rcases rowOf_spec h4 with ⟨_, e, _⟩ | ⟨r, full, _, e, hr, _⟩
    · rw [e] at hq; cases hq
    · rw [e] at hq; simp at hq; subst hq; exact ⟨_, hr⟩
theorem rowOf_eq {objs objs2 : List Ob} {v : V} {q : Option Nat} {cs : List V} (h : rowOf objs v = some (q, cs)) (hq : ∀ r, q = some r → objs2[r]? = objs[r]?) : rowOf objs2 v = some (q, cs) := by
  rcases rowOf_spec h with ⟨rfl, rfl, rfl⟩ | ⟨r, full, rfl, rfl, hr, hl, hc⟩
  · rfl
  · simp only [rowOf]
    rw [hq r rfl, hr]
    simp only
    rw [if_pos hl, ← hc]
theorem kept_slice {objs : List Ob} {v : V} {q : Option Nat} {ds : List V} (h : rowOf objs v = some (q, ds)) (k : Int) :
    ∃ w', vslice Try.prog 28 v none (some (.int .i64 (min (max k 0) (ds.length : Nat)))) none = some w' ∧ vnewsO Try.prog objs 28 w' 1 = some (ds.take k.toNat, (ds.take k.toNat).length) := by
  have hk : (min (max k 0) (ds.length : Nat)).toNat = (ds.take k.toNat).length := by rw [List.length_take]; omega
  have h0 : 0 ≤ min (max k 0) (ds.length : Nat) := by omega
  have h1 : min (max k 0) (ds.length : Nat) ≤ ds.length := by omega
  rcases rowOf_spec h with ⟨rfl, rfl, rfl⟩ | ⟨r, full, rfl, rfl, hr, hl, hc⟩
  · refine ⟨.nils, ?_, by simp [vnewsO, vnews, pTB]⟩
    have : min (max k 0) (([] : List V).length : Nat) = 0 := by simp; omega
    rw [this]
    exact (by kernel_rfl : vslice Try.prog 28 .nils none (some (.int .i64 0)) none = some .nils)
  · have hb := vbounds_hi (k := .i64) (len := ds.length) h0 h1
    refine ⟨.hslice r 0 1 (ds.take k.toNat).length, ?_, ?_⟩
    · simp only [vslice, pTB, pS1, hb]
      rw [hk]
      simp
    · simp only [vnewsO, vnews, pTB, hr, Nat.zero_add, Nat.mul_one, List.drop_zero]
      have e1 : full.take (ds.take k.toNat).length = ds.take k.toNat := by
        rw [List.length_take, hc]
        simp only [List.length_take]
        rw [List.take_take]
        congr 1
        have := hl
        omega
      have hle : (ds.take k.toNat).length ≤ full.length := by rw [List.length_take]; omega
      simp only [e1, hle, and_self, true_and, ↓reduceIte]
theorem off_append {objs : List Ob} {toks : List Bool} {s w' : V} {q : Option Nat} {cs ys : List V} (h : rowOf objs s = some (q, cs)) (hw : vnewsO Try.prog objs 28 w' 1 = some (ys, ys.length)) (ho : ys.all one = true) (hl : cs.length + ys.length ≤ 140737488355328) :
    vappendRow Try.prog ⟨objs, toks⟩ 28 28 s w' = if ys = [] then some (s, ⟨objs, toks⟩) else some (.hslice objs.length 0 1 (cs.length + ys.length), ⟨(applyW (q.toList.map (·, Ob.dead)) objs) ++ [.cells (cs ++ ys)], toks⟩) := by
  have hz : zeroT Try.prog 5 = some (.int .u8 0) := by kernel_rfl
  have hb : (Try.prog.info? 5).map (·.bytes) = some 1 := by kernel_rfl
  rcases rowOf_spec h with ⟨rfl, rfl, rfl⟩ | ⟨r, full, rfl, rfl, hr, hfl, hc⟩
  · by_cases h0 : ys = []
    · subst h0; simp [vappendRow, pTB, hb, pS1, hz, vcells, hw]
    · have h1 : ys.length ≠ 0 := fun h => h0 (List.length_eq_zero_iff.1 h)
      simp only [List.length_nil, Nat.zero_add] at hl
      simp [vappendRow, pTB, hb, pS1, hz, vcells, hw, h0, hl, applyW]
  · by_cases h0 : ys = []
    · subst h0; simp [vappendRow, pTB, hb, pS1, hz, vcells, hw]
    · have h1 : ys.length ≠ 0 := fun h => h0 (List.length_eq_zero_iff.1 h)
      have h2 : List.take cs.length full = cs := hc.symm
      simp [vappendRow, pTB, hb, pS1, hz, vcells, hw, h0, hr, hl, hfl, ho, h2, applyW]
theorem hides {base : Nat} {w0 : World} : ∀ (n : Nat) {g : Gh} {objs : List Ob} {toks : List Bool} {w : World}, Rel base w0 g ⟨objs, toks⟩ w → ∃ g1, Ext g toks w g1 toks w ∧ Rel base w0 g1 ⟨objs ++ List.replicate n .unb, toks⟩ w
  | 0, g, objs, toks, w, h => ⟨g, Ext.refl _ _ _, by simpa using h⟩
  | n + 1, g, objs, toks, w, h => by
    obtain ⟨g1, h1, h2⟩ := hides n h.hide
    refine ⟨g1, (Ext.hide g toks w).trans h1, ?_⟩
    rw [List.replicate_succ, List.append_cons]
    exact h2
noncomputable def cOff : Code := (Try.f15.body).getD .skip
theorem bOff : Try.f15.body = some cOff := by kernel_rfl
noncomputable def lOff : Code := subC [true, false, true, false, false] cOff
noncomputable def oOff1 : Array Oper := regOps (subC [true, false, false] cOff)
noncomputable def oOff2 : Array Oper := regOps (subC [false] lOff)
noncomputable def oOff3 : Array Oper := regOps (subC [true, true, false, false] lOff)
theorem sOff : cOff = .seq (subC [false] cOff) (.seq (.seq (.region 1 oOff1 false) (.block 0 (.loop lOff))) (subC [true, true] cOff)) := by kernel_rfl
theorem slOff : lOff = .seq (.region 2 oOff2 false) (.seq (.cond (.tmp 20) .skip (.exit 0)) (.block 1 (.seq (.region 3 oOff3 false) (subC [true, true, false, true] lOff)))) := by kernel_rfl
theorem f1s : oOff1.toList = oOff1.toList.take 4 ++ [oOff1.getD 4 default] := by kernel_rfl
theorem f2s : oOff2.toList = oOff2.getD 0 default :: oOff2.toList.drop 1 := by kernel_rfl
theorem f3s : oOff3.toList = oOff3.getD 0 default :: oOff3.toList.drop 1 := by kernel_rfl
theorem renV_optr {N j r o : Nat} (h : r ≠ N) : renV N j (.optr r o) = .optr r o := by simp only [renV]; rw [if_neg h]
theorem ren_sub {N j : Nat} {l : List V} (h : renVs N j l = l) : ∀ v ∈ l, renV N j v = v := by
  rw [renVs_map] at h
  intro v hv
  obtain ⟨i, hi, rfl⟩ := List.mem_iff_getElem.1 hv
  have := congrArg (·[i]?) h
  simpa [hi] using this
theorem ren_of {N j : Nat} {l : List V} (h : ∀ v ∈ l, renV N j v = v) : renVs N j l = l := by
  rw [renVs_map]
  exact (List.map_congr_left h).trans (List.map_id' l)
/-- The round's changes. -/
theorem fwrites_none {k : Int} {b : Nat} {fos : List FO} {i : Nat} {f : FO} (hf : fos.getD i default = f) (h : f.kept k = []) : fwrites k b fos i = [(f.rf, .cells [f.s, .nils])] := by
  unfold fwrites; rw [hf]; simp only; rw [if_pos h]
theorem fwrites_some {k : Int} {b : Nat} {fos : List FO} {i : Nat} {f : FO} (hf : fos.getD i default = f) (h : ¬ f.kept k = []) : fwrites k b fos i = f.rs.toList.map (·, Ob.dead) ++ [(f.rf, .cells [.hslice (b + i) 0 1 (f.cs.length + (f.kept k).length), .nils]), (b + i, .cells (f.cs ++ f.kept k))] := by
  unfold fwrites; rw [hf]; simp only; rw [if_neg h]
theorem off_ok {base : Nat} {w0 : World} {vs : List V} {σ : St} {v : V} {σ' : St} (h : offP vs σ = some (v, σ')) : CallOk Try.prog base w0 15 vs σ (.ret v) σ' := by
  have hp := prim0_ok base w0
  unfold offP at h
  split at h
  · rename_i x
    injection h with h
    injection h with h1 h2
    subst h1 h2
    refine CallOk.nd (fn := Try.f15) Try.func15 bOff (by show [V.nilp, x].length ≤ 53; simp) ?_
    show Nd Try.prog base w0 53 cOff _ _ _
    rw [sOff]
    refine Nd.seq (Nd.ev hp (k := .seq (.region k15_r0) (.cond (.tmp 13) .ret .skip)) (by kernel_rfl) (by kernel_rfl) (by kernel_rfl) ?_)
    simp only [k15_a, WK, vop, evAll, evOpt, evParts, vbuiltin, vun, vextract, Nat.reduceLT, Nat.reduceEqDiff, ↓reduceIte, reduceCtorEq, Nat.reduceAdd, Int.reduceLT, Int.reduceNeg, valloc_std, noSB0, vhot, implies_true, eq_self, false_and, or_false, false_or, List.getD_cons_zero, ofVal_nilp, eql_nilp pTD]
    exact ⟨[], by show vresults _ _ (env 53 _) [] = _; rfl, rfl⟩
  · rename_i r k
    split at h
    · rename_i rm room off wr ar kp hr
      have lo : vload Try.prog σ.objs 4 (.optr r 2) = some (.bool off) := by rw [vload_obj hr (by kernel_rfl)]; rfl
      have lm : vload Try.prog σ.objs 55 (.optr r 0) = some (.omap rm) := by rw [vload_obj hr (by kernel_rfl)]; rfl
      refine CallOk.nd (fn := Try.f15) Try.func15 bOff (by show [V.optr r 0, .int .i64 k].length ≤ 53; simp) ?_
      show Nd Try.prog base w0 53 cOff _ _ _
      rw [sOff]
      refine Nd.seq (Nd.ev hp (k := .seq (.region k15_r0) (.cond (.tmp 13) .ret .skip)) (by kernel_rfl) (by kernel_rfl) (by kernel_rfl) ?_)
      split at h
      · rename_i hoff
        injection h with h
        injection h with h1 h2
        subst h1 h2
        subst hoff
        simp only [k15_a, WK, vop, evAll, evOpt, evParts, vbuiltin, vun, vextract, Nat.reduceLT, Nat.reduceEqDiff, ↓reduceIte, reduceCtorEq, Nat.reduceAdd, Int.reduceLT, Int.reduceNeg, valloc_std, noSB0, vhot, implies_true, eq_self, false_and, or_false, false_or, List.getD_cons_zero, ofVal_nilp, eql_optr pTD, pFA r 2 (by omega), lo]
        exact ⟨[], by show vresults _ _ (env 53 _) [] = _; rfl, rfl⟩
      · rename_i hoff
        have hoff' : off = false := by simpa using hoff
        subst hoff'
        split at h
        · rename_i es hm
          split at h
          · rename_i fos hfos
            split at h
            · rename_i hcond
              obtain ⟨hnd, hrid, hall⟩ := hcond
              injection h with h
              injection h with h1 h2
              subst h1 h2
              obtain ⟨hfl, hfg⟩ := filesOf_get hfos
              have hrml := (List.getElem?_eq_some_iff.1 hm).1
              have hrl := (List.getElem?_eq_some_iff.1 hr).1
              obtain ⟨nd1, nd2⟩ := flat_nodup hnd
              have hgd : ∀ i, i < es.length → ∃ h : i < fos.length, fos.getD i default = fos[i] := fun i hi => ⟨by omega, by simp [List.getD_eq_getElem?_getD, List.getElem?_eq_getElem (show i < fos.length by omega)]⟩
              have hidl : ∀ i, i < es.length → ∀ q ∈ (fos.getD i default).ids, (∃ cs, σ.objs[q]? = some (.cells cs)) ∧ q < σ.objs.length ∧ q ≠ rm ∧ q ≠ r := by
                intro i hi q hq
                obtain ⟨hi', e⟩ := hgd i hi
                rw [e] at hq
                obtain ⟨cs, hc⟩ := ids_lt (hfg i hi hi') hq
                refine ⟨⟨cs, hc⟩, (List.getElem?_eq_some_iff.1 hc).1, (fun e => by rw [e, hm] at hc; cases hc), ?_⟩
                rintro rfl
                exact hrid (List.mem_flatMap.2 ⟨_, List.getElem_mem hi', hq⟩)
              have hkey : ∀ i, i < es.length → ∀ q ∈ (fwrites k (σ.objs.length + 1) fos i).map (·.1), q ∈ (fos.getD i default).ids ∨ q = σ.objs.length + 1 + i := fun i hi q hq => fwrites_keys hq
              have hnodup : ∀ vis : List Nat, vis.Nodup → (∀ i ∈ vis, i < es.length) → ((vis.flatMap (fwrites k (σ.objs.length + 1) fos)).map (·.1)).Nodup := by
                intro vis hv hvl
                rw [List.map_flatMap]
                refine nodup_flat hv (fun i hi => ?_) (fun i hi j hj hne x hx hx2 => ?_)
                · obtain ⟨hi', e⟩ := hgd i (hvl i hi)
                  have h9 := nd1 i hi'
                  have h8 := hidl i (hvl i hi)
                  rw [← e] at h9
                  obtain ⟨f, hf⟩ : ∃ f, fos.getD i default = f := ⟨_, rfl⟩
                  rw [hf] at h8 h9
                  by_cases hke : f.kept k = []
                  · rw [fwrites_none hf hke]; simp
                  · rw [fwrites_some hf hke]
                    have hrfm : f.rf ∈ f.ids := by simp [FO.ids]
                    have l1 := (h8 _ hrfm).2.1
                    cases hrs : f.rs with
                    | none => simp; omega
                    | some q =>
                      have hqm : q ∈ f.ids := by simp [FO.ids, hrs]
                      have l2 := (h8 _ hqm).2.1
                      have h7 : f.rf ≠ q := by
                        intro e2
                        simp only [FO.ids, hrs, List.nodup_cons] at h9
                        exact h9.1 (by simp [e2])
                      simp
                      omega
                · rcases hkey i (hvl i hi) x hx with h1 | h1 <;> rcases hkey j (hvl j hj) x hx2 with h2 | h2
                  · obtain ⟨hi', e⟩ := hgd i (hvl i hi)
                    obtain ⟨hj', e'⟩ := hgd j (hvl j hj)
                    rw [e] at h1
                    rw [e'] at h2
                    exact nd2 i j hi' hj' hne x h1 h2
                  · have := (hidl i (hvl i hi) x h1).2.1; omega
                  · have := (hidl j (hvl j hj) x h2).2.1; omega
                  · omega
              simp only [k15_a, WK, vop, evAll, evOpt, evParts, vbuiltin, vun, vextract, Nat.reduceLT, Nat.reduceEqDiff, ↓reduceIte, reduceCtorEq, Nat.reduceAdd, Int.reduceLT, Int.reduceNeg, valloc_std, noSB0, vhot, implies_true, eq_self, false_and, or_false, false_or, List.getD_cons_zero, ofVal_nilp, eql_optr pTD, pFA r 2 (by omega), lo]
              refine Nd.seq (Nd.seq (Nd.region ?_))
              rw [f1s]
              refine NdO.app (NdO.eo hp (cl := k15_r1.take 4) (by kernel_rfl) (by kernel_rfl) ?_)
              unfold k15_r1
              simp only [List.take_succ_cons, List.take_zero, WK, vop, evAll, evOpt, evParts, vbuiltin, vun, vextract, Nat.reduceLT, Nat.reduceEqDiff, ↓reduceIte, reduceCtorEq, Nat.reduceAdd, Int.reduceLT, Int.reduceNeg, valloc_std, noSB0, vhot, implies_true, eq_self, false_and, or_false, false_or, List.getD_cons_zero, pFA r 0 (by omega), lm]
              refine NdO.range (rm := rm) (es := es) (t := 55) (x := .tmp 17) (by kernel_rfl) (by kernel_rfl) pTM (by simp only [WK, vop, evAll, evOpt, evParts, vbuiltin, vun, vextract, Nat.reduceLT, Nat.reduceEqDiff, ↓reduceIte, reduceCtorEq, Nat.reduceAdd, Int.reduceLT, Int.reduceNeg, valloc_std, noSB0, vhot, implies_true, eq_self, false_and, or_false, false_or]) hm ?_
              intro b a clock hI
              have hd : (oOff1.getD 4 default).dst = some 18 := by kernel_rfl
              rw [hd]
              refine NdO.nil (.inl ⟨rfl, ?_⟩)
              obtain ⟨n, hn⟩ : ∃ n, n = σ.objs.length := ⟨_, rfl⟩
              obtain ⟨W, hW⟩ : ∃ W, W = fwrites k (n + 1) fos := ⟨_, rfl⟩
              obtain ⟨B, hB⟩ : ∃ B : Array Nat → Nat → List Ob, B = fun seen last => σ.objs.set rm (.mpR b es a clock) ++ [.it b clock seen last] ++ List.replicate es.length .unb := ⟨_, rfl⟩
              rw [← hn, ← hW] at hkey hnodup
              rw [← hn] at hrml hrl hidl
              rw [← hn, ← hW]
              have hBl : ∀ seen last, (B seen last).length = n + 1 + es.length := fun seen last => by rw [hB]; simp [hn]; omega
              have hBi : ∀ seen last, (B seen last)[n]? = some (.it b clock seen last) := fun seen last => by
                rw [hB]; simp only
                rw [List.append_assoc, List.getElem?_append_right (by rw [List.length_set, hn]; exact Nat.le_refl _), List.length_set, hn, Nat.sub_self]
                rfl
              have hBm : ∀ seen last, (B seen last)[rm]? = some (.mpR b es a clock) := fun seen last => by
                rw [hB]; simp only
                rw [List.append_assoc, List.getElem?_append_left (by rw [List.length_set, ← hn]; exact hrml), List.getElem?_set_self (by rw [← hn]; exact hrml)]
              have hBo : ∀ seen last q, q < n → q ≠ rm → (B seen last)[q]? = σ.objs[q]? := fun seen last q h1 h2 => by
                rw [hB]; simp only
                rw [List.append_assoc, List.getElem?_append_left (by rw [List.length_set, ← hn]; exact h1), List.getElem?_set_ne (Ne.symm h2)]
              have hBu : ∀ seen last i, i < es.length → (B seen last)[n + 1 + i]? = some .unb := fun seen last i h1 => by
                rw [hB]; simp only
                rw [List.getElem?_append_right (by simp [hn])]
                simp [hn, h1]
              have hBs : ∀ seen last seen' last', (B seen last).set n (.it b clock seen' last') = B seen' last' := fun seen last seen' last' => by
                rw [hB]; simp only
                rw [List.append_assoc, List.append_assoc, List.set_append_right _ _ (by rw [List.length_set, hn]; exact Nat.le_refl _), List.length_set, hn, Nat.sub_self]
                rfl
              have hkn : ∀ vis : List Nat, (∀ i ∈ vis, i < es.length) → n ∉ (vis.flatMap W).map (·.1) ∧ rm ∉ (vis.flatMap W).map (·.1) ∧ r ∉ (vis.flatMap W).map (·.1) := by
                intro vis hvl
                rw [List.map_flatMap]
                have key : ∀ q, q ∈ vis.flatMap (fun i => (W i).map (·.1)) → q ≠ n ∧ q ≠ rm ∧ q ≠ r := by
                  intro q hq
                  obtain ⟨i, hi, hq⟩ := List.mem_flatMap.1 hq
                  rcases hkey i (hvl i hi) q hq with h1 | h1
                  · have := hidl i (hvl i hi) q h1; omega
                  · omega
                exact ⟨fun h => (key n h).1 rfl, fun h => (key rm h).2.1 rfl, fun h => (key r h).2.2 rfl⟩
              have hkf : ∀ (vis : List Nat) (i : Nat), (∀ i ∈ vis, i < es.length) → i < es.length → i ∉ vis → (∀ q ∈ (fos.getD i default).ids, q ∉ (vis.flatMap W).map (·.1)) ∧ n + 1 + i ∉ (vis.flatMap W).map (·.1) := by
                intro vis i hvl hi hiv
                rw [List.map_flatMap]
                have key : ∀ q, q ∈ vis.flatMap (fun i => (W i).map (·.1)) → q ∉ (fos.getD i default).ids ∧ q ≠ n + 1 + i := by
                  intro q hq
                  obtain ⟨j, hj, hq⟩ := List.mem_flatMap.1 hq
                  have hne : j ≠ i := fun e => hiv (by rw [← e]; exact hj)
                  rcases hkey j (hvl j hj) q hq with h1 | h1
                  · refine ⟨fun h2 => ?_, by have := hidl j (hvl j hj) q h1; omega⟩
                    obtain ⟨hi', e⟩ := hgd i hi
                    obtain ⟨hj', e'⟩ := hgd j (hvl j hj)
                    rw [e] at h2
                    rw [e'] at h1
                    exact nd2 j i hj' hi' hne q h1 h2
                  · exact ⟨fun h2 => (by have := hidl i hi q h2; omega), by omega⟩
                exact ⟨fun q hq h => (key q h).1 hq, fun h => (key _ h).2 rfl⟩
              refine Nd.re (σ1 := ⟨B #[] clock, σ.toks⟩) (fun g w tm hR hT => by rw [hB]; exact hides es.length hR) ?_
              refine Nd.block ?_
              refine Nd.loop (fun vis e τ => ∃ seen last, It τ n rm es vis b clock a clock last seen ∧ τ = ⟨applyW (vis.flatMap W) (B seen last), σ.toks⟩ ∧ e 18 = .optr n 0 ∧ e 0 = .optr r 0 ∧ e 1 = .int .i64 k) (fun vis => es.length - vis.length) ?_ []
                ⟨#[], clock, ⟨hBi _ _, hBm _ _, hI.sz, hI.old, hI.sl, hI.sc, hI.nd, rfl, List.nodup_nil, fun i h => by cases h⟩, rfl, by simp [upd_some, hn], by simp [upd_some], by simp [upd_some]⟩
              rintro vis e τ ⟨seen, last, hI, rfl, h18, h0, h1⟩
              rw [slOff]
              refine Nd.seq (Nd.region ?_)
              rw [f2s]
              have hd2 : (oOff2.getD 0 default).dst = some 19 := by kernel_rfl
              have hvk := hkn vis hI.vlt
              refine NdO.next (ri := n) (rm := rm) (x := .tmp 18) (by kernel_rfl) (by kernel_rfl) (by simp only [WK, vop, evAll, evOpt, evParts, vbuiltin, vun, vextract, Nat.reduceLT, Nat.reduceEqDiff, ↓reduceIte, reduceCtorEq, Nat.reduceAdd, Int.reduceLT, Int.reduceNeg, valloc_std, noSB0, vhot, implies_true, eq_self, false_and, or_false, false_or, h18]) hI (by omega) ?_ ?_
              · intro hall2
                rw [hd2]
                refine NdO.eo hp (cl := k15_r2.drop 1) (by kernel_rfl) (by kernel_rfl) ?_
                unfold k15_r2
                simp only [List.drop_succ_cons, List.drop_zero, WK, vop, evAll, evOpt, evParts, vbuiltin, vun, vextract, Nat.reduceLT, Nat.reduceEqDiff, ↓reduceIte, reduceCtorEq, Nat.reduceAdd, Int.reduceLT, Int.reduceNeg, valloc_std, noSB0, vhot, implies_true, eq_self, false_and, or_false, false_or]
                refine Nd.seq (Nd.cond (t := false) (by simp only [WK, vop, evAll, evOpt, evParts, vbuiltin, vun, vextract, Nat.reduceLT, Nat.reduceEqDiff, ↓reduceIte, reduceCtorEq, Nat.reduceAdd, Int.reduceLT, Int.reduceNeg, valloc_std, noSB0, vhot, implies_true, eq_self, false_and, or_false, false_or]) (Nd.exit (.inr ⟨(by intro h; cases h), .inr ⟨(by intro h; cases h), .inl ⟨rfl, ?_⟩⟩⟩)))
                have hperm := vis_perm hI.vnd hI.vlt hall2
                obtain ⟨O, hO⟩ : ∃ O, O = applyW ((List.range es.length).flatMap W) (σ.objs ++ [.dead] ++ List.replicate es.length .unb) := ⟨_, rfl⟩
                rw [← hO]
                have hrk := hkn (List.range es.length) (fun i hi => List.mem_range.1 hi)
                have hOr : O[r]? = some (.cells [.omap rm, room, .bool false, wr, ar, kp]) := by
                  rw [hO, applyW_ne _ _ hrk.2.2, List.append_assoc, List.getElem?_append_left (by rw [← hn]; exact hrl)]
                  exact hr
                refine Nd.re (σ1 := ⟨O, σ.toks⟩) ?_ ?_
                · intro g w tm hR hT
                  refine ⟨g, Ext.refl _ _ _, ?_⟩
                  obtain ⟨m1, m2, m3, m4, m5, m6, m7⟩ := hR.obj rm _ hI.mp
                  have q1 := hR.reOb hI.mp (fun h => h) (o' := .mp es) (by intro h; cases h) ⟨m1, m2, a, clock, m4, m5, m6, m7⟩
                  have q2 := q1.bury n (by
                    simp only
                    rw [List.getElem?_set_ne (by omega), hI.it]
                    intro h; cases h)
                  have e1 : ((applyW (vis.flatMap W) (B seen last)).set rm (.mp es)).set n .dead = O := by
                    rw [← applyW_set _ _ _ hvk.2.1, ← applyW_set _ _ _ hvk.1, hO]
                    have e2 : ((B seen last).set rm (.mp es)).set n .dead = σ.objs ++ [.dead] ++ List.replicate es.length .unb := by
                      rw [hB]; simp only
                      rw [List.append_assoc, List.set_append_left _ _ (by rw [List.length_set, ← hn]; exact hrml), List.set_set, List.set_append_right _ _ (by rw [List.length_set, hn]; exact Nat.le_refl _), List.length_set, hn, Nat.sub_self, set_self hm, List.append_assoc]
                      rfl
                    rw [e2]
                    exact applyW_perm (hperm.flatMap_right _) (hnodup vis hI.vnd hI.vlt) _
                  simp only at q2
                  rw [e1] at q2
                  exact q2
                · have st1 : vstore Try.prog ⟨O, σ.toks⟩ 4 (.optr r 2) (.bool true) = some ⟨O.set r (.cells [.omap rm, room, .bool true, wr, ar, kp]), σ.toks⟩ := by
                    rw [vstore_obj hOr (by kernel_rfl) rfl (by simp)]; rfl
                  have hOrl := (List.getElem?_eq_some_iff.1 hOr).1
                  have st2 : vstore Try.prog ⟨O.set r (.cells [.omap rm, room, .bool true, wr, ar, kp]), σ.toks⟩ 3 (.optr r 4) (.int .i64 0) = some ⟨O.set r (.cells [.omap rm, room, .bool true, wr, .int .i64 0, kp]), σ.toks⟩ := by
                    rw [vstore_obj (σ := ⟨O.set r (.cells [.omap rm, room, .bool true, wr, ar, kp]), σ.toks⟩) (cs := [.omap rm, room, .bool true, wr, ar, kp]) (List.getElem?_set_self hOrl) (by kernel_rfl) rfl (by simp)]
                    simp [List.set_set]
                  refine Nd.ev hp (k := .region k15_r5) (by kernel_rfl) (by kernel_rfl) (by kernel_rfl) ?_
                  simp only [k15_a, WK, vop, evAll, evOpt, evParts, vbuiltin, vun, vextract, Nat.reduceLT, Nat.reduceEqDiff, ↓reduceIte, reduceCtorEq, Nat.reduceAdd, Int.reduceLT, Int.reduceNeg, valloc_std, noSB0, vhot, implies_true, eq_self, false_and, or_false, false_or, h0, pFA r 2 (by omega), pFA r 4 (by omega), st1, st2]
                  exact ⟨[], by show vresults _ _ (env 53 _) [] = _; rfl, rfl⟩
              · intro i hiv hi hI2
                rw [hd2]
                refine NdO.eo hp (cl := k15_r2.drop 1) (by kernel_rfl) (by kernel_rfl) ?_
                unfold k15_r2
                simp only [List.drop_succ_cons, List.drop_zero, WK, vop, evAll, evOpt, evParts, vbuiltin, vun, vextract, Nat.reduceLT, Nat.reduceEqDiff, ↓reduceIte, reduceCtorEq, Nat.reduceAdd, Int.reduceLT, Int.reduceNeg, valloc_std, noSB0, vhot, implies_true, eq_self, false_and, or_false, false_or]
                refine Nd.seq (Nd.cond (t := true) (by simp only [WK, vop, evAll, evOpt, evParts, vbuiltin, vun, vextract, Nat.reduceLT, Nat.reduceEqDiff, ↓reduceIte, reduceCtorEq, Nat.reduceAdd, Int.reduceLT, Int.reduceNeg, valloc_std, noSB0, vhot, implies_true, eq_self, false_and, or_false, false_or]) (Nd.skip (.inl ⟨rfl, ?_⟩)))
                obtain ⟨seen', hseen'⟩ : ∃ s, s = seen.push (a.getD i default).born := ⟨_, rfl⟩
                rw [← hseen'] at hI2 ⊢
                rw [← applyW_set _ _ _ hvk.1, hBs] at hI2 ⊢
                obtain ⟨O, hO⟩ : ∃ O, O = applyW (vis.flatMap W) (B seen' clock) := ⟨_, rfl⟩
                rw [← hO] at hI2 ⊢
                have hOl : O.length = n + 1 + es.length := by rw [hO, applyW_len, hBl]
                refine Nd.block (Nd.seq (Nd.region ?_))
                rw [f3s]
                refine NdO.entry (ri := n) (rm := rm) (vis := vis) (seen := seen) (x := .tmp 18) (by kernel_rfl) (by kernel_rfl) (by simp only [WK, vop, evAll, evOpt, evParts, vbuiltin, vun, vextract, Nat.reduceLT, Nat.reduceEqDiff, ↓reduceIte, reduceCtorEq, Nat.reduceAdd, Int.reduceLT, Int.reduceNeg, valloc_std, noSB0, vhot, implies_true, eq_self, false_and, or_false, false_or, h18]) (by rw [← hseen']; exact hI2) hi ?_
                have hd3 : (oOff3.getD 0 default).dst = some 21 := by kernel_rfl
                rw [hd3]
                refine NdO.eo hp (cl := k15_r3.drop 1) (by kernel_rfl) (by kernel_rfl) ?_
                unfold k15_r3
                simp only [List.drop_succ_cons, List.drop_zero, WK, vop, evAll, evOpt, evParts, vbuiltin, vun, vextract, Nat.reduceLT, Nat.reduceEqDiff, ↓reduceIte, reduceCtorEq, Nat.reduceAdd, Int.reduceLT, Int.reduceNeg, valloc_std, noSB0, vhot, implies_true, eq_self, false_and, or_false, false_or]
                obtain ⟨hi', efo⟩ := hgd i hi
                obtain ⟨f, hf⟩ : ∃ f, fos.getD i default = f := ⟨_, rfl⟩
                have hfo := hfg i hi hi'
                have hidi := hidl i hi
                have hkfi := hkf vis i hI.vlt hi hiv
                have hndi := nd1 i hi'
                rw [← efo] at hfo hndi
                rw [hf] at hfo hidi hkfi hndi
                have hallf := List.all_eq_true.1 hall f (by rw [← hf, efo]; exact List.getElem_mem hi')
                simp only [Bool.and_eq_true, decide_eq_true_eq] at hallf
                obtain ⟨k2, k3, k4, k5⟩ := fileOf_spec hfo
                have hOq : ∀ q ∈ f.ids, O[q]? = σ.objs[q]? := fun q hq => by
                  rw [hO, applyW_ne _ _ (hkfi.1 q hq)]
                  exact hBo _ _ q (hidi q hq).2.1 (hidi q hq).2.2.1
                have hrfm : f.rf ∈ f.ids := by simp [FO.ids]
                have hOrf : O[f.rf]? = some (.cells [f.s, f.w]) := by rw [hOq _ hrfm]; exact k3
                have hOs : rowOf O f.s = some (f.rs, f.cs) := rowOf_eq k4 fun q hq => hOq q (by simp [FO.ids, hq])
                have hOw : rowOf O f.w = some (f.rw, f.ds) := rowOf_eq k5 fun q hq => hOq q (by simp [FO.ids, hq])
                have hOu : O[n + 1 + i]? = some .unb := by rw [hO, applyW_ne _ _ hkfi.2]; exact hBu _ _ i hi
                have hlw : rowLen f.w = some f.ds.length := by
                  rcases rowOf_spec hOw with ⟨e1, _, e2⟩ | ⟨_, _, e1, _⟩
                  · rw [e1, e2]; rfl
                  · rw [e1]; rfl
                obtain ⟨w', hsl, hnw⟩ := kept_slice hOw k
                have hmx : vmm true (.int .i64 k) (.int .i64 0) = some (.int .i64 (max k 0)) := by
                  simp only [vmm, if_true]; congr 2; omega
                have hmn : vmm false (.int .i64 (max k 0)) (.int .i64 (f.ds.length : Nat)) = some (.int .i64 (min (max k 0) (f.ds.length : Nat))) := by
                  simp only [vmm, Bool.false_eq_true, if_false]; congr 2; omega
                have hap := off_append (toks := σ.toks) hOs hnw hallf.1 hallf.2
                have ls : vload Try.prog O 28 (.optr f.rf 0) = some f.s := by rw [vload_obj hOrf pGB]; rfl
                have lw : vload Try.prog O 28 (.optr f.rf 1) = some f.w := by rw [vload_obj hOrf pGB]; rfl
                have hones : one f.s = true := by
                  rcases rowOf_spec hOs with ⟨e1, _⟩ | ⟨_, _, e1, _⟩ <;> rw [e1] <;> rfl
                by_cases hke : f.kept k = []
                · have hap2 : vappendRow Try.prog ⟨O, σ.toks⟩ 28 28 f.s w' = some (f.s, ⟨O, σ.toks⟩) := by rw [hap]; exact if_pos hke
                  have s1 : vstore Try.prog ⟨O, σ.toks⟩ 28 (.optr f.rf 0) f.s = some ⟨O, σ.toks⟩ := by
                    rw [vstore_obj hOrf pSB hones (by simp)]
                    simp [set_self hOrf]
                  have s2 : vstore Try.prog ⟨O, σ.toks⟩ 28 (.optr f.rf 1) .nils = some ⟨O.set f.rf (.cells [f.s, .nils]), σ.toks⟩ := by
                    rw [vstore_obj hOrf pSB rfl (by simp)]; rfl
                  have hOn : O.set f.rf (.cells [f.s, .nils]) = applyW ((vis ++ [i]).flatMap W) (B seen' clock) := by
                    rw [List.flatMap_append, applyW_append, ← hO, List.flatMap_singleton, hW, fwrites_none hf hke]
                    rfl
                  refine Nd.ev hp (k := .region k15_r4) (by kernel_rfl) (by kernel_rfl) (by kernel_rfl) ?_
                  simp only [k15_a, WK, vop, evAll, evOpt, evParts, vbuiltin, vun, vextract, Nat.reduceLT, Nat.reduceEqDiff, ↓reduceIte, reduceCtorEq, Nat.reduceAdd, Int.reduceLT, Int.reduceNeg, valloc_std, noSB0, vhot, implies_true, eq_self, false_and, or_false, false_or, h1, k2, pFF0, pFF1, ls, lw, rowLen_len hlw, hmx, hmn, pTB, hsl, hap2, s1, nilEP, s2]
                  refine ⟨vis ++ [i], ⟨seen', clock, ?_, by rw [hOn], h18, h0⟩, ?_⟩
                  · refine ⟨?_, ?_, hI2.sz, hI2.old, hI2.sl, hI2.sc, hI2.nd, hI2.hvis, hI2.vnd, hI2.vlt⟩
                    · simp only; rw [List.getElem?_set_ne (by have := (hidi _ hrfm).2.1; omega)]; exact hI2.it
                    · simp only; rw [List.getElem?_set_ne (hidi _ hrfm).2.2.1]; exact hI2.mp
                  · have := vis_le hI2.vnd hI2.vlt
                    simp only [List.length_append, List.length_cons, List.length_nil] at this ⊢
                    omega
                · have hap2 : vappendRow Try.prog ⟨O, σ.toks⟩ 28 28 f.s w' = some (.hslice O.length 0 1 (f.cs.length + (f.kept k).length), ⟨applyW (f.rs.toList.map (·, Ob.dead)) O ++ [Ob.cells (f.cs ++ f.kept k)], σ.toks⟩) := by rw [hap]; exact if_neg hke
                  obtain ⟨D, hD⟩ : ∃ D, D = applyW (f.rs.toList.map (·, Ob.dead)) O := ⟨_, rfl⟩
                  rw [← hD] at hap2
                  obtain ⟨len, hlen⟩ : ∃ len, len = f.cs.length + (f.kept k).length := ⟨_, rfl⟩
                  rw [← hlen] at hap2
                  have hDl : D.length = O.length := by rw [hD, applyW_len]
                  have hrsk : ∀ q ∈ (f.rs.toList.map (·, Ob.dead)).map (·.1), q ∈ f.ids ∧ q ≠ f.rf := by
                    intro q hq
                    simp only [List.map_map, List.mem_map, Option.mem_toList] at hq
                    obtain ⟨a', ha, rfl⟩ := hq
                    have hm1 : a' ∈ f.rs.toList := by rw [ha]; simp
                    refine ⟨by simp only [FO.ids, List.mem_cons, List.mem_append]; exact .inr (.inl hm1), fun e => ?_⟩
                    simp only [FO.ids, List.nodup_cons, List.mem_append, not_or] at hndi
                    exact hndi.1.1 (by rw [← e]; exact hm1)
                  have hDrf : D[f.rf]? = some (.cells [f.s, f.w]) := by rw [hD, applyW_ne _ _ (fun h => (hrsk _ h).2 rfl)]; exact hOrf
                  have hDu : D[n + 1 + i]? = some .unb := by rw [hD, applyW_ne _ _ (fun h => by have := (hidi _ (hrsk _ h).1).2.1; omega)]; exact hOu
                  obtain ⟨D2, hD2⟩ : ∃ D2, D2 = D.set f.rf (.cells [.hslice O.length 0 1 len, .nils]) := ⟨_, rfl⟩
                  have hrfD : f.rf < D.length := (List.getElem?_eq_some_iff.1 hDrf).1
                  have s1 : vstore Try.prog ⟨D ++ [Ob.cells (f.cs ++ f.kept k)], σ.toks⟩ 28 (.optr f.rf 0) (.hslice O.length 0 1 len) = some ⟨(D ++ [Ob.cells (f.cs ++ f.kept k)]).set f.rf (.cells [.hslice O.length 0 1 len, f.w]), σ.toks⟩ := by
                    rw [vstore_obj (σ := ⟨D ++ [Ob.cells (f.cs ++ f.kept k)], σ.toks⟩) (by simp only; rw [List.getElem?_append_left hrfD]; exact hDrf) pSB rfl (by simp)]; rfl
                  have s2 : vstore Try.prog ⟨(D ++ [Ob.cells (f.cs ++ f.kept k)]).set f.rf (.cells [.hslice O.length 0 1 len, f.w]), σ.toks⟩ 28 (.optr f.rf 1) .nils = some ⟨D2 ++ [Ob.cells (f.cs ++ f.kept k)], σ.toks⟩ := by
                    rw [vstore_obj (σ := ⟨(D ++ [Ob.cells (f.cs ++ f.kept k)]).set f.rf (.cells [.hslice O.length 0 1 len, f.w]), σ.toks⟩) (cs := [.hslice O.length 0 1 len, f.w]) (List.getElem?_set_self (by simp; omega)) pSB rfl (by simp)]
                    simp [List.set_set, hD2, List.set_append_left _ _ hrfD]
                    rw [List.set_append_left _ _ (by simpa using hrfD), List.set_set]
                  have hON : O.length = n + 1 + es.length := hOl
                  refine Nd.post (Q' := fun x e1 σ1 => x = .normal ∧ e1 18 = .optr n 0 ∧ e1 0 = .optr r 0 ∧ e1 1 = .int .i64 k ∧ σ1 = ⟨D2 ++ [Ob.cells (f.cs ++ f.kept k)], σ.toks⟩) ?_ ?_
                  · refine Nd.ev hp (k := .region k15_r4) (by kernel_rfl) (by kernel_rfl) (by kernel_rfl) ?_
                    simp only [k15_a, WK, vop, evAll, evOpt, evParts, vbuiltin, vun, vextract, Nat.reduceLT, Nat.reduceEqDiff, ↓reduceIte, reduceCtorEq, Nat.reduceAdd, Int.reduceLT, Int.reduceNeg, valloc_std, noSB0, vhot, implies_true, eq_self, false_and, or_false, false_or, h0, h1, h18, k2, pFF0, pFF1, ls, lw, rowLen_len hlw, hmx, hmn, pTB, hsl, hap2, s1, nilEP, s2]
                  · rintro x e1 σ1 ⟨rfl, g18, g0, g1, rfl⟩
                    have hOn : (D.set f.rf (.cells [.hslice (n + 1 + i) 0 1 len, .nils])).set (n + 1 + i) (.cells (f.cs ++ f.kept k)) = applyW ((vis ++ [i]).flatMap W) (B seen' clock) := by
                      rw [List.flatMap_append, applyW_append, ← hO, List.flatMap_singleton, hW, fwrites_some hf hke, applyW_append, ← hD, ← hlen]
                      rfl
                    refine ⟨fun t => renV O.length (n + 1 + i) (e1 t), ⟨(D.set f.rf (.cells [.hslice (n + 1 + i) 0 1 len, .nils])).set (n + 1 + i) (.cells (f.cs ++ f.kept k)), σ.toks⟩, ?_, ?_⟩
                    · refine .inr ⟨(by intro h; cases h), .inl ⟨rfl, vis ++ [i], ⟨seen', clock, ?_, by rw [hOn], ?_, ?_, ?_⟩, ?_⟩⟩
                      · refine ⟨?_, ?_, hI2.sz, hI2.old, hI2.sl, hI2.sc, hI2.nd, hI2.hvis, hI2.vnd, hI2.vlt⟩
                        · simp only
                          rw [List.getElem?_set_ne (by omega), List.getElem?_set_ne (by have := (hidi _ hrfm).2.1; omega), hD, applyW_ne _ _ (fun h => by have := (hidi _ (hrsk _ h).1).2.1; omega)]
                          exact hI2.it
                        · simp only
                          rw [List.getElem?_set_ne (by omega), List.getElem?_set_ne (hidi _ hrfm).2.2.1, hD, applyW_ne _ _ (fun h => (hidi _ (hrsk _ h).1).2.2.1 rfl)]
                          exact hI2.mp
                      · simp only [g18]; exact renV_optr (by omega)
                      · simp only [g0]; exact renV_optr (by omega)
                      · simp only [g1]; rfl
                      · have := vis_le hI2.vnd hI2.vlt
                        simp only [List.length_append, List.length_cons, List.length_nil] at this ⊢
                        omega
                    · intro gg0 Wd g w tm hR0 hE hR hT
                      have hn0 : gg0.n = O.length := hR0.n
                      have hnN : ¬ gg0.has O.length := fun h => by have := h.1; omega
                      have hnj : ¬ gg0.has (n + 1 + i) := fun h => by
                        have h2 := (hR0.hid (n + 1 + i)).2 hOu
                        rw [h.2] at h2; cases h2
                      have hD2l : D2.length = O.length := by rw [hD2, List.length_set, hDl]
                      have hD2u : D2[n + 1 + i]? = some .unb := by rw [hD2, List.getElem?_set_ne (by have := (hidi _ hrfm).2.1; omega)]; exact hDu
                      have hmv := Rel.move hR hD2u (by intro h; cases h)
                      rw [hD2l] at hmv
                      have ok : ∀ q o, O[q]? = some o → renO O.length (n + 1 + i) o = o := fun q o hq => (hR0.obj q o hq).ren_old hnN
                      have cok : ∀ (v : V) (q : Option Nat) (cs : List V), rowOf O v = some (q, cs) → ∀ x ∈ cs, renV O.length (n + 1 + i) x = x := by
                        intro v q cs hv x hx
                        rcases rowOf_spec hv with ⟨_, _, e2⟩ | ⟨rr, full, _, _, hrr, _, e2⟩
                        · rw [e2] at hx; cases hx
                        · have := ok _ _ hrr
                          simp only [renO, Ob.cells.injEq] at this
                          rw [e2] at hx
                          exact ren_sub this x (List.mem_of_mem_take hx)
                      have e3 : D2.map (renO O.length (n + 1 + i)) = D.set f.rf (.cells [.hslice (n + 1 + i) 0 1 len, .nils]) := by
                        apply List.ext_getElem?
                        intro q
                        rw [List.getElem?_map, hD2]
                        by_cases eq : f.rf = q
                        · subst eq
                          rw [List.getElem?_set_self hrfD, List.getElem?_set_self hrfD]
                          simp [renO, renVs, renV]
                        · rw [List.getElem?_set_ne eq, List.getElem?_set_ne eq]
                          cases hq : D[q]? with
                          | none => rfl
                          | some o =>
                            simp only [Option.map_some]
                            rw [hD] at hq
                            rcases applyW_dead hq with rfl | hq
                            · rfl
                            · rw [ok _ _ hq]
                      have e4 : renO O.length (n + 1 + i) (Ob.cells (f.cs ++ f.kept k)) = .cells (f.cs ++ f.kept k) := by
                        simp only [renO]
                        rw [ren_of]
                        intro x hx
                        rcases List.mem_append.1 hx with hx | hx
                        · exact cok _ _ _ hOs x hx
                        · exact cok _ _ _ hOw x (List.mem_of_mem_take hx)
                      rw [e3, e4] at hmv
                      refine ⟨g.move O.length (n + 1 + i), hE.move (by omega) hnj, hmv, ?_⟩
                      have hgn : g.n = O.length + 1 := by rw [hR.n]; simp [hD2l]
                      have hgh : g.hid (n + 1 + i) = true := (hR.hid _).2 (by simp only; rw [List.getElem?_append_left (by omega)]; exact hD2u)
                      have := VRs.move (N := O.length) (j := n + 1 + i) hgn (by omega) hgh _ hT
                      rw [renVs_map] at this
                      simpa [env, Function.comp_def] using this
            · cases h
          · cases h
        · cases h
    · cases h
  · cases h
/-! ### Sorted keys: by the shelf -/
section
open Go.Shelf
def layK_ren : Ren where
  f := fun x => match x with
    | 10 => 49
    | n => n
  t := fun x => match x with
    | 0 => 0
    | 3 => 58
    | 4 => 4
    | 23 => 55
    | 26 => 9
    | 33 => 72
    | n => n
  g := fun x => x
theorem layK : SlLaysZ.n10 Try.prog layK_ren where
  mixed := by kernel_rfl
  f10 := ⟨ "maps.Keys[map[string]*quern/disk.file,string,*quern/disk.file]$1", by decide, Try.func49.trans (congrArg some (by kernel_rfl))⟩
  t0 := Try.underlying0
  a0 := Try.isAgg0
  z0 := Try.sizeOf0
  v0 := Try.zeroValue0
  t4 := Try.underlying4
  a4 := Try.isAgg4
  z4 := Try.sizeOf4
  v4 := Try.zeroValue4
  t23 := Try.underlying55
  a23 := Try.isAgg55
  z23 := Try.sizeOf55
  v23 := Try.zeroValue55
  t26 := Try.underlying9
  a26 := Try.isAgg9
  z26 := Try.sizeOf9
  v26 := Try.zeroValue9
  t33 := Try.underlying72
  a33 := Try.isAgg72
  z33 := Try.sizeOf72
  v33 := Try.zeroValue72
def layS_ren : Ren where
  f := fun x => match x with
    | 6 => 33
    | 8 => 47
    | 9 => 48
    | 11 => 57
    | n => n
  t := fun x => match x with
    | 0 => 0
    | 24 => 31
    | 26 => 9
    | 28 => 64
    | 33 => 72
    | n => n
  g := fun x => x
theorem layS : SlLaysZ.n6 Try.prog layS_ren where
  mixed := by kernel_rfl
  f6 := ⟨ "slices.Sorted[string]", by decide, Try.func33.trans (congrArg some (by kernel_rfl))⟩
  f8 := ⟨ "slices.Collect[string]", by decide, Try.func47.trans (congrArg some (by kernel_rfl))⟩
  f11 := ⟨ "slices.AppendSeq[[]string,string]", by decide, Try.func57.trans (congrArg some (by kernel_rfl))⟩
  t0 := Try.underlying0
  a0 := Try.isAgg0
  z0 := Try.sizeOf0
  v0 := Try.zeroValue0
  t24 := Try.underlying31
  a24 := Try.isAgg31
  z24 := Try.sizeOf31
  v24 := Try.zeroValue31
  t26 := Try.underlying9
  a26 := Try.isAgg9
  z26 := Try.sizeOf9
  v26 := Try.zeroValue9
  t28 := Try.underlying64
  a28 := Try.isAgg64
  z28 := Try.sizeOf64
  v28 := Try.zeroValue64
  i26 := by kernel_rfl
def layM_ren : Ren where
  f := fun x => match x with
    | 6 => 48
    | 8 => 59
    | 9 => 58
    | 19 => 69
    | 20 => 70
    | 21 => 60
    | 22 => 61
    | 23 => 62
    | 24 => 63
    | 25 => 64
    | 26 => 65
    | 27 => 66
    | 28 => 67
    | 29 => 68
    | 31 => 72
    | 32 => 73
    | 36 => 71
    | 37 => 74
    | 38 => 75
    | 39 => 76
    | 41 => 77
    | n => n
  t := fun x => match x with
    | 0 => 0
    | 3 => 3
    | 4 => 4
    | 5 => 5
    | 9 => 9
    | 26 => 31
    | 27 => 31
    | 29 => 9
    | 32 => 83
    | 35 => 85
    | 36 => 86
    | 41 => 91
    | 44 => 94
    | 46 => 96
    | 53 => 97
    | 57 => 101
    | 63 => 103
    | 64 => 104
    | n => n
  g := fun x => x
theorem layM : SlLaysM.n6 Try.prog layM_ren where
  mixed := by kernel_rfl
  f6 := ⟨ "slices.Sort[[]string,string]", by decide, Try.func48.trans (congrArg some (by kernel_rfl))⟩
  f8 := Try.func59.trans (congrArg some (by kernel_rfl))
  f9 := ⟨ "slices.pdqsortOrdered[string]", by decide, Try.func58.trans (congrArg some (by kernel_rfl))⟩
  f19 := Try.func69.trans (congrArg some (by kernel_rfl))
  f20 := Try.func70.trans (congrArg some (by kernel_rfl))
  f21 := ⟨ "slices.insertionSortOrdered[string]", by decide, Try.func60.trans (congrArg some (by kernel_rfl))⟩
  f22 := ⟨ "slices.heapSortOrdered[string]", by decide, Try.func61.trans (congrArg some (by kernel_rfl))⟩
  f23 := ⟨ "slices.breakPatternsOrdered[string]", by decide, Try.func62.trans (congrArg some (by kernel_rfl))⟩
  f24 := ⟨ "slices.choosePivotOrdered[string]", by decide, Try.func63.trans (congrArg some (by kernel_rfl))⟩
  f25 := ⟨ "slices.reverseRangeOrdered[string]", by decide, Try.func64.trans (congrArg some (by kernel_rfl))⟩
  f26 := ⟨ "slices.partialInsertionSortOrdered[string]", by decide, Try.func65.trans (congrArg some (by kernel_rfl))⟩
  f27 := ⟨ "cmp.Less[string]", by decide, Try.func66.trans (congrArg some (by kernel_rfl))⟩
  f28 := ⟨ "slices.partitionEqualOrdered[string]", by decide, Try.func67.trans (congrArg some (by kernel_rfl))⟩
  f29 := ⟨ "slices.partitionOrdered[string]", by decide, Try.func68.trans (congrArg some (by kernel_rfl))⟩
  f31 := Try.func72.trans (congrArg some (by kernel_rfl))
  f32 := Try.func73.trans (congrArg some (by kernel_rfl))
  f36 := ⟨ "slices.siftDownOrdered[string]", by decide, Try.func71.trans (congrArg some (by kernel_rfl))⟩
  f37 := ⟨ "slices.medianAdjacentOrdered[string]", by decide, Try.func74.trans (congrArg some (by kernel_rfl))⟩
  f38 := ⟨ "slices.medianOrdered[string]", by decide, Try.func75.trans (congrArg some (by kernel_rfl))⟩
  f39 := ⟨ "cmp.isNaN[string]", by decide, Try.func76.trans (congrArg some (by kernel_rfl))⟩
  f41 := ⟨ "slices.order2Ordered[string]", by decide, Try.func77.trans (congrArg some (by kernel_rfl))⟩
  t0 := Try.underlying0
  a0 := Try.isAgg0
  z0 := Try.sizeOf0
  v0 := Try.zeroValue0
  t3 := Try.underlying3
  a3 := Try.isAgg3
  z3 := Try.sizeOf3
  v3 := Try.zeroValue3
  t4 := Try.underlying4
  a4 := Try.isAgg4
  z4 := Try.sizeOf4
  v4 := Try.zeroValue4
  t5 := Try.underlying5
  a5 := Try.isAgg5
  z5 := Try.sizeOf5
  v5 := Try.zeroValue5
  t9 := Try.underlying9
  a9 := Try.isAgg9
  z9 := Try.sizeOf9
  v9 := Try.zeroValue9
  t26 := Try.underlying31
  a26 := Try.isAgg31
  z26 := Try.sizeOf31
  v26 := Try.zeroValue31
  t27 := Try.underlying31
  a27 := Try.isAgg31
  z27 := Try.sizeOf31
  v27 := Try.zeroValue31
  t29 := Try.underlying9
  a29 := Try.isAgg9
  z29 := Try.sizeOf9
  v29 := Try.zeroValue9
  t32 := Try.underlying83
  a32 := Try.isAgg83
  z32 := Try.sizeOf83
  v32 := Try.zeroValue83
  t35 := Try.underlying85
  a35 := Try.isAgg85
  z35 := Try.sizeOf85
  v35 := Try.zeroValue85
  t36 := Try.underlying86
  a36 := Try.isAgg86
  z36 := Try.sizeOf86
  v36 := Try.zeroValue86
  t41 := Try.underlying91
  a41 := Try.isAgg91
  z41 := Try.sizeOf91
  v41 := Try.zeroValue91
  t44 := Try.underlying94
  a44 := Try.isAgg94
  z44 := Try.sizeOf94
  v44 := Try.zeroValue94
  t46 := Try.underlying96
  a46 := Try.isAgg96
  z46 := Try.sizeOf96
  v46 := Try.zeroValue96
  t53 := Try.underlying97
  a53 := Try.isAgg97
  z53 := Try.sizeOf97
  v53 := Try.zeroValue97
  t57 := Try.underlying101
  a57 := Try.isAgg101
  z57 := Try.sizeOf101
  v57 := Try.zeroValue101
  t63 := Try.underlying103
  a63 := Try.isAgg103
  z63 := Try.sizeOf103
  v63 := Try.zeroValue103
  t64 := Try.underlying104
  a64 := Try.isAgg104
  z64 := Try.sizeOf104
  v64 := Try.zeroValue104
def strsOf : List (V × V) → Option (List (List UInt8))
  | [] => some []
  | (.str s, _) :: es => (strsOf es).map (s :: ·)
  | _ => none
theorem strsOf_spec : ∀ {es : List (V × V)} {ks : List (List UInt8)}, strsOf es = some ks → es.map (·.1) = ks.map V.str
  | [], ks, h => by simp [strsOf] at h; subst h; rfl
  | e :: es, ks, h => by
    obtain ⟨a, b⟩ := e
    cases a <;> simp only [strsOf, reduceCtorEq] at h
    rw [Option.map_eq_some_iff] at h
    obtain ⟨l, h1, rfl⟩ := h
    simp [strsOf_spec h1]
def leS : List UInt8 → List UInt8 → Bool := fun x y => decide (x ≤ y)
def sortedP (vs : List V) (σ : St) : Option (V × St) := match vs with
  | [.func f [.optr rb 0]] => if f = 49 then match σ.objs[rb]? with
    | some (.tcells _ [.omap rm]) => match σ.objs[rm]? with
      | some (.mp es) => match strsOf es with
        | some ks => if ks.Nodup ∧ ks.length ≤ 1000000000 ∧ (ks.all fun s => decide (s.length ≤ 140737488355328)) = true then
            (if ks = [] then some (.nils, σ) else some (.hslice σ.objs.length 0 1 ks.length, ⟨σ.objs ++ [.cells ((ks.mergeSort leS).map V.str)], σ.toks⟩)) else none
        | none => none
      | _ => none
    | _ => none
    else none
  | _ => none
theorem layMs (m : Nat) : AnyZ.SortsIn Try.prog layS_ren Fence.wide m :=
  ⟨fun blk off cap ss W hH hblk hsz => callsIn_wide.2 (AnyM.slices_Sort_string layM blk off cap ss W hH hblk hsz),
   fun p cap W => callsIn_wide.2 (AnyM.slices_Sort_string_none layM p cap W)⟩
theorem VRs_str {g : Gh} {s : List Bool} {w : World} : ∀ (ks : List (List UInt8)) {us : List Value}, VRs g s w (ks.map V.str) us ↔ us = ks.map fun k => Value.string ⟨k.toArray⟩
  | [], us => by simp [VRs]
  | k :: ks, us => by
    simp only [List.map_cons, VRs, VR]
    constructor
    · rintro ⟨u, us', rfl, rfl, h⟩
      rw [(VRs_str ks).1 h]
    · rintro rfl
      exact ⟨_, _, rfl, rfl, (VRs_str ks).2 rfl⟩
def rAny : Value → Option (DataW Unit × List MemPlace) := fun _ => some (.lit (.bool true), [])
open Go.Maps Go.Sort Go.WideElems in
theorem sorted_ok {base : Nat} {w0 : World} {vs : List V} {σ : St} {v : V} {σ' : St} (h : sortedP vs σ = some (v, σ')) : CallOk Try.prog base w0 33 vs σ (.ret v) σ' := by
  unfold sortedP at h
  split at h
  · rename_i f rb
    split at h
    · rename_i hf
      subst hf
      split at h
      · rename_i tb rm hrb
        split at h
        · rename_i es hm
          split at h
          · rename_i ks hks
            split at h
            · rename_i hc
              obtain ⟨c1, c2, c3⟩ := hc
              intro g w us hR hV
              obtain ⟨b1, b2, b3, ub, b4, b5⟩ := hR.obj rb _ hrb
              obtain ⟨m1, m2, a, clock, m3, m4, m5, m6, m7⟩ := hR.obj rm _ hm
              simp only [VRs, VR] at b5
              obtain ⟨u1, us1, rfl, ⟨hrm, rfl⟩, rfl⟩ := b5
              simp only [VRs] at hV
              obtain ⟨u2, us2, rfl, hV1, rfl⟩ := hV
              simp only [VR, VRs] at hV1
              obtain ⟨u3, rfl, u4, us4, rfl, ⟨hrbh, rfl⟩, rfl⟩ := hV1
              rw [b3]
              rw [strsOf_spec hks, VRs_str] at m4
              have hsz : a.size = ks.length := by
                have := congrArg List.length m4
                simpa using this
              have hkey : ∀ x ∈ a.toList, ∃ k ∈ ks, x.key = Value.string ⟨k.toArray⟩ := by
                intro x hx
                have : x.key ∈ ks.map (fun k => Value.string ⟨k.toArray⟩) := by rw [← m4]; exact List.mem_map_of_mem hx
                obtain ⟨k, hk, he⟩ := List.mem_map.1 this
                exact ⟨k, hk, he.symm⟩
              have hkl : ∀ k ∈ ks, k.length ≤ maxLen := fun k hk => by
                have := List.all_eq_true.1 c3 k hk
                have h9 : (140737488355328 : Nat) ≤ maxLen := by decide
                simp at this; omega
              have hrd : ∀ x ∈ a.toList, ∃ k ∈ ks, x.key = Value.string ⟨k.toArray⟩ ∧ rd Try.prog 9 rAny x = some (.string k, .lit (.bool true)) := by
                intro x hx
                obtain ⟨k, hk, he⟩ := hkey x hx
                refine ⟨k, hk, he, ?_⟩
                have hko := Go.WideMaps.keyOf_string_mk (P := Try.prog) (k := 9) (by kernel_rfl) (s := ⟨k.toArray⟩) (by have := hkl k hk; simpa [ByteArray.size] using this)
                obtain ⟨xk, xv, xb⟩ := x
                simp only at he
                rw [he]
                exact Go.WideElems.rd_mk (R := rAny) (yv := (.lit (.bool true), [])) hko rfl
              have hsm : a.size ≤ maxLen := by
                have h9 : (1000000000 : Nat) ≤ maxLen := by decide
                omega
              have hown : w.ownsMap Try.prog 9 rAny (g.ρ rm) a.size (.map ((a.toList.map (rg Try.prog 9 rAny)).foldr DataW.insert [])) := by
                refine ⟨a, clock, m3, ⟨hsm, ⟨m6, m7, ?_⟩, fun x hx => ?_⟩, Nat.le_refl _, rfl⟩
                · rw [m4]
                  exact List.Pairwise.map _ (fun x y hne he => hne (by simpa using he)) c1
                · obtain ⟨k, _, _, h3⟩ := hrd x hx
                  exact ⟨_, h3⟩
              have hperm : (strKeys (DataW.map ((a.toList.map (rg Try.prog 9 rAny)).foldr DataW.insert []))).Perm ks := by
                have h1 := Go.WideShapes.sorted_perm (a.toList.map (rg Try.prog 9 rAny))
                have h2 : ((a.toList.map (rg Try.prog 9 rAny)).map fun p => strOf p.1) = ks := by
                  rw [List.map_map]
                  have h3 : a.toList.map ((fun p : Lit × DataW Unit => strOf p.1) ∘ rg Try.prog 9 rAny) = a.toList.map fun x => match x.key with | .string b => b.data.toList | _ => [] := by
                    refine List.map_congr_left fun x hx => ?_
                    obtain ⟨k, _, he, h4⟩ := hrd x hx
                    simp only [Function.comp, rg_of h4, he, strOf]
                  rw [h3]
                  have h5 : (a.toList.map fun x => match x.key with | .string b => b.data.toList | _ => []) = (a.toList.map (·.key)).map fun v => match v with | .string b => b.data.toList | _ => [] := by rw [List.map_map]; rfl
                  rw [h5, m4, List.map_map]
                  exact (List.map_congr_left fun x _ => rfl).trans (List.map_id' ks)
                rw [← h2]
                exact h1.map _
              have hseq : SeqGives Fence.wide 2 Try.prog 49 #[.pointer (some ⟨g.ρ rb, 0, none⟩)] encStr (fun ss => ss.Perm (strKeys (DataW.map ((a.toList.map (rg Try.prog 9 rAny)).foldr DataW.insert [])))) (Maps.size (DataW.map ((a.toList.map (rg Try.prog 9 rAny)).foldr DataW.insert []))) w :=
                AnyZ.keys_gives (ρ := layK_ren) layK Fence.wide _ trivial rfl (by omega) (g.ρ rb) (g.ρ rm) a.size _ w ((Array.getElem?_eq_some_iff.1 b4).1) (by simp [World.cell?, b4]) hown
              have hsize : Maps.size (DataW.map ((a.toList.map (rg Try.prog 9 rAny)).foldr DataW.insert [])) = ks.length := by
                have := hperm.length_eq
                simpa [strKeys, Maps.size] using this
              have hN1 : Maps.size (DataW.map ((a.toList.map (rg Try.prog 9 rAny)).foldr DataW.insert [])) ≤ maxLen := by
                rw [hsize]
                have h9 : (1000000000 : Nat) ≤ maxLen := by decide
                omega
              have hN2 : Maps.size (DataW.map ((a.toList.map (rg Try.prog 9 rAny)).foldr DataW.insert [])) * 16 ≤ 140737488355328 := by rw [hsize]; omega
              have cS := AnyZ.sorted_in layS Fence.wide 5 trivial trivial trivial trivial rfl (by omega) (layMs _) (enters_of Try.func48 (by kernel_rfl) rfl) 49 #[.pointer (some ⟨g.ρ rb, 0, none⟩)] trivial (enters_of Try.func49 (by kernel_rfl) rfl) _ _ hN1 hN2 _ hseq
              refine ((callsIn_wide (n := 5)).1 cS).mono fun e w' hpost => ?_
              obtain ⟨x, ss, rfl, hss, hrow, hnil, hbel⟩ := hpost
              have hsk : ss.Perm ks := hss.trans hperm
              have hms : ss.mergeSort leB = ks.mergeSort leS := mergeSort_of_perm hsk
              obtain ⟨hE, hR1⟩ := hR.later hbel
              have hlen := hsk.length_eq
              split at h
              · rename_i hk0
                injection h with h
                injection h with e1 e2
                subst e1 e2
                subst hk0
                have : ss = [] := List.length_eq_zero_iff.1 hlen
                exact ⟨g, hE, hR1, x, rfl, by simp only [VR]; exact hnil.2 this⟩
              · rename_i hk0
                injection h with h
                injection h with e1 e2
                subst e1 e2
                have hss0 : ss ≠ [] := fun h => hk0 (List.length_eq_zero_iff.1 (by rw [← hlen, h]; rfl))
                obtain ⟨r1, r2⟩ := hrow
                rcases r2 with ⟨r3, _⟩ | ⟨gb, cap, cur, rfl, r3, r4, r5, r6, r7, r8⟩
                · exact absurd (hnil.1 r3) hss0
                · have hcur : VRs g σ.toks w' ((ks.mergeSort leS).map V.str) ((ss.mergeSort leB).map encStr) := by rw [hms]; exact (VRs_str _).2 rfl
                  have hlm : ((ss.mergeSort leB).map encStr).length = ss.length := by simp
                  obtain ⟨hE2, hR2⟩ := hR1.adopt (B := gb) (cs := (ks.mergeSort leS).map V.str) (us := (ss.mergeSort leB).map encStr) ((Array.getElem?_eq_some_iff.1 r4).1) (fun r hr => by have := hR.alive_block hr; omega) (fun t ht => by have := (hR.tok t ht).2.1; omega) (hR.lim gb r3) (by have := hR.bs; omega) r4 hcur (by rw [hlm, ← Nat.mul_one ss.length]; exact r8)
                  refine ⟨g.obj gb, hE.trans hE2, hR2, _, rfl, ?_⟩
                  have hn := hR.n
                  simp only [VR, Gh.obj]
                  rw [if_pos hn.symm, if_pos hn.symm]
                  refine ⟨⟨?_, ?_⟩, cap, by rw [hlen], by omega, r6, ?_⟩
                  · show σ.objs.length < g.n + 1
                    omega
                  · show (if σ.objs.length = g.n then false else g.hid σ.objs.length) = false
                    rw [if_pos hn.symm]
                  · simp only [World.bsize, r4]
                    omega
            · cases h
          · cases h
        · cases h
      · cases h
    · cases h
  · cases h
end
def prims : Prim := ⟨fun f => f == 30 || f == 15 || f == 33, fun f vs σ => if f = 30 then sizeP vs σ else if f = 15 then offP vs σ else if f = 33 then sortedP vs σ else none, hots⟩
theorem prims_ok (base : Nat) (w0 : World) : PrimOk Try.prog prims base w0 := by
  intro f vs σ v σ' hi h
  simp only [prims] at h
  split at h
  · rename_i e; subst e; exact ⟨size_ok h, _, Try.func30, by kernel_rfl, by kernel_rfl⟩
  · split at h
    · rename_i e; subst e; exact ⟨off_ok h, _, Try.func15, by kernel_rfl, by kernel_rfl⟩
    · split at h
      · rename_i e; subst e; exact ⟨sorted_ok h, _, Try.func33, by kernel_rfl, by kernel_rfl⟩
      · cases h
end Go.Proofs.Ytnbmfhnfmhgaaaa.Q

