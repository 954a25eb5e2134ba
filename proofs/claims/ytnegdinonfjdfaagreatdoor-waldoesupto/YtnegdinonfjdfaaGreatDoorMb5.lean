/- A part of the proof: Rz, Qx, Qq, Qr, Qs, Qt, Qu, Xc, Xo, Xd, Sh. -/
import Derived.Test.YtnegdinonfjdfaaGreatDoorMb4
import Derived.Test.YtnegdinonfjdfaaGreatDoorChecked
import Derived.Maps.RangeRun
import Derived.Test.YtnegdinonfjdfaaGreatDoorProg
import Derived.Lib.ItoaNum
import Derived.Lib.Atoi
import Derived.Shelf.Strconv.Atoi
import Derived.Shelf.LaysM
import Derived.Shelf.Strconv.Itoa3
import Derived.Shelf.LaysC
import Derived.Shelf.Strconv.AtoiErr
set_option maxRecDepth 100000
namespace Go.Proofs.YtnegdinonfjdfaaGreatDoor.Q
open Go Go.RowKit Go.Proofs
variable {P : Program} {pr : Prim} {N : Nat} {e : Nat → V} {σ : St} {Q : VX → (Nat → V) → St → Prop} {QQ : QD} {SS : QS} {m : Pn}
def k38_r0 : List COp := [o 2 (pZ .i64 0)]
def k38_r1 : List COp := [o 3 (pZ .i64 0)]
def k38_r2 : List COp := [o 6 (pM 0),
o 7 (.nilCheck (.tmp 6)),
o 8 (pF 74 7 0),
o 9 (pL 72 8),
o 10 (.range 72 (.tmp 9))]
def k38_r3 : List COp := [o 11 (.next (.tmp 10) false),
o 12 (pX 11 0)]
def k38_r4 : List COp := [o 13 (.entry (.tmp 10)),
o 14 (pX 13 1),
o 5 (pA 14)]
def k38_r5 : List COp := [oX 15 (pM 3),
oX 16 (pM 5),
oX 17 (.nilCheck (.tmp 16)),
oX 18 (pF 77 17 0),
oX 19 (pL 30 18),
oX 20 (pN 19 30),
o 21 (pM 5),
o 22 (.nilCheck (.tmp 21)),
o 23 (pF 77 22 1),
o 24 (pL 30 23),
o 25 (pN 24 30),
o 26 (pB .add 3 20 25 3),
o 27 (pB .add 3 15 26 3),
o 3 (pA 27)]
def k38_l0 : CC := (.seq (.region k38_r3) (.seq (.cond (.tmp 12) .skip (.exit 0)) (.block 1 (.seq (.region k38_r4) (.region k38_r5)))))
def k38_r6 : List COp := [o 28 (pM 3),
o 2 (pA 28)]
def k38 : CC := (.seq (.region k38_r0) (.seq (.region k38_r1) (.seq (.seq (.region k38_r2) (.block 0 (.loop k38_l0))) (.seq (.region k38_r6) .ret))))
def k38_p := PLift.up <| aI (vE k38.eq_1) <| aO k38_r0.eq_1 <| aO k38_r1.eq_1 <| aO k38_r2.eq_1 <| aO k38_r3.eq_1 <| aO k38_r4.eq_1 <| aO k38_r5.eq_1 <| aI (vE k38_l0.eq_1) (oE k38_r6.eq_1)
theorem k38_a : type_of% k38_p.down := k38_p.down
def k20_r0 : List COp := [o 6 (pM 0),
o 7 (.binOp .eql 26 (.tmp 6) (.const (.pointer .none)) 26),
o 8 (pM 7),
oF 9 (pM 0) 8,
oF 10 (.nilCheck (.tmp 9)) 8,
oF 11 (pF 74 10 2) 8,
oF 12 (pL 4 11) 8,
o 13 (pV 8 12)]
def k20_r1 : List COp := [o 14 (pM 0),
o 15 (.nilCheck (.tmp 14)),
o 16 (pF 74 15 0),
o 17 (pL 72 16),
o 18 (.range 72 (.tmp 17))]
def k20_r2 : List COp := [o 19 (.next (.tmp 18) false),
o 20 (pX 19 0)]
def k20_r3 : List COp := [o 21 (.entry (.tmp 18)),
o 22 (pX 21 1),
o 5 (pA 22)]
def k20_r4 : List COp := [oX 23 (pM 5),
oX 24 (pM 5),
oX 25 (pM 5),
oX 26 (.nilCheck (.tmp 25)),
oX 27 (pF 77 26 0),
oX 28 (pL 30 27),
oX 29 (pM 5),
oX 30 (.nilCheck (.tmp 29)),
oX 31 (pF 77 30 1),
oX 32 (pL 30 31),
oX 33 (pM 1),
oX 34 (.call { callee := .builtin .max, args := #[.tmp 33, .const (.int .i64 0)], argTypes := #[3, 3] }),
o 35 (pM 5),
o 36 (.nilCheck (.tmp 35)),
o 37 (pF 77 36 1),
o 38 (pL 30 37),
o 39 (pN 38 30),
o 40 (.call { callee := .builtin .min, args := #[.tmp 34, .tmp 39], argTypes := #[3, 3] }),
o 41 (.slice 30 (.tmp 32) .none (some (.tmp 40)) .none),
o 42 (.call { callee := .builtin .append, args := #[.tmp 28, .tmp 41], argTypes := #[30, 30, 0] }),
o 43 (.nilCheck (.tmp 23)),
o 44 (pF 77 43 0),
oS 30 44 42,
o 45 (.nilCheck (.tmp 24)),
o 46 (pF 77 45 1),
⟨none, .store 30 (.tmp 46) (.const (.slice .none 0 0)), none, true⟩]
def k20_l0 : CC := (.seq (.region k20_r2) (.seq (.cond (.tmp 20) .skip (.exit 0)) (.block 1 (.seq (.region k20_r3) (.region k20_r4)))))
def k20_r5 : List COp := [o 47 (pM 0),
o 48 (pM 0),
o 49 (.nilCheck (.tmp 47)),
o 50 (pF 74 49 2),
⟨none, .store 4 (.tmp 50) (.const (.bool true)), none, true⟩,
o 51 (.nilCheck (.tmp 48)),
o 52 (pF 74 51 4),
⟨none, .store 3 (.tmp 52) (.const (.int .i64 0)), none, true⟩]
def k20 : CC := (.seq (.seq (.region k20_r0) (.cond (.tmp 13) .ret .skip)) (.seq (.seq (.region k20_r1) (.block 0 (.loop k20_l0))) (.region k20_r5)))
def k20_p := PLift.up <| aI (vE k20.eq_1) <| aO k20_r0.eq_1 <| aO k20_r1.eq_1 <| aO k20_r2.eq_1 <| aO k20_r3.eq_1 <| aO k20_r4.eq_1 <| aI (vE k20_l0.eq_1) (oE k20_r5.eq_1)
theorem k20_a : type_of% k20_p.down := k20_p.down
def k96_r0 : List COp := [o 4 (pZ .u32 0)]
def k96_r1 : List COp := [o 8 (pM 0),
o 9 (.unOp .xor 108 (.tmp 8)),
o 5 (pA 9)]
def k96_r2 : List COp := [o 10 (pM 1),
o 11 (pN 10 30),
o 12 (pW .i64 0)]
def k96_r3 : List COp := [o 13 (pB .lss 3 12 11 3)]
def k96_r4 : List COp := [o 14 (pI 30 10 12),
o 15 (pL 5 14),
o 7 (pA 15)]
def k96_r5 : List COp := [o 16 (pM 5),
o 17 (pM 7),
o 18 (.convert 5 108 (.tmp 17)),
o 19 (pB .xor 108 16 18 108),
o 5 (pA 19)]
def k96_r6 : List COp := [o 20 (pW .i64 0)]
def k96_r7 : List COp := [o 21 (pK .lss 3 20 .i64 2 3)]
def k96_r8 : List COp := [o 22 (pM 5),
o 23 (pK .shr 108 22 .u64 4 110),
o 24 (pM 5),
o 25 (pK .and 108 24 .u32 15 108),
o 26 (.indexAddr 130 (.global 0) (.tmp 25)),
o 27 (pL 108 26),
o 28 (pB .xor 108 23 27 108),
o 5 (pA 28)]
def k96_r9 : List COp := [o 29 (pK .add 3 20 .i64 1 3),
o 20 (pM 29)]
def k96_l1 : CC := (.seq (.region k96_r7) (.seq (.cond (.tmp 21) .skip (.exit 2)) (.seq (.block 3 (.region k96_r8)) (.region k96_r9))))
def k96_r10 : List COp := [o 30 (pK .add 3 12 .i64 1 3),
o 12 (pM 30)]
def k96_l0 : CC := (.seq (.region k96_r3) (.seq (.cond (.tmp 13) .skip (.exit 0)) (.seq (.block 1 (.seq (.region k96_r4) (.seq (.region k96_r5) (.seq (.region k96_r6) (.block 2 (.loop k96_l1)))))) (.region k96_r10))))
def k96_r11 : List COp := [o 31 (pM 5),
o 32 (.unOp .xor 108 (.tmp 31)),
o 4 (pA 32)]
def k96 : CC := (.seq (.region k96_r0) (.seq (.region k96_r1) (.seq (.seq (.region k96_r2) (.block 0 (.loop k96_l0))) (.seq (.region k96_r11) .ret))))
def k96_p := PLift.up <| aI (vE k96.eq_1) <| aO k96_r0.eq_1 <| aO k96_r1.eq_1 <| aO k96_r2.eq_1 <| aO k96_r3.eq_1 <| aO k96_r4.eq_1 <| aO k96_r5.eq_1 <| aO k96_r6.eq_1 <| aO k96_r7.eq_1 <| aO k96_r8.eq_1 <| aO k96_r9.eq_1 <| aI (vE k96_l1.eq_1) <| aO k96_r10.eq_1 <| aI (vE k96_l0.eq_1) (oE k96_r11.eq_1)
theorem k96_a : type_of% k96_p.down := k96_p.down
theorem ya6 : True := trivial
end Go.Proofs.YtnegdinonfjdfaaGreatDoor.Q
set_option linter.unusedVariables false
set_option linter.unusedSimpArgs false
namespace Go.Proofs.YtnegdinonfjdfaaGreatDoor.Q
open Go Go.RowKit
open Go.ChangeMaps (setBlock)
section
variable {P : Program} {pr : Prim} {base : Nat} {w0 : World} {N : Nat}
def PostN (base : Nat) (w0 : World) (N : Nat) (Q : VX → (Nat → V) → St → Prop) (g : Gh) (σ : St) (w : World) (a : Act) (e : Exit) (a' : Act) (w' : World) : Prop :=
 ∃ x e1 σ' g', Q x e1 σ' ∧ (∀ v, x ≠ .pan v) ∧ Ext g σ.toks w g' σ'.toks w' ∧ Rel base w0 g' σ' w' ∧ XOk g' σ'.toks w' x e ∧ VRs g' σ'.toks w' (env N e1) a'.tmps.toList ∧ a'.defers = a.defers
def Nd (P : Program) (base : Nat) (w0 : World) (N : Nat) (c : Code) (e : Nat → V) (σ : St) (Q : VX → (Nat → V) → St → Prop) : Prop :=
 ∀ g w a, Rel base w0 g σ w → VRs g σ.toks w (env N e) a.tmps.toList → c.wp P (PostN base w0 N Q g σ w a) a w
def NdO (P : Program) (base : Nat) (w0 : World) (N : Nat) (ops : Array Oper) (l : List Oper) (e : Nat → V) (σ : St) (Q : VX → (Nat → V) → St → Prop) : Prop :=
 ∀ g w a, Rel base w0 g σ w → VRs g σ.toks w (env N e) a.tmps.toList → ∀ K : Exit → Act → World → Prop, (∀ e1 a' w', PostN base w0 N Q g σ w a e1 a' w' → K e1 a' w') → wpListIn (Fr none) 0 P ops K l a w
theorem PostN.trans {Q : VX → (Nat → V) → St → Prop} {g g1 : Gh} {σ σ1 : St} {w w1 : World} {a a1 : Act} {e : Exit} {a' : Act} {w' : World} (hE : Ext g σ.toks w g1 σ1.toks w1) (hd : a1.defers = a.defers)
   (h : PostN base w0 N Q g1 σ1 w1 a1 e a' w') : PostN base w0 N Q g σ w a e a' w' := by
 obtain ⟨x, e1, σ', g', h1, h2, h3, h4, h5, h6, h7⟩ := h; exact ⟨x, e1, σ', g', h1, h2, hE.trans h3, h4, h5, h6, h7.trans hd⟩
theorem Nd.re {c : Code} {e : Nat → V} {σ σ1 : St} {Q : VX → (Nat → V) → St → Prop} (hr : ∀ g w tm, Rel base w0 g σ w → VRs g σ.toks w (env N e) tm → ∃ g1, Ext g σ.toks w g1 σ1.toks w ∧ Rel base w0 g1 σ1 w)
   (h : Nd P base w0 N c e σ1 Q) : Nd P base w0 N c e σ Q := fun g w a hR hT => by
 obtain ⟨g1, hE, hR1⟩ := hr g w _ hR hT; exact wp_mono (h g1 w a hR1 (VRs.ext hE _ hT)) fun e1 a' w' hp => hp.trans hE rfl
theorem Nd.seq {c d : Code} {e : Nat → V} {σ : St} {Q : VX → (Nat → V) → St → Prop} (h : Nd P base w0 N c e σ fun x e1 σ1 => (x = .normal ∧ Nd P base w0 N d e1 σ1 Q) ∨ (x ≠ .normal ∧ Q x e1 σ1)) : Nd P base w0 N (.seq c d) e σ Q := fun g w a hR hT => by
 refine wp_seq (wp_mono (h g w a hR hT) fun e1 a' w' hp => ?_); obtain ⟨x, e2, σ', g', h1, h2, h3, h4, h5, h6, h7⟩ := hp; rcases h1 with ⟨rfl, h1⟩ | ⟨hx, h1⟩
 · simp only [XOk] at h5; subst h5; exact wp_mono (h1 g' w' a' h4 h6) fun e3 a3 w3 hp => hp.trans h3 h7
 · have hpost : PostN base w0 N Q g σ w a e1 a' w' := ⟨x, e2, σ', g', h1, h2, h3, h4, h5, h6, h7⟩
   cases x with
   | normal => exact absurd rfl hx
   | exit id => simp only [XOk] at h5; subst h5; exact hpost
   | ret => simp only [XOk] at h5; subst h5; exact hpost
   | pan v => exact absurd rfl (h2 v)
theorem Nd.skip {e : Nat → V} {σ : St} {Q : VX → (Nat → V) → St → Prop} (h : Q .normal e σ) : Nd P base w0 N .skip e σ Q := fun g w a hR hT =>
 wp_skip ⟨.normal, e, σ, g, h, fun _ h => (by cases h), Ext.refl _ _ _, hR, rfl, hT, rfl⟩
theorem Nd.exit {id : Nat} {e : Nat → V} {σ : St} {Q : VX → (Nat → V) → St → Prop} (h : Q (.exit id) e σ) : Nd P base w0 N (.exit id) e σ Q := fun g w a hR hT =>
 wp_exit ⟨.exit id, e, σ, g, h, fun _ h => (by cases h), Ext.refl _ _ _, hR, rfl, hT, rfl⟩
theorem Nd.cond {c : Operand} {x y : Code} {e : Nat → V} {σ : St} {t : Bool} {Q : VX → (Nat → V) → St → Prop} (hc : evs (env N e) c = some (.bool t)) (h : Nd P base w0 N (if t then x else y) e σ Q) : Nd P base w0 N (.cond c x y) e σ Q := fun g w a hR hT => by
 have hv := yat hT hc; simp only [VR] at hv; exact wp_cond hv (h g w a hR hT)
theorem Nd.block {id : Nat} {c : Code} {e : Nat → V} {σ : St} {Q : VX → (Nat → V) → St → Prop} (h : Nd P base w0 N c e σ fun x e1 σ1 => (x = .exit id ∧ Q .normal e1 σ1) ∨ (x ≠ .exit id ∧ Q x e1 σ1)) : Nd P base w0 N (.block id c) e σ Q := fun g w a hR hT => by
 refine wp_block (wp_mono (h g w a hR hT) fun e1 a' w' hp => ?_); obtain ⟨x, e2, σ', g', h1, h2, h3, h4, h5, h6, h7⟩ := hp; rcases h1 with ⟨rfl, h1⟩ | ⟨hx, h1⟩
 · simp only [XOk] at h5; subst h5; simp only [Exit.inBlock, if_true]; exact ⟨.normal, e2, σ', g', h1, fun _ h => (by cases h), h3, h4, rfl, h6, h7⟩
 · have hpost : PostN base w0 N Q g σ w a e1 a' w' := ⟨x, e2, σ', g', h1, h2, h3, h4, h5, h6, h7⟩
   cases x with
   | normal => simp only [XOk] at h5; subst h5; exact hpost
   | exit id' =>
     simp only [XOk] at h5; subst h5; simp only [Exit.inBlock]; rw [if_neg (fun h => hx (by rw [h]))]; exact hpost
   | ret => simp only [XOk] at h5; subst h5; exact hpost
   | pan v => exact absurd rfl (h2 v)
theorem Nd.loop {ι : Type} {c : Code} {Q : VX → (Nat → V) → St → Prop} (I : ι → (Nat → V) → St → Prop) (m : ι → Nat)
   (h : ∀ i e σ, I i e σ → Nd P base w0 N c e σ fun x e1 σ1 => (x = .normal ∧ ∃ j, I j e1 σ1 ∧ m j < m i) ∨ (x ≠ .normal ∧ Q x e1 σ1)) (i : ι) {e : Nat → V} {σ : St} (hi : I i e σ) : Nd P base w0 N (.loop c) e σ Q := by
 have key : ∀ k i e σ, m i = k → I i e σ → ∀ g w a, Rel base w0 g σ w → VRs g σ.toks w (env N e) a.tmps.toList → LoopWp none P c (PostN base w0 N Q g σ w a) a w := by
   intro k
   induction k using Nat.strongRecOn with
   | _ k ih =>
     intro i e σ hk hi g w a hR hT; refine LoopWp.round (wpIn_mono (wpIn_fr.2 (h i e σ hi g w a hR hT)) fun e1 a' w' hp => ?_); obtain ⟨x, e2, σ', g', h1, h2, h3, h4, h5, h6, h7⟩ := hp; rcases h1 with ⟨rfl, j, hj, hlt⟩ | ⟨hx, h1⟩
     · simp only [XOk] at h5; subst h5; intro b k2 cs hro; obtain ⟨e3, a3, w3, q3, r3⟩ := ih (m j) (by omega) j e2 σ' rfl hj g' w' a' h4 h6 b k2 cs hro; exact ⟨e3, a3, w3, q3.trans h3 h7, r3⟩
     · have hpost : PostN base w0 N Q g σ w a e1 a' w' := ⟨x, e2, σ', g', h1, h2, h3, h4, h5, h6, h7⟩
       cases x with
       | normal => exact absurd rfl hx
       | exit id => simp only [XOk] at h5; subst h5; exact hpost
       | ret => simp only [XOk] at h5; subst h5; exact hpost
       | pan v => exact absurd rfl (h2 v)
 intro g w a hR hT; exact wpIn_fr.1 (key _ i e σ rfl hi g w a hR hT).wp
theorem Nd.ev (hp : yee P pr base w0) {c : Code} {k : CC} (hc : cc P pr.hot N c = some k) (hcalm : yfp c = true) (hrf : ybf c = false) {e : Nat → V} {σ : St} {Q : VX → (Nat → V) → St → Prop} (h : Ev P pr N k e σ fun x e1 σ1 => (∀ v, x ≠ .pan v) ∧ Q x e1 σ1) : Nd P base w0 N c e σ Q := fun g w a hR hT => by
 obtain ⟨x, e1, σ1, hb, hx, hq⟩ := h; obtain ⟨n, ts, hv, _, hts⟩ := hb.vexec hc; have hts := hts hcalm; subst hts; have := ((yqk hp n).2.1 c _ σ x _ σ1 hv g w a hR hT none (.inl rfl)).1; refine wp_mono (wpIn_fr.1 this) fun e2 a' w' hpost => ?_; rw [hrf] at hpost; obtain ⟨g', h1, h2, h3, h4, h5⟩ := hpost; refine ⟨x, e1, σ1, g', hq, hx, h1, h2, h3, h4.resolve_left (fun ⟨v, h, _⟩ => hx v h), ?_⟩; exact h5
theorem Nd.region {id : Nat} {ops : Array Oper} {e : Nat → V} {σ : St} {Q : VX → (Nat → V) → St → Prop} (h : NdO P base w0 N ops ops.toList e σ Q) : Nd P base w0 N (.region id ops false) e σ Q := fun g w a hR hT =>
 wpIn_fr.1 (wpIn_region_list (h g w a hR hT _ fun _ _ _ hp => hp))
theorem NdO.nil {ops : Array Oper} {e : Nat → V} {σ : St} {Q : VX → (Nat → V) → St → Prop} (h : Q .normal e σ) : NdO P base w0 N ops [] e σ Q := fun g w a hR hT K hK =>
 wpListIn_nil (hK _ _ _ ⟨.normal, e, σ, g, h, fun _ h => (by cases h), Ext.refl _ _ _, hR, rfl, hT, rfl⟩)
theorem NdO.app {ops : Array Oper} {l l2 : List Oper} {e : Nat → V} {σ : St} {Q : VX → (Nat → V) → St → Prop} (h : NdO P base w0 N ops l e σ fun x e1 σ1 => x = .normal ∧ NdO P base w0 N ops l2 e1 σ1 Q) : NdO P base w0 N ops (l ++ l2) e σ Q := fun g w a hR hT K hK => by
 refine ydh _ _ (h g w a hR hT _ fun e1 a' w' hp => ?_); obtain ⟨x, e2, σ', g', ⟨rfl, h1⟩, h2, h3, h4, h5, h6, h7⟩ := hp; simp only [XOk] at h5; subst h5; exact h1 g' w' a' h4 h6 K fun e3 a3 w3 hp => hK _ _ _ (hp.trans h3 h7)
theorem NdO.eo (hp : yee P pr base w0) {ops : Array Oper} {l : List Oper} {cl : List COp} (hc : ygQ pr.hot N ops false l 0 = some cl) (hcold : l.any pr.hot = false) {e : Nat → V} {σ : St} {Q : VX → (Nat → V) → St → Prop}
   (h : Eo P pr N cl e σ fun x e1 σ1 => (∀ v, x ≠ .pan v) ∧ Q x e1 σ1) : NdO P base w0 N ops l e σ Q := fun g w a hR hT K hK => by
 obtain ⟨x, e1, σ1, ⟨hx, hq⟩, hE⟩ := Eo.split h
 obtain ⟨n, ts, hv, hts⟩ := Eo.vops hc (fun _ o ho => by
   cases h8 : pr.hot o with
   | false => rfl
   | true => rw [List.any_eq_true.2 ⟨o, ho, h8⟩] at hcold; cases hcold) hE
 refine (yqk hp n).1 ops l _ σ x ts σ1 hv g w a hR hT K (fun e2 a' w' hpost => hK _ _ _ ?_) none; obtain ⟨g', h1, h2, h3, h4, h5⟩ := hpost; have hT1 := h4.resolve_left (fun ⟨v, h, _⟩ => hx v h); rcases hts with ⟨_, rfl⟩ | ⟨v, h, _⟩
 · exact ⟨x, e1, σ1, g', hq, hx, h1, h2, h3, hT1, h5⟩
 · exact absurd h (hx v)
theorem NdO.op {ops : Array Oper} {o : Oper} {l : List Oper} (hg : o.guard = none) (hd : ∀ c, o.op ≠ .defer c) {e : Nat → V} {σ : St} {Q : VX → (Nat → V) → St → Prop} (R : V → St → Prop)
   (hop : ∀ (g : Gh) (w : World) (a : Act), Rel base w0 g σ w → VRs g σ.toks w (env N e) a.tmps.toList → ∃ u w' g' v σ1, (execOp a.eval o).run P w = .ok (.value u) w' ∧ R v σ1 ∧ Ext g σ.toks w g' σ1.toks w' ∧ Rel base w0 g' σ1 w' ∧ VR g' σ1.toks w' v u)
   (h : ∀ v σ1, R v σ1 → NdO P base w0 N ops l (upd e o.dst v) σ1 Q) : NdO P base w0 N ops (o :: l) e σ Q := fun g w a hR hT K hK => by
 obtain ⟨u, w', g', v, σ1, hrun, hRv, hE, hR1, hV⟩ := hop g w a hR hT; show ycj none P ops K o (wpListIn (Fr none) 0 P ops K l) a w; refine yb9 (by simp [Region.wanted, hg]) hd hrun ?_; refine h v σ1 hRv g' w' (a.put o.dst u) hR1 ?_ K fun e1 a' w2 hp => hK _ _ _ (hp.trans hE (ycF a o.dst u)); have := ydK (VRs.ext hE _ hT) hV o.dst; rw [yea] at this; exact this
theorem Rel.reOb {g : Gh} {σ : St} {w : World} (h : Rel base w0 g σ w) {r : Nat} {o o' : Ob} (hr : σ.objs[r]? = some o) (hd : ∀ h : o.gone, False) (hnu : ¬ o' = .unb) (hok : ObjOk base g σ.toks w r o') : Rel base w0 g ⟨σ.objs.set r o', σ.toks⟩ w := by
 have hrl := (gA0.1 hr).1
 have al : ∀ k, yaE (σ.objs.set r o') k → yaE σ.objs k := by
   intro k ⟨q, hq, hqd⟩; rw [List.getElem?_set] at hq; by_cases e : r = k
   · subst e; exact ⟨o, hr, hd⟩
   · rw [if_neg e] at hq; exact ⟨q, hq, hqd⟩
 exact {
   below := h.below
   bs := h.bs
   n := by simpa using h.n
   hid := fun k => by
     by_cases e : r = k
     · subst e; rw [gA5 hrl, h.hid, hr]; constructor
       · intro h; injection h with h; subst h; exact (hd trivial).elim
       · intro h; injection h with h; exact (hnu h).elim
     · rw [gA3 e]; exact h.hid k
   obj := fun k q hk => by
     rw [List.getElem?_set] at hk; by_cases e : r = k
     · subst e; rw [if_pos rfl, if_pos hrl] at hk; injection hk with hk; subst hk; exact hok
     · rw [if_neg e] at hk; exact h.obj k q hk
   inj := fun a b ha hb => h.inj a b (al a ha) (al b hb)
   tok := fun t ht => by obtain ⟨h1, h2, h3⟩ := h.tok t ht; exact ⟨h1, h2, fun a ha => h3 a (al a ha)⟩
   tinj := h.tinj
   lim := h.lim }
theorem Rel.blockSet {g : Gh} {σ : St} {w : World} (h : Rel base w0 g σ w) {r : Nat} {o : Ob} (hr : σ.objs[r]? = some o) (hd : ∀ h : o.gone, False) {x0 : Obj} (hb : base ≤ g.ρ r) (hL : g.L (g.ρ r) = 0) (hh : w.heap[g.ρ r]? = some x0) (hx1 : ∀ c t f, x0 ≠ .cells c t f) (hx2 : ∀ y, x0 ≠ .deferred y) (x : Obj) (o' : Ob) (hnu : ¬ o' = .unb)
   (hok : Ext g σ.toks w g σ.toks (setBlock w (g.ρ r) x) → (setBlock w (g.ρ r) x).heap[g.ρ r]? = some x → ObjOk base g σ.toks (setBlock w (g.ρ r) x) r o') :
   Ext g σ.toks w g σ.toks (setBlock w (g.ρ r) x) ∧ Rel base w0 g ⟨σ.objs.set r o', σ.toks⟩ (setBlock w (g.ρ r) x) := by
 have hlt := (Array.getElem?_eq_some_iff.1 hh).1; have hrl := (gA0.1 hr).1; have halr : yaE σ.objs r := ⟨_, hr, hd⟩
 have other : ∀ k, k ≠ g.ρ r → (setBlock w (g.ρ r) x).heap[k]? = w.heap[k]? := fun k hk => by
   simp only [setBlock, Array.getElem?_setIfInBounds]; rw [if_neg (fun e => hk e.symm)]
 have same : (setBlock w (g.ρ r) x).heap[g.ρ r]? = some x := by
   simp [setBlock, Array.getElem?_setIfInBounds, hlt]
 have E : Ext g σ.toks w g σ.toks (setBlock w (g.ρ r) x) := {
   n := Nat.le_refl _
   has := fun _ h => h
   ρ := fun _ _ => rfl
   ob := fun _ _ => rfl
   L := fun _ => Nat.le_refl _
   cells := fun b q hlo => by
     by_cases eb : b = g.ρ r
     · subst eb; rw [hL] at hlo; omega
     · exact cell?_heap (other b eb) q
   shape := fun b c ty fr hbb => by
     by_cases eb : b = g.ρ r
     · subst eb; rw [hh] at hbb; injection hbb with hbb; exact absurd hbb (hx1 _ _ _)
     · exact ⟨c, fr, (other b eb).trans hbb, rfl, .inl rfl⟩
   nt := Nat.le_refl _
   tok := fun s _ hl => ⟨hl, rfl, rfl⟩
   dfr := fun b y hbb => by
     by_cases eb : b = g.ρ r
     · subst eb; rw [hh] at hbb; injection hbb with hbb; exact absurd hbb (hx2 _)
     · exact (other b eb).trans hbb }
 have al : ∀ k, yaE (σ.objs.set r o') k → yaE σ.objs k := by
   intro k ⟨q, hq, hqd⟩; rw [List.getElem?_set] at hq; by_cases e : r = k
   · subst e; exact halr
   · rw [if_neg e] at hq; exact ⟨q, hq, hqd⟩
 refine ⟨E, {
   below := h.below.trans ⟨rfl, rfl, rfl, by simp [setBlock], fun i hi => other i (by omega)⟩
   bs := by simpa [setBlock] using h.bs
   n := by simpa using h.n
   hid := fun k => by
     by_cases e : r = k
     · subst e; rw [gA5 hrl, h.hid, hr]; constructor
       · intro h; injection h with h; subst h; exact (hd trivial).elim
       · intro h; injection h with h; exact (hnu h).elim
     · rw [gA3 e]; exact h.hid k
   obj := fun k q hk => by
     rw [List.getElem?_set] at hk; by_cases e : r = k
     · subst e; rw [if_pos rfl, if_pos hrl] at hk; injection hk with hk; subst hk; exact hok E same
     · rw [if_neg e] at hk; by_cases hdd : q.gone
       · exact ObjOk.gone hdd
       · have hne : g.ρ k ≠ g.ρ r := fun ee => e (h.inj k r ⟨q, hk, hdd⟩ halr ee).symm; exact (h.obj k q hk).ext E (h.hasO hk) (other _ hne) rfl
   inj := fun a b ha hb' => h.inj a b (al a ha) (al b hb')
   tok := fun t ht => by
     obtain ⟨h1, h2, h3⟩ := h.tok t ht; exact ⟨h1, by simpa [setBlock] using h2, fun a ha => h3 a (al a ha)⟩
   tinj := h.tinj
   lim := fun b hb' => h.lim b (by simpa [setBlock] using hb') }⟩
structure It (σ : St) (ri rm : Nat) (es : List (V × V)) (vis : List Nat) (b since : Nat) (a : Array MapEntry) (clock last : Nat) (seen : Array Nat) : Prop where
 it : σ.objs[ri]? = some (.it b since seen last)
 mp : σ.objs[rm]? = some (.mpR b es a clock)
 sz : a.size = es.length
 old : ∀ x ∈ a.toList, x.born < since
 sl : since ≤ last
 sc : since ≤ clock
 nd : (a.toList.map (·.born)).Nodup
 hvis : seen.toList = vis.map fun i => (a.getD i default).born
 vnd : vis.Nodup
 vlt : ∀ i ∈ vis, i < es.length
theorem NdO.range {ops : Array Oper} {o : Oper} {l : List Oper} {t : TypeId} {x : Operand} (ho : o.op = .range t x) (hg : o.guard = none) {kt et : TypeId} (ht : P.underlying t = some (.map kt et)) {e : Nat → V} {σ : St} {rm : Nat} {es : List (V × V)}
   (hx : evs (env N e) x = some (.omap rm)) (hm : σ.objs[rm]? = some (.mp es)) {Q : VX → (Nat → V) → St → Prop}
   (h : ∀ (b : Nat) (a : Array MapEntry) (clock : Nat), It ⟨σ.objs.set rm (.mpR b es a clock) ++ [.it b clock #[] clock], σ.toks⟩ σ.objs.length rm es [] b clock a clock clock #[] → NdO P base w0 N ops l (upd e o.dst (.optr σ.objs.length 0)) ⟨σ.objs.set rm (.mpR b es a clock) ++ [.it b clock #[] clock], σ.toks⟩ Q) :
   NdO P base w0 N ops (o :: l) e σ Q := by
 refine NdO.op hg (by rw [ho]; intro c h; cases h) (fun v σ1 => v = .optr σ.objs.length 0 ∧ ∃ b a clock, σ1 = ⟨σ.objs.set rm (.mpR b es a clock) ++ [.it b clock #[] clock], σ.toks⟩ ∧ It σ1 σ.objs.length rm es [] b clock a clock clock #[]) ?_ ?_
 · intro g w ac hR hT; obtain ⟨o1, o2, a, clock, o3, o4, o5, o6, o7⟩ := hR.obj rm _ hm; have hxv := yat hT hx; simp only [VR] at hxv; obtain ⟨hh, hxv⟩ := hxv; have hrml := (gA0.1 hm).1
   have hrun : (execOp ac.eval o).run P w = .ok (.value (.pointer (some ⟨w.heap.size, 0, none⟩))) (w.alloc (.mapIter (some (g.ρ rm)) clock #[] clock)) := by
     simp [execOp, ho, hxv, run_range_map w t kt et (g.ρ rm) a clock ht o3]
   have hR1 := hR.reOb hm (fun h => h) (o' := .mpR (g.ρ rm) es a clock) (by intro h; cases h) ⟨o1, o2, rfl, o3, o4, o5, o6, o7⟩; have hn := hR1.n
   have hR2 := hR1.newA (.mapIter (some (g.ρ rm)) clock #[] clock) (.it (g.ρ rm) clock #[] clock) (by
     simp only [ObjOk, Gh.obj]; rw [if_pos hn.symm, if_pos hn.symm]; exact ⟨hR1.bs, hR1.lim _ (Nat.le_refl _), rfl, yaA _ _⟩)
   have hE := Ext.obj hR1 (.mapIter (some (g.ρ rm)) clock #[] clock); refine ⟨_, _, _, .optr σ.objs.length 0, _, hrun, ⟨rfl, g.ρ rm, a, clock, rfl, ?_⟩, hE, hR2, ?_⟩
   · refine ⟨?_, ?_, ?_, o6, Nat.le_refl _, Nat.le_refl _, o7, rfl, List.nodup_nil, fun i h => by cases h⟩
     · simp only; rw [gA4 (by simp)]; simp
     · simp only; rw [gA2 (by simpa using hrml), gA5 hrml]
     · have := o4.length; simp at this; omega
   · simp only [VR, Gh.obj]; have hn2 : g.n = σ.objs.length := hR.n; rw [if_pos hn2.symm, if_pos hn2.symm]; refine ⟨⟨?_, ?_⟩, rfl⟩
     · show σ.objs.length < g.n + 1; omega
     · show (if σ.objs.length = g.n then false else g.hid σ.objs.length) = false
       rw [if_pos hn2.symm]
 · rintro v σ1 ⟨rfl, b, a, clock, rfl, hI⟩; exact h b a clock hI
theorem ynh {a : Array MapEntry} {seen : Array Nat} (h : (leftOf a seen).size = 0) {i : Nat} (hi : i < a.size) : seen.contains a[i].born = true := by
 have h1 := Array.eq_empty_of_size_eq_zero h
 cases hc : seen.contains a[i].born with
 | true => rfl
 | false =>
   exfalso
   have : a[i] ∈ leftOf a seen := by
     unfold leftOf; rw [Array.mem_filter]; exact ⟨Array.getElem_mem hi, by rw [hc]; rfl⟩
   rw [h1] at this; simp at this
theorem yht {a : Array MapEntry} {es : List (V × V)} {seen : Array Nat} {vis : List Nat} (hs : seen.toList = vis.map fun i => (a.getD i default).born) (hsz : a.size = es.length) (hnd : (a.toList.map (·.born)).Nodup) (hlt : ∀ i ∈ vis, i < es.length) {i : Nat} (hi : i < a.size) : seen.contains a[i].born = true ↔ i ∈ vis := by
 rw [Array.contains_iff_mem, ← Array.mem_toList_iff, hs, List.mem_map]; constructor
 · rintro ⟨j, hj, he⟩; have hjl : j < a.size := (by rw [hsz]; exact hlt j hj); rw [Array.getD_eq_getD_getElem?, Array.getElem?_eq_getElem hjl, Option.getD_some] at he
   have h1 : (a.toList.map (·.born))[j]? = (a.toList.map (·.born))[i]? := by
     rw [List.getElem?_map, List.getElem?_map, Array.getElem?_toList, Array.getElem?_toList, Array.getElem?_eq_getElem hjl, Array.getElem?_eq_getElem hi]; simp [he]
   have h2 := (List.getElem?_inj (by simpa using hjl) hnd).1 h1; subst h2; exact hj
 · intro hv; exact ⟨i, hv, by rw [Array.getD_eq_getD_getElem?, Array.getElem?_eq_getElem hi, Option.getD_some]⟩
theorem NdO.next {ops : Array Oper} {o : Oper} {l : List Oper} {x : Operand} (ho : o.op = .next x false) (hg : o.guard = none) {e : Nat → V} {σ : St} {ri rm : Nat} {es : List (V × V)} {vis : List Nat} {b since : Nat} {a : Array MapEntry} {clock last : Nat} {seen : Array Nat}
   (hx : evs (env N e) x = some (.optr ri 0)) (hI : It σ ri rm es vis b since a clock last seen) (hne : ri ≠ rm) {Q : VX → (Nat → V) → St → Prop}
   (h1 : (∀ i, i < es.length → i ∈ vis) → NdO P base w0 N ops l (upd e o.dst (.tuple [.bool false])) σ Q)
   (h2 : ∀ i, i ∉ vis → ∀ (hi : i < es.length), It ⟨σ.objs.set ri (.it b since (seen.push (a.getD i default).born) clock), σ.toks⟩ ri rm es (vis ++ [i]) b since a clock clock (seen.push (a.getD i default).born) →
     NdO P base w0 N ops l (upd e o.dst (.tuple [.bool true, es[i].1, es[i].2])) ⟨σ.objs.set ri (.it b since (seen.push (a.getD i default).born) clock), σ.toks⟩ Q) :
   NdO P base w0 N ops (o :: l) e σ Q := by
 refine NdO.op hg (by rw [ho]; intro c h; cases h) (fun v σ1 => (v = .tuple [.bool false] ∧ σ1 = σ ∧ ∀ i, i < es.length → i ∈ vis) ∨ ∃ i, i ∉ vis ∧ ∃ hi : i < es.length, v = .tuple [.bool true, es[i].1, es[i].2] ∧ σ1 = ⟨σ.objs.set ri (.it b since (seen.push (a.getD i default).born) clock), σ.toks⟩) ?_ ?_
 · intro g w ac hR hT; obtain ⟨i1, i2, i3, i4⟩ := hR.obj ri _ hI.it; obtain ⟨m1, m2, m3, m4, m5, m6, m7, m8⟩ := hR.obj rm _ hI.mp; have hxv := yat hT hx; simp only [VR] at hxv; obtain ⟨hh, hxv⟩ := hxv; rw [i3] at hxv; rw [m3] at m4; have hsz := hI.sz; have hnx := run_next_at (P := P) w o.type (g.ρ ri) b since last seen a clock i4 m4 hI.old hI.sl; rcases hnx with ⟨hl0, hrun⟩ | ⟨en, hen, w1, hw1, hrun⟩
   · refine ⟨.tuple #[.bool false], w, g, .tuple [.bool false], σ, ?_, .inl ⟨rfl, rfl, fun i hi => ?_⟩, Ext.refl _ _ _, hR, ?_⟩
     · simp [execOp, ho, hxv, hrun]
     · exact (yht hI.hvis hsz hI.nd hI.vlt (by omega)).1 (ynh hl0 (by omega))
     · simp [VR, VRs]
   · obtain ⟨hm1, hm2⟩ := mem_left hen; obtain ⟨i, hi, rfl⟩ := List.mem_iff_getElem.1 hm1; have hia : i < a.size := (by simpa using hi); have hie : i < es.length := (by omega); have hget : a.toList[i] = a[i] := (by simp); rw [hget] at hm2 hrun hm1; have hgd : (a.getD i default).born = a[i].born := (by rw [Array.getD_eq_getD_getElem?, Array.getElem?_eq_getElem hia, Option.getD_some]); have hnv : i ∉ vis := fun hv => by rw [(yht hI.hvis hsz hI.nd hI.vlt hia).2 hv] at hm2; cases hm2
     have hR1 : Rel base w0 g σ w1 ∧ Ext g σ.toks w g σ.toks w1 := by
       rcases hw1 with rfl | rfl
       · exact ⟨hR, Ext.refl _ _ _⟩
       · exact ⟨hR.drew, Ext.drew _ _ _⟩
     have i4' : w1.heap[g.ρ ri]? = some (.mapIter (some b) since seen last) := by rcases hw1 with rfl | rfl <;> exact i4
     obtain ⟨hE2, hR2⟩ := hR1.1.blockSet hI.it (fun h => h) i1 i2 i4' (by intro _ _ _ h; cases h) (by intro _ h; cases h) (.mapIter (some b) since (seen.push a[i].born) clock) (.it b since (seen.push a[i].born) clock) (by intro h; cases h) (fun hE hs => ⟨i1, i2, i3, hs⟩); have hE := hR1.2.trans hE2; refine ⟨.tuple #[.bool true, a[i].key, a[i].val], setBlock w1 (g.ρ ri) (.mapIter (some b) since (seen.push a[i].born) clock), g, .tuple [.bool true, es[i].1, es[i].2], _, by simp [execOp, ho, hxv, hrun], .inr ⟨i, hnv, hie, rfl, by rw [hgd]⟩, ?_, ?_, ?_⟩
     · exact hE
     · exact hR2
     · have k1 := VRs.get i (VRs.ext hE _ m5) (show (es.map (·.1))[i]? = some es[i].1 by simp [hie]); have k2 := VRs.get i (VRs.ext hE _ m6) (show (es.map (·.2))[i]? = some es[i].2 by simp [hie]); obtain ⟨u1, u1e, u1v⟩ := k1; obtain ⟨u2, u2e, u2v⟩ := k2; simp [hia] at u1e u2e; simp only [VR]; refine ⟨[.bool true, a[i].key, a[i].val], rfl, ?_⟩; simp only [VRs]; exact ⟨_, _, rfl, rfl, _, _, rfl, by rw [u1e]; exact u1v, _, _, rfl, by rw [u2e]; exact u2v, rfl⟩
 · rintro v σ1 (⟨rfl, rfl, hall⟩ | ⟨i, hnv, hi, rfl, rfl⟩)
   · exact h1 hall
   · refine h2 i hnv hi ⟨?_, ?_, hI.sz, hI.old, hI.sc, hI.sc, hI.nd, ?_, ?_, ?_⟩
     · exact gA5 (gA0.1 hI.it).1
     · simp only; rw [gA3 hne]; exact hI.mp
     · simp [hI.hvis]
     · exact List.nodup_append.2 ⟨hI.vnd, by simp, fun x hx y hy => by simp at hy; subst hy; rintro rfl; exact hnv hx⟩
     · intro j hj; rcases List.mem_append.1 hj with hj | hj
       · exact hI.vlt j hj
       · simp at hj; subst hj; exact hi
theorem NdO.entry {ops : Array Oper} {o : Oper} {l : List Oper} {x : Operand} (ho : o.op = .entry x) (hg : o.guard = none) {e : Nat → V} {σ : St} {ri rm : Nat} {es : List (V × V)} {vis : List Nat} {i : Nat} {b since : Nat} {a : Array MapEntry} {clock : Nat} {seen : Array Nat}
   (hx : evs (env N e) x = some (.optr ri 0)) (hI : It σ ri rm es (vis ++ [i]) b since a clock clock (seen.push (a.getD i default).born)) (hi : i < es.length) {Q : VX → (Nat → V) → St → Prop}
   (h : NdO P base w0 N ops l (upd e o.dst (.tuple [es[i].1, es[i].2])) σ Q) : NdO P base w0 N ops (o :: l) e σ Q := by
 refine NdO.op hg (by rw [ho]; intro c h; cases h) (fun v σ1 => v = .tuple [es[i].1, es[i].2] ∧ σ1 = σ) ?_ ?_
 · intro g w ac hR hT; obtain ⟨i1, i2, i3, i4⟩ := hR.obj ri _ hI.it; obtain ⟨m1, m2, m3, m4, m5, m6, m7, m8⟩ := hR.obj rm _ hI.mp; have hxv := yat hT hx; simp only [VR] at hxv; obtain ⟨hh, hxv⟩ := hxv; rw [i3] at hxv; rw [m3] at m4; have hia : i < a.size := (by rw [hI.sz]; exact hi); have hgd : (a.getD i default).born = a[i].born := (by rw [Array.getD_eq_getD_getElem?, Array.getElem?_eq_getElem hia, Option.getD_some]); rw [hgd] at i4; have hrun := run_entry_at (P := P) w (g.ρ ri) b since seen a clock a[i] i4 m4 (by simp) hI.nd; refine ⟨.tuple #[a[i].key, a[i].val], w, g, _, σ, by simp [execOp, ho, hxv, hrun], ⟨rfl, rfl⟩, Ext.refl _ _ _, hR, ?_⟩; have k1 := VRs.get i m5 (show (es.map (·.1))[i]? = some es[i].1 by simp [hi]); have k2 := VRs.get i m6 (show (es.map (·.2))[i]? = some es[i].2 by simp [hi]); obtain ⟨u1, u1e, u1v⟩ := k1; obtain ⟨u2, u2e, u2v⟩ := k2; simp [hia] at u1e u2e; simp only [VR]; refine ⟨[a[i].key, a[i].val], rfl, ?_⟩; simp only [VRs]; exact ⟨_, _, rfl, by rw [u1e]; exact u1v, _, _, rfl, by rw [u2e]; exact u2v, rfl⟩
 · rintro v σ1 ⟨rfl, rfl⟩; exact h
theorem CallOk.nd {f : FuncId} {fn : Func} {c : Code} (hfn : P.funcs[f]? = some fn) (hc : fn.body = some c) {vs : List V} {σ σ' : St} {v : V} (hl : vs.length ≤ fn.ntmps)
   (h : Nd P base w0 fn.ntmps c (fun i => vs.getD i (.tuple [])) σ fun x e σ1 => (x = .normal ∨ x = .ret) ∧ ∃ rs, yam P σ1 (env fn.ntmps e) fn.results.toList = some rs ∧ ybz rs = v ∧ σ1 = σ') : CallOk P base w0 f vs σ (.ret v) σ' := by
 intro g w us hR hV; have hF := yhF (us := us.toArray) (by simpa using hV) fn.ntmps; rw [yeH vs hl] at hF; refine calls_of_wp hfn hc (wp_mono (h g w { tmps := us.toArray ++ Array.replicate (fn.ntmps - us.toArray.size) undef, defers := [] } hR hF) fun e a1 w1 hp => ?_); obtain ⟨x, e1, σ1, g1, ⟨hx, rs, hrs, hv, rfl⟩, _, hE, hR1, hxo, hT1, hd⟩ := hp; obtain ⟨u, hu, hV2⟩ := yd6 hR1 hT1 hrs; rw [hv] at hV2; rcases hx with rfl | rfl
 · simp only [XOk] at hxo; subst hxo; exact ⟨hd, u, hu, g1, hE, hR1, u, rfl, hV2⟩
 · simp only [XOk] at hxo; subst hxo; exact ⟨hd, u, hu, g1, hE, hR1, u, rfl, hV2⟩
def ydD : List Bool → Code → Code
 | [], c => c
 | false :: p, .seq a _ => ydD p a
 | true :: p, .seq _ b => ydD p b
 | false :: p, .cond _ a _ => ydD p a
 | true :: p, .cond _ _ b => ydD p b
 | _ :: p, .block _ c => ydD p c
 | _ :: p, .loop c => ydD p c
 | _, c => c
def ye8 : Code → Array Oper
 | .region _ ops _ => ops
 | _ => #[]
theorem Nd.post {c : Code} {e : Nat → V} {σ : St} {Q Q' : VX → (Nat → V) → St → Prop} (h : Nd P base w0 N c e σ Q')
   (hq : ∀ x e1 σ1, Q' x e1 σ1 → ∃ e2 σ2, Q x e2 σ2 ∧ ∀ g0 W g w tm, Rel base w0 g0 σ W → Ext g0 σ.toks W g σ1.toks w → Rel base w0 g σ1 w → VRs g σ1.toks w (env N e1) tm → ∃ g1, Ext g0 σ.toks W g1 σ2.toks w ∧ Rel base w0 g1 σ2 w ∧ VRs g1 σ2.toks w (env N e2) tm) :
   Nd P base w0 N c e σ Q := fun g w a hR hT => by
 refine wp_mono (h g w a hR hT) fun e1 a' w' hp => ?_; obtain ⟨x, e2, σ', g', h1, h2, h3, h4, h5, h6, h7⟩ := hp; obtain ⟨e3, σ3, k1, k2⟩ := hq x e2 σ' h1; obtain ⟨g1, k3, k4, k5⟩ := k2 g w g' w' _ hR h3 h4 h6; refine ⟨x, e3, σ3, g1, k1, h2, k3, k4, ?_, k5, h7⟩
 cases x with
 | pan v => exact absurd rfl (h2 v)
 | normal => exact h5
 | ret => exact h5
 | exit id => exact h5
def Gh.move (g : Gh) (N j : Nat) : Gh := { g with n := N, hid := fun r => if r = j then false else g.hid r, ρ := fun r => if r = j then g.ρ N else g.ρ r, ob := fun r => if r = j then g.ob N else g.ob r }
mutual
def yco (N j : Nat) : V → V
 | .optr r o => .optr (if r = N then j else r) o
 | .eptr cs o => .eptr (ycR N j cs) o
 | .slice p z cs n => .slice p z (ycR N j cs) n
 | .hslice r o z n => .hslice (if r = N then j else r) o z n
 | .func f cs => .func f (ycR N j cs)
 | .iface t v => .iface t (yco N j v)
 | .agg cs => .agg (ycR N j cs)
 | .tuple cs => .tuple (ycR N j cs)
 | .omap r => .omap (if r = N then j else r)
 | .yld r => .yld (if r = N then j else r)
 | v => v
def ycR (N j : Nat) : List V → List V
 | [] => []
 | v :: vs => yco N j v :: ycR N j vs
end
theorem ycB (N j : Nat) : ∀ vs, ycR N j vs = vs.map (yco N j)
 | [] => rfl
 | v :: vs => by simp [ycR, ycB N j vs]
theorem yi4 (N j : Nat) (vs : List V) : (ycR N j vs).length = vs.length := by rw [ycB, List.length_map]
section
variable {g : Gh} {s : List Bool} {w : World} {N j : Nat}
theorem ycM (hn : g.n = N + 1) (hjN : j < N) (hj : g.hid j = true) {r : Nat} (h : g.has r) : (g.move N j).has (if r = N then j else r) ∧ (g.move N j).ρ (if r = N then j else r) = g.ρ r ∧ (g.move N j).ob (if r = N then j else r) = g.ob r := by
 by_cases e : r = N
 · subst e; rw [if_pos rfl]; exact ⟨⟨hjN, by simp [Gh.move]⟩, by simp [Gh.move], by simp [Gh.move]⟩
 · rw [if_neg e]; have hrj : r ≠ j := fun h2 => by subst h2; rw [h.2] at hj; cases hj
   have h1 := h.1; exact ⟨⟨by show r < N; omega, by simp [Gh.move, hrj, h.2]⟩, by simp [Gh.move, hrj], by simp [Gh.move, hrj]⟩
mutual
theorem VR.move (hn : g.n = N + 1) (hjN : j < N) (hj : g.hid j = true) : ∀ (v : V) {x : Value}, VR g s w v x → VR (g.move N j) s w (yco N j v) x
 | .bool b, x, h => by simpa only [VR, yco] using h
 | .int k n, x, h => by simpa only [VR, yco] using h
 | .str _, x, h => by simpa only [VR, yco] using h
 | .nilp, x, h => by simpa only [VR, yco] using h
 | .optr r off, x, h => by
   simp only [VR, yco] at h ⊢; obtain ⟨h1, h2, h3⟩ := ycM hn hjN hj h.1; exact ⟨h1, by rw [h2, h3]; exact h.2⟩
 | .eptr cs off, x, h => by
   simp only [VR, yco] at h ⊢; obtain ⟨b, o, us, hx, hr, hc⟩ := h; exact ⟨b, o, us, hx, hr, VRs.move hn hjN hj cs hc⟩
 | .nils, x, h => by simpa only [VR, yco] using h
 | .slice p esz cs len, x, h => by
   simp only [VR, yco] at h ⊢; obtain ⟨ad, cap, us, hx, hl, hc, hm, hr, hs, hp⟩ := h; exact ⟨ad, cap, us, hx, by rw [yi4]; exact hl, hc, hm, hr, VRs.move hn hjN hj cs hs, hp⟩
 | .hslice r off esz len, x, h => by
   simp only [VR, yco] at h ⊢; obtain ⟨h1, h2, h3⟩ := ycM hn hjN hj h.1; obtain ⟨hr, cap, hx, hc, hm, hb⟩ := h; exact ⟨h1, cap, by rw [h2, h3]; exact hx, hc, hm, by rw [h2, h3]; exact hb⟩
 | .func f caps, x, h => by
   simp only [VR, yco] at h ⊢; obtain ⟨us, hx, hc⟩ := h; exact ⟨us, hx, VRs.move hn hjN hj caps hc⟩
 | .nilf, x, h => by simpa only [VR, yco] using h
 | .iface t v, x, h => by
   simp only [VR, yco] at h ⊢; obtain ⟨u, hx, hc⟩ := h; exact ⟨u, hx, VR.move hn hjN hj v hc⟩
 | .nili, x, h => by simpa only [VR, yco] using h
 | .agg cs, x, h => by
   simp only [VR, yco] at h ⊢; obtain ⟨us, hx, hc⟩ := h; exact ⟨us, hx, VRs.move hn hjN hj cs hc⟩
 | .tuple cs, x, h => by
   simp only [VR, yco] at h ⊢; obtain ⟨us, hx, hc⟩ := h; exact ⟨us, hx, VRs.move hn hjN hj cs hc⟩
 | .nilm, x, h => by simpa only [VR, yco] using h
 | .omap r, x, h => by
   simp only [VR, yco] at h ⊢; obtain ⟨h1, h2, h3⟩ := ycM hn hjN hj h.1; exact ⟨h1, by rw [h2]; exact h.2⟩
 | .yld r, x, h => by
   simp only [VR, yco] at h ⊢; obtain ⟨h1, h2, h3⟩ := ycM hn hjN hj h.1; exact ⟨h1, by rw [h2]; exact h.2⟩
theorem VRs.move (hn : g.n = N + 1) (hjN : j < N) (hj : g.hid j = true) : ∀ (vs : List V) {us : List Value}, VRs g s w vs us → VRs (g.move N j) s w (ycR N j vs) us
 | [], us, h => by simpa only [VRs, ycR] using h
 | v :: vs, us, h => by
   simp only [VRs, ycR] at h ⊢; obtain ⟨u, us', hu, hv, hvs⟩ := h; exact ⟨u, us', hu, VR.move hn hjN hj v hv, VRs.move hn hjN hj vs hvs⟩
end
mutual
theorem VR.ren_old (hN : ¬ g.has N) : ∀ (v : V) {x : Value}, VR g s w v x → yco N j v = v
 | .bool b, x, h => rfl
 | .int k n, x, h => rfl
 | .str _, x, h => rfl
 | .nilp, x, h => rfl
 | .optr r off, x, h => by
   simp only [VR] at h; simp only [yco]; rw [if_neg (fun e => hN (by rw [← e]; exact h.1))]
 | .eptr cs off, x, h => by
   simp only [VR] at h; obtain ⟨b, o, us, hx, hr, hc⟩ := h; simp only [yco, VRs.ren_old hN cs hc]
 | .nils, x, h => rfl
 | .slice p esz cs len, x, h => by
   simp only [VR] at h; obtain ⟨ad, cap, us, hx, hl, hc, hm, hr, hs, hp⟩ := h; simp only [yco, VRs.ren_old hN cs hs]
 | .hslice r off esz len, x, h => by
   simp only [VR] at h; simp only [yco]; rw [if_neg (fun e => hN (by rw [← e]; exact h.1))]
 | .func f caps, x, h => by
   simp only [VR] at h; obtain ⟨us, hx, hc⟩ := h; simp only [yco, VRs.ren_old hN caps hc]
 | .nilf, x, h => rfl
 | .iface t v, x, h => by
   simp only [VR] at h; obtain ⟨u, hx, hc⟩ := h; simp only [yco, VR.ren_old hN v hc]
 | .nili, x, h => rfl
 | .agg cs, x, h => by
   simp only [VR] at h; obtain ⟨us, hx, hc⟩ := h; simp only [yco, VRs.ren_old hN cs hc]
 | .tuple cs, x, h => by
   simp only [VR] at h; obtain ⟨us, hx, hc⟩ := h; simp only [yco, VRs.ren_old hN cs hc]
 | .nilm, x, h => rfl
 | .omap r, x, h => by
   simp only [VR] at h; simp only [yco]; rw [if_neg (fun e => hN (by rw [← e]; exact h.1))]
 | .yld r, x, h => by
   simp only [VR] at h; simp only [yco]; rw [if_neg (fun e => hN (by rw [← e]; exact h.1))]
theorem VRs.ren_old (hN : ¬ g.has N) : ∀ (vs : List V) {us : List Value}, VRs g s w vs us → ycR N j vs = vs
 | [], us, h => rfl
 | v :: vs, us, h => by
   simp only [VRs] at h; obtain ⟨u, us', hu, hv, hvs⟩ := h; simp only [ycR, VR.ren_old hN v hv, VRs.ren_old hN vs hvs]
end
end
def yeg (N j : Nat) : Ob → Ob
 | .cells cs => .cells (ycR N j cs)
 | .tcells t cs => .tcells t (ycR N j cs)
 | .mp es => .mp (es.map fun e => (yco N j e.1, yco N j e.2))
 | .mpR b es a c => .mpR b (es.map fun e => (yco N j e.1, yco N j e.2)) a c
 | .lp tm p a b => .lp (ycR N j tm) p a b
 | .lpB tm p a b => .lpB (ycR N j tm) p a b
 | o => o
theorem renO_gone {N j : Nat} {o : Ob} : (yeg N j o).gone ↔ o.gone := by cases o <;> exact Iff.rfl
theorem renO_unb {N j : Nat} {o : Ob} : yeg N j o = .unb ↔ o = .unb := by cases o <;> simp [yeg]
theorem ObjOk.ren_old {g : Gh} {s : List Bool} {w : World} {r N j : Nat} {o : Ob} (hN : ¬ g.has N) (h : ObjOk base g s w r o) : yeg N j o = o := by
 have hm : ∀ (es : List (V × V)) (ks vs : List Value), VRs g s w (es.map (·.1)) ks → VRs g s w (es.map (·.2)) vs → (es.map fun e => (yco N j e.1, yco N j e.2)) = es := by
   intro es ks vs h1 h2; have e1 := VRs.ren_old (j := j) hN _ h1; have e2 := VRs.ren_old (j := j) hN _ h2; rw [ycB, List.map_map] at e1 e2; apply List.ext_getElem
   · simp
   · intro i hi hi2; have g1 := congrArg (·[i]?) e1; have g2 := congrArg (·[i]?) e2; simp [hi2] at g1 g2; simp [g1, g2]
 cases o with
 | dead => rfl
 | unb => rfl
 | cells cs => obtain ⟨_, _, c, ty, us, _, h4, _⟩ := h; simp only [yeg, VRs.ren_old hN cs h4]
 | tcells t cs => obtain ⟨_, _, _, us, _, h4⟩ := h; simp only [yeg, VRs.ren_old hN cs h4]
 | mp es => obtain ⟨_, _, a, cl, _, h1, h2, _⟩ := h; simp only [yeg, hm es _ _ h1 h2]
 | mpR b es a c => obtain ⟨_, _, _, _, h1, h2, _⟩ := h; simp only [yeg, hm es _ _ h1 h2]
 | lp tm p a b => obtain ⟨_, _, fn, df, us, _, h4⟩ := h; simp only [yeg, VRs.ren_old hN tm h4]
 | lpB tm p a b => obtain ⟨_, _, fn, df, us, _, h4⟩ := h; simp only [yeg, VRs.ren_old hN tm h4]
 | lpD c => rfl
 | it b a c d => rfl
theorem ObjOk.move {g : Gh} {s : List Bool} {w : World} {r N j : Nat} {o : Ob} (hn : g.n = N + 1) (hjN : j < N) (hj : g.hid j = true) (hr : g.has r) (h : ObjOk base g s w r o) : ObjOk base (g.move N j) s w (if r = N then j else r) (yeg N j o) := by
 obtain ⟨h1, h2, h3⟩ := ycM hn hjN hj hr
 have hm : ∀ (es : List (V × V)) (ks vs : List Value), VRs g s w (es.map (·.1)) ks → VRs g s w (es.map (·.2)) vs →
     VRs (g.move N j) s w ((es.map fun e => (yco N j e.1, yco N j e.2)).map (·.1)) ks ∧ VRs (g.move N j) s w ((es.map fun e => (yco N j e.1, yco N j e.2)).map (·.2)) vs := by
   intro es ks vs k1 k2; have e1 := VRs.move hn hjN hj _ k1; have e2 := VRs.move hn hjN hj _ k2; rw [ycB, List.map_map] at e1 e2; simp only [List.map_map]; exact ⟨e1, e2⟩
 have hL : (g.move N j).L = g.L := rfl
 cases o with
 | dead => trivial
 | unb => trivial
 | cells cs =>
   obtain ⟨k1, k2, c, ty, us, k3, k4, k5, k6⟩ := h; simp only [ObjOk, yeg]; rw [h2, h3, hL]; exact ⟨k1, k2, c, ty, us, k3, VRs.move hn hjN hj cs k4, k5, k6⟩
 | tcells t cs =>
   obtain ⟨k1, k2, k0, us, k3, k4⟩ := h; simp only [ObjOk, yeg]; rw [h2, h3, hL]; exact ⟨k1, k2, k0, us, k3, VRs.move hn hjN hj cs k4⟩
 | mp es =>
   obtain ⟨k1, k2, a, cl, k3, k4, k5, k6⟩ := h; obtain ⟨m1, m2⟩ := hm es _ _ k4 k5; simp only [ObjOk, yeg]; rw [h2, hL]; exact ⟨k1, k2, a, cl, k3, m1, m2, k6⟩
 | mpR b es a c =>
   obtain ⟨k1, k2, k0, k3, k4, k5, k6⟩ := h; obtain ⟨m1, m2⟩ := hm es _ _ k4 k5; simp only [ObjOk, yeg]; rw [h2, hL]; exact ⟨k1, k2, k0, k3, m1, m2, k6⟩
 | lp tm p a b =>
   obtain ⟨k1, k2, fn, df, us, k3, k4⟩ := h; simp only [ObjOk, yeg]; rw [h2, hL]; exact ⟨k1, k2, fn, df, us, k3, VRs.move hn hjN hj tm k4⟩
 | lpB tm p a b =>
   obtain ⟨k1, k2, fn, df, us, k3, k4⟩ := h; simp only [ObjOk, yeg]; rw [h2, hL]; exact ⟨k1, k2, fn, df, us, k3, VRs.move hn hjN hj tm k4⟩
 | lpD c =>
   obtain ⟨k1, k2, rec, k3, k4⟩ := h; simp only [ObjOk, yeg]; rw [h2, hL]; exact ⟨k1, k2, rec, k3, k4⟩
 | it b a c d =>
   obtain ⟨k1, k2, k3, k4⟩ := h; simp only [ObjOk, yeg]; rw [h2, h3, hL]; exact ⟨k1, k2, k3, k4⟩
theorem Rel.move {g : Gh} {A : List Ob} {o : Ob} {toks : List Bool} {w : World} (h : Rel base w0 g ⟨A ++ [o], toks⟩ w) {j : Nat} (hj : A[j]? = some .unb) (ho : o ≠ .unb) : Rel base w0 (g.move A.length j) ⟨(A.map (yeg A.length j)).set j (yeg A.length j o), toks⟩ w := by
 have hjl := (gA0.1 hj).1; have hn : g.n = A.length + 1 := (by rw [h.n]; simp); have hjh : g.hid j = true := (h.hid j).2 (by simp only; rw [gA2 hjl]; exact hj)
 have hNh : g.hid A.length = false := by
   cases hc : g.hid A.length with
   | false => rfl
   | true =>
     have := (h.hid _).1 hc; simp at this; exact absurd this ho
 -- back to the old places
 have back : ∀ r o', ((A.map (yeg A.length j)).set j (yeg A.length j o))[r]? = some o' → ∃ q o1, (A ++ [o])[q]? = some o1 ∧ o' = yeg A.length j o1 ∧ r = (if q = A.length then j else q) ∧ (q = A.length ↔ r = j) := by
   intro r o' hr; rw [List.getElem?_set] at hr; by_cases e : j = r
   · subst e; rw [if_pos rfl, if_pos (by simpa using hjl)] at hr; injection hr with hr; exact ⟨A.length, o, by simp, hr.symm, by rw [if_pos rfl], by simp⟩
   · rw [if_neg e, List.getElem?_map, gA1] at hr; obtain ⟨o1, h1, h2⟩ := hr; have hrl := (gA0.1 h1).1; refine ⟨r, o1, by rw [gA2 hrl]; exact h1, h2.symm, by rw [if_neg (by omega)], ?_⟩; constructor
     · intro h; omega
     · intro h; exact absurd h.symm e
 have alive : ∀ r, yaE ((A.map (yeg A.length j)).set j (yeg A.length j o)) r → ∃ q, yaE (A ++ [o]) q ∧ r = (if q = A.length then j else q) ∧ (q = A.length ↔ r = j) := by
   intro r ⟨o', h1, h2⟩; obtain ⟨q, o1, k1, k2, k3, k4⟩ := back r o' h1; exact ⟨q, ⟨o1, k1, fun hg => h2 (by rw [k2]; exact renO_gone.2 hg)⟩, k3, k4⟩
 exact {
   below := h.below
   bs := h.bs
   n := by simp [Gh.move]
   hid := fun r => by
     simp only [Gh.move]; by_cases e : r = j
     · subst e; rw [if_pos rfl, gA5 (by simpa using hjl)]; constructor
       · intro h; cases h
       · intro h; injection h with h; exact absurd (renO_unb.1 h) ho
     · rw [if_neg e, gA3 (Ne.symm e), List.getElem?_map, h.hid r]; rcases Nat.lt_or_ge r A.length with h1 | h1
       · simp only; rw [gA2 h1, List.getElem?_eq_getElem h1]; simp [renO_unb]
       · rw [List.getElem?_eq_none h1]; simp only [Option.map_none, reduceCtorEq, iff_false]; intro h2; have h3 := (gA0.1 h2).1; simp only [List.length_append, List.length_singleton] at h3; have : r = A.length := (by omega); subst this; simp at h2; exact ho h2
   obj := fun r o' hr => by
     obtain ⟨q, o1, k1, rfl, k3, _⟩ := back r o' hr; by_cases hg : o1.gone
     · exact ObjOk.gone (renO_gone.2 hg)
     · rw [k3]; exact (h.obj q o1 k1).move hn hjl hjh ((h.hasO k1).resolve_right hg)
   inj := fun a b ha hb he => by
     obtain ⟨q, hq, hqa, hqe⟩ := alive a ha; obtain ⟨q', hq', hqa', hqe'⟩ := alive b hb; obtain ⟨_, k2, _⟩ := ycM hn hjl hjh (h.hasA hq); obtain ⟨_, k2', _⟩ := ycM hn hjl hjh (h.hasA hq'); rw [hqa, hqa', k2, k2'] at he; have := h.inj q q' hq hq' he; rw [hqa, hqa', this]
   tok := fun t ht => by
     obtain ⟨h1, h2, h3⟩ := h.tok t ht; refine ⟨h1, h2, fun a ha => ?_⟩; obtain ⟨q, hq, hqa, _⟩ := alive a ha; obtain ⟨_, k2, _⟩ := ycM hn hjl hjh (h.hasA hq); rw [hqa, k2]; exact h3 q hq
   tinj := h.tinj
   lim := h.lim }
theorem Ext.move {g0 g : Gh} {s0 s : List Bool} {W w : World} (h : Ext g0 s0 W g s w) {N j : Nat} (h0 : g0.n ≤ N) (hj : ¬ g0.has j) : Ext g0 s0 W (g.move N j) s w where
 n := h0
 has r hr := by
   have := hr.1; have hrj : r ≠ j := fun e => hj (by rw [← e]; exact hr); exact ⟨by show r < N; omega, by simp [Gh.move, hrj, (h.has r hr).2]⟩
 ρ r hr := by
   have hrj : r ≠ j := fun e => hj (by rw [← e]; exact hr); simp only [Gh.move]; rw [if_neg hrj]; exact h.ρ r hr
 ob r hr := by
   have hrj : r ≠ j := fun e => hj (by rw [← e]; exact hr); simp only [Gh.move]; rw [if_neg hrj]; exact h.ob r hr
 L := h.L
 cells := h.cells
 shape := h.shape
 dfr := h.dfr
 nt := h.nt
 tok := h.tok
theorem Rel.later {g : Gh} {σ : St} {w w' : World} (h : Rel base w0 g σ w) (hb : Below w.heap.size w w') : Ext g σ.toks w g σ.toks w' ∧ Rel base w0 g σ w' := by
 have old : ∀ k, k < w.heap.size → w'.heap[k]? = w.heap[k]? := hb.block
 have E : Ext g σ.toks w g σ.toks w' := {
   n := Nat.le_refl _
   has := fun _ h => h
   ρ := fun _ _ => rfl
   ob := fun _ _ => rfl
   L := fun _ => Nat.le_refl _
   cells := fun b q hlo => by
     have hbl : b < w.heap.size := by
       rcases Nat.lt_or_ge b w.heap.size with h1 | h1
       · exact h1
       · rw [h.lim b h1] at hlo; omega
     exact cell?_heap (old b hbl) q
   shape := fun b c ty fr hbb => ⟨c, fr, by rw [old b (Array.getElem?_eq_some_iff.1 hbb).1]; exact hbb, rfl, .inl rfl⟩
   dfr := fun b x hbb => by rw [old b (Array.getElem?_eq_some_iff.1 hbb).1]; exact hbb
   nt := Nat.le_refl _
   tok := fun s _ hl => ⟨hl, rfl, rfl⟩ }
 refine ⟨E, {
   below := h.below.trans ⟨hb.os, hb.tape, hb.output, hb.size, fun k hk => old k (by have := h.bs; omega)⟩
   bs := by have := h.bs; have := hb.size; omega
   n := h.n
   hid := h.hid
   obj := fun r o ho => by
     by_cases hg : o.gone
     · exact ObjOk.gone hg
     · have hlt := (h.obj r o ho).lt hg; exact (h.obj r o ho).ext E (h.hasO ho) (old _ hlt) rfl
   inj := h.inj
   tok := fun t ht => by obtain ⟨h1, h2, h3⟩ := h.tok t ht; exact ⟨h1, by have := hb.size; omega, h3⟩
   tinj := h.tinj
   lim := fun b hbb => h.lim b (by have := hb.size; omega) }⟩
theorem Rel.adopt {g : Gh} {σ : St} {w : World} (h : Rel base w0 g σ w) {B : Nat} {cs : List V} (hB : B < w.heap.size) (hal : ∀ r, yaE σ.objs r → g.ρ r ≠ B) (htk : ∀ t, yax σ.toks t = true → g.tk t ≠ B) (hL : g.L B = 0)
   {c : Array Value} {ty : TypeId} {us : List Value} (hbase : base ≤ B) (hc : w.heap[B]? = some (.cells c ty (0, 0))) (hv : VRs g σ.toks w cs us) (hus : c.toList.take us.length = us) :
   Ext g σ.toks w (g.obj B) σ.toks w ∧ Rel base w0 (g.obj B) ⟨σ.objs ++ [.cells cs], σ.toks⟩ w := by
 have E : Ext g σ.toks w (g.obj B) σ.toks w := {
   n := by simp [Gh.obj]
   has := fun r hr => by obtain ⟨h1, h2⟩ := hr; exact ⟨by simp [Gh.obj]; omega, by simp only [Gh.obj]; rw [if_neg (by omega)]; exact h2⟩
   ρ := fun r hr => by have := hr.1; simp only [Gh.obj]; rw [if_neg (by omega)]
   ob := fun r hr => by have := hr.1; simp only [Gh.obj]; rw [if_neg (by omega)]
   L := fun _ => Nat.le_refl _
   cells := fun _ _ _ => rfl
   shape := fun b c t fr hb => ⟨c, fr, hb, rfl, .inl rfl⟩
   dfr := fun _ _ h => h
   nt := Nat.le_refl _
   tok := fun t ht hl => ⟨hl, rfl, rfl⟩ }
 have hle : us.length ≤ c.size := by
   have := congrArg List.length hus; rw [List.length_take] at this; have h2 : c.toList.length = c.size := Array.length_toList; omega
 refine ⟨E, {
   below := h.below
   bs := h.bs
   n := by simp [Gh.obj, h.n]
   hid := fun r => by
     simp only [Gh.obj]; rcases Nat.lt_or_ge r σ.objs.length with h1 | h1
     · rw [if_neg (by rw [h.n]; omega), gA2 h1]; exact h.hid r
     · have h2 : g.hid r = false := by
         cases e : g.hid r with
         | false => rfl
         | true => have := (gA0.1 ((h.hid r).1 e)).1; omega
       rw [h2]; constructor
       · intro h; split at h <;> cases h
       · intro hu; have h3 := (gA0.1 hu).1; simp only [List.length_append, List.length_singleton] at h3; have : r = σ.objs.length := (by omega); subst this; simp at hu
   obj := fun r ob hob => by
     rcases Nat.lt_or_ge r σ.objs.length with h1 | h1
     · rw [gA2 h1] at hob; exact (h.obj r ob hob).ext E (h.hasO hob) rfl rfl
     · have hr : r = σ.objs.length := by
         have := (gA0.1 hob).1; simp only [List.length_append, List.length_singleton] at this; omega
       subst hr; simp at hob; subst hob; simp only [ObjOk, Gh.obj]; rw [if_pos h.n.symm, if_pos h.n.symm]; refine ⟨hbase, hL, c, ty, us, hc, VRs.ext E cs hv, by omega, fun i u hu => ?_⟩; have hil : i < us.length := (gA0.1 hu).1; rw [← hus, List.getElem?_take_of_lt hil] at hu; rw [Nat.zero_add]; simpa using hu
   inj := fun r r' hr hr' he => by
     simp only [Gh.obj] at he
     rcases ybp hr with h1 | h1 <;> rcases ybp hr' with h2 | h2
     · have a := ybO h1; have b := ybO h2; rw [if_neg (by rw [h.n]; omega), if_neg (by rw [h.n]; omega)] at he; exact h.inj r r' h1 h2 he
     · have a := ybO h1; rw [if_neg (by rw [h.n]; omega), if_pos (by rw [h.n]; exact h2)] at he; exact absurd he (hal r h1)
     · have b := ybO h2; rw [if_neg (c := r' = g.n) (by rw [h.n]; omega), if_pos (by rw [h.n]; exact h1)] at he; exact absurd he.symm (hal r' h2)
     · omega
   tok := fun t ht => by
     obtain ⟨h1, h2, h3⟩ := h.tok t ht; refine ⟨h1, h2, fun r hr => ?_⟩; simp only [Gh.obj]; rcases ybp hr with h4 | h4
     · have a := ybO h4; rw [if_neg (by rw [h.n]; omega)]; exact h3 r h4
     · rw [if_pos (by rw [h.n]; exact h4)]; exact Ne.symm (htk t ht)
   tinj := h.tinj
   lim := h.lim }⟩
end
end Go.Proofs.YtnegdinonfjdfaaGreatDoor.Q
namespace Go.Proofs.YtnegdinonfjdfaaGreatDoor.Q
open Go Go.RowKit
theorem yc2 {v : V} (h : one v = true) : yah v = [v] := by
 cases v <;> first | rfl | cases h
theorem BtsV.one {v : V} {bs : List UInt8} (h : BtsV v bs) : one v = true := by
 rcases h with ⟨rfl, _⟩ | ⟨p, rfl⟩ <;> rfl
section
variable {P : Program}
theorem yab {objs : List Ob} {r off : Nat} {cs : List V} {t : TypeId} (h : objs[r]? = some (.cells cs)) (ha : ybc P t = some false) : yad P objs t (.optr r off) = cs[off]? := by
 simp [yad, ya1, h, ycp, ha]
theorem yag {σ : St} {r off : Nat} {cs : List V} {t : TypeId} {v : V} (h : σ.objs[r]? = some (.cells cs)) (hs : yaQ P t = some 1) (h1 : one v = true) (hl : off < cs.length) : yak P σ t (.optr r off) v = some ⟨σ.objs.set r (.cells (cs.set off v)), σ.toks⟩ := by
 have h2 : off + 1 ≤ cs.length := hl; simp [yak, h, hs, yc2 h1, h1, h2, ybq]
theorem ycd {t u : TypeId} {xo yo : Operand} (ht : P.underlying t = some (.pointer u)) : yci P .eql t xo yo .nilp .nilp = some (.bool true) := by
 simp [yci, ycr, ybB, aggEq, ht]
theorem ybe {t u : TypeId} {xo yo : Operand} {r o : Nat} (ht : P.underlying t = some (.pointer u)) : yci P .eql t xo yo (.optr r o) .nilp = some (.bool false) := by
 simp [yci, ycr, ybB, aggEq, ht]
theorem yd7 {t u : TypeId} {xo yo : Operand} (ht : P.underlying t = some (.pointer u)) : yci P .neq t xo yo .nilp .nilp = some (.bool false) := by
 simp [yci, ycr, ybB, aggEq, ht]
theorem ybx {t u : TypeId} {xo yo : Operand} {r o : Nat} (ht : P.underlying t = some (.pointer u)) : yci P .neq t xo yo (.optr r o) .nilp = some (.bool true) := by
 simp [yci, ycr, ybB, aggEq, ht]
end
theorem ycX : ycl (.pointer none) = some .nilp := rfl
theorem yis {r o : Nat} : vnil (.optr r o) = some (.optr r o) := rfl
theorem yaM {objs : List Ob} {r : Nat} {o o' : Ob} (h : objs[r]? = some o) : (objs.set r o')[r]? = some o' := by
 rw [gA5 (gA0.1 h).1]
end Go.Proofs.YtnegdinonfjdfaaGreatDoor.Q
namespace Go.Proofs.YtnegdinonfjdfaaGreatDoor.Q
open Go Go.RowKit
def RowV (k : Nat) (v : V) (cs : List V) (n : Nat) : Prop := cs.length = n * k ∧ ((v = .nils ∧ n = 0) ∨ ∃ p, v = .slice p k cs n)
theorem RowV.one {k n : Nat} {v : V} {cs : List V} (h : RowV k v cs n) : one v = true := by
 rcases h.2 with ⟨rfl, _⟩ | ⟨p, rfl⟩ <;> rfl
section
variable {P : Program}
structure RowT (P : Program) (t e : TypeId) (k by_ : Nat) : Prop where
 u : P.underlying t = some (.slice e)
 s : yaQ P e = some k
 z : ∃ z, ybl P e = some z ∧ (yah z).length = k
 b : (P.info? e).map (·.bytes) = some by_
 k0 : 0 < k
theorem RowV.len {k n : Nat} {v : V} {cs : List V} (h : RowV k v cs n) {t e : TypeId} (ht : P.underlying t = some (.slice e)) : ydn P t v = some (.int .i64 n) := by
 rcases h.2 with ⟨rfl, rfl⟩ | ⟨p, rfl⟩ <;> simp [ydn, ht]
theorem RowV.addr {k n : Nat} {v : V} {cs : List V} (h : RowV k v cs n) {t e : TypeId} (ht : P.underlying t = some (.slice e)) (hs : yaQ P e = some k) (hk : 0 < k) {kk : IntKind} {i : Int} (h0 : 0 ≤ i) (h1 : i < n) : yai P t v (.int kk i) = some (.eptr cs (i.toNat * k)) := by
 rcases h.2 with ⟨rfl, rfl⟩ | ⟨p, rfl⟩
 · omega
 · have hne : cs ≠ [] := by
     rintro rfl; have := h.1; simp only [List.length_nil] at this; have : 1 * 1 ≤ n * k := Nat.mul_le_mul (by omega) hk; omega
   simp [yai, ht, hs, h0, h1, hne]
def OwnR (e : TypeId) (k m : Nat) (σ : St) (v : V) (cs : List V) (n : Nat) : Prop :=
 cs.length = n * k ∧ ((v = .nils ∧ n = 0) ∨ ∃ p, v = .slice p k cs n ∧ (p = .exact ∨ ∃ q, p = .tok q e ∧ yax σ.toks q = true ∧ m ≤ q))
theorem OwnR.row {e k m n : Nat} {σ : St} {v : V} {cs : List V} (h : OwnR e k m σ v cs n) : RowV k v cs n := by
 rcases h with ⟨h1, h | ⟨p, h, _⟩⟩
 · exact ⟨h1, .inl h⟩
 · exact ⟨h1, .inr ⟨p, h⟩⟩
theorem OwnR.nil {e k m : Nat} {σ : St} : OwnR e k m σ .nils [] 0 := ⟨by simp, .inl ⟨rfl, rfl⟩⟩
theorem OwnR.keep {e k m n : Nat} {σ σ' : St} {v : V} {cs : List V} (h : OwnR e k m σ v cs n) (hk : ∀ k, yax σ.toks k = true → yax σ'.toks k = true) : OwnR e k m σ' v cs n := by
 rcases h with ⟨h1, h | ⟨p, h, h2⟩⟩
 · exact ⟨h1, .inl h⟩
 · refine ⟨h1, .inr ⟨p, h, ?_⟩⟩; rcases h2 with h2 | ⟨q, h2, h3, h4⟩
   · exact .inl h2
   · exact .inr ⟨q, h2, hk q h3, h4⟩
theorem OwnR.appendO {t t2 e : TypeId} {k by_ : Nat} (hT : RowT P t e k by_) {m : Nat} {σ0 σ : St} {v y : V} {cs ys : List V} {n l : Nat} (h : OwnR e k m σ v cs n) (hn : m = σ0.toks.length) (hk : Keep σ0 σ) (hnews : ybu P σ.objs t2 y k = some (ys, l)) (hyl : ys.length = l * k) (hone : ys.all one = true) (hl : n + l ≤ 140737488355328) (hb : (n + l) * by_ ≤ 140737488355328) :
   ∃ v' σ', yaY P σ t t2 v y = some (v', σ') ∧ OwnR e k m σ' v' (cs ++ ys) (n + l) ∧ Keep σ0 σ' ∧ σ'.objs = σ.objs := by
 obtain ⟨z, hz, hzl⟩ := hT.z; have hk0 : ¬ k = 0 := (by have := hT.k0; omega); have hml : m ≤ σ.toks.length := (by rw [hn]; exact hk.2.1); have keep1 : Keep σ0 ⟨σ.objs, σ.toks ++ [true]⟩ := ⟨hk.1, by simp; have := hk.2.1; omega, fun k h => ydw (hk.2.2 k h)⟩; have hlen : (cs ++ ys).length = (n + l) * k := (by rw [List.length_append, Nat.add_mul, h.1, hyl]); by_cases hm : l = 0
 · subst hm; have hys : ys = [] := List.length_eq_zero_iff.1 (by simpa using hyl); subst hys; refine ⟨v, σ, ?_, by simpa using h, hk, rfl⟩; rcases h.2 with ⟨rfl, rfl⟩ | ⟨p, rfl, _⟩
   · simp [yaY, hT.u, hT.b, hT.s, hz, hnews, hzl, hk0]
   · simp [yaY, hT.u, hT.b, hT.s, hz, hnews, hzl, hk0]
 · rcases h.2 with ⟨rfl, rfl⟩ | ⟨p, rfl, hp⟩
   · have hcs : cs = [] := List.length_eq_zero_iff.1 (by simpa using h.1); subst hcs; refine ⟨_, _, ?_, ⟨hlen, .inr ⟨.tok σ.toks.length e, rfl, .inr ⟨_, rfl, yb7 _, hml⟩⟩⟩, keep1, rfl⟩; simp only [Nat.zero_add] at hl hb; simp [yaY, hT.u, hT.b, hT.s, hz, hnews, hzl, hk0, hm, hl, hb]
   · rcases hp with rfl | ⟨q, rfl, hlive, hnk⟩
     · refine ⟨_, _, ?_, ⟨hlen, .inr ⟨.tok σ.toks.length e, rfl, .inr ⟨_, rfl, yb7 _, hml⟩⟩⟩, keep1, rfl⟩; simp [yaY, hT.u, hT.b, hT.s, hz, hnews, hzl, hk0, hm, hl, hb]
     · have hkl : (ybo σ.toks q).length = σ.toks.length := (by simp [ybo]); refine ⟨.slice (.tok σ.toks.length e) k (cs ++ ys) (n + l), ⟨σ.objs, ybo σ.toks q ++ [true]⟩, ?_, ⟨hlen, .inr ⟨.tok σ.toks.length e, rfl, .inr ⟨_, rfl, by have := yb7 (ybo σ.toks q); rwa [hkl] at this, hml⟩⟩⟩, ?_, rfl⟩
       · simp [yaY, hT.u, hT.b, hT.s, hz, hnews, hzl, hk0, hm, hl, hb, hlive, hone] at hone ⊢
         first | exact hone | done
       · refine ⟨hk.1, by simp [hkl]; have := hk.2.1; omega, fun j hj => ?_⟩; refine ydw (ydV (hk.2.2 j hj) ?_); have := ybE hj; omega
theorem OwnR.append {t t2 e : TypeId} {k by_ : Nat} (hT : RowT P t e k by_) {m : Nat} {σ0 σ : St} {v y : V} {cs ys : List V} {n l : Nat} (h : OwnR e k m σ v cs n) (hn : m = σ0.toks.length) (hk : Keep σ0 σ) (hnews : ycP P t2 y k = some (ys, l)) (hyl : ys.length = l * k) (hone : ys.all one = true) (hl : n + l ≤ 140737488355328) (hb : (n + l) * by_ ≤ 140737488355328) :
   ∃ v' σ', yaY P σ t t2 v y = some (v', σ') ∧ OwnR e k m σ' v' (cs ++ ys) (n + l) ∧ Keep σ0 σ' ∧ σ'.objs = σ.objs := h.appendO hT hn hk (yf3 hnews) hyl hone hl hb
theorem OwnV.toR {e m : Nat} {σ : St} {v : V} {bs : List UInt8} (h : OwnV e m σ v bs) : OwnR e 1 m σ v (bs.map yal) bs.length := by
 refine ⟨by simp, ?_⟩; rcases h with ⟨h, rfl⟩ | h
 · exact .inl ⟨h, rfl⟩
 · exact .inr h
theorem OwnR.toV {e m n : Nat} {σ : St} {v : V} {bs : List UInt8} (h : OwnR e 1 m σ v (bs.map yal) n) : OwnV e m σ v bs := by
 have hl : bs.length = n := (by have := h.1; simpa using this); subst hl; rcases h.2 with ⟨h, h0⟩ | h
 · exact .inl ⟨h, List.length_eq_zero_iff.1 h0⟩
 · exact .inr h
theorem ByteT.row {t e : TypeId} (h : ByteT P t e) : RowT P t e 1 1 := ⟨h.u, h.s, ⟨_, h.z, rfl⟩, h.b, by omega⟩
theorem yiS {α : Type} {f : α → List V} {k : Nat} (hf : ∀ a, (f a).length = k) : ∀ (l : List α) (i : Nat), (l.flatMap f).drop (i * k) = (l.drop i).flatMap f
 | l, 0 => by simp
 | [], i + 1 => by simp
 | a :: l, i + 1 => by
   have : (i + 1) * k = (f a).length + i * k := (by rw [hf, Nat.add_mul, Nat.one_mul, Nat.add_comm]); rw [List.flatMap_cons, this, List.drop_length_add_append, List.drop_succ_cons]; exact yiS hf l i
theorem ydZ {α : Type} {f : α → List V} {k : Nat} (hf : ∀ a, (f a).length = k) : ∀ (l : List α), (l.flatMap f).length = l.length * k
 | [] => by simp
 | a :: l => by rw [List.flatMap_cons, List.length_append, ydZ hf l, hf, List.length_cons, Nat.add_mul, Nat.one_mul, Nat.add_comm]
theorem yge {α : Type} {f : α → List V} {k : Nat} (hf : ∀ a, (f a).length = k) {l : List α} {i : Nat} (h : i < l.length) : ((l.flatMap f).drop (i * k)).take k = f l[i] := by
 rw [yiS hf, List.drop_eq_getElem_cons h, List.flatMap_cons]; have := List.take_left (l₁ := f l[i]) (l₂ := (l.drop (i + 1)).flatMap f); rw [hf] at this; exact this
theorem yik {α : Type} {f : α → List V} {k : Nat} (hf : ∀ a, (f a).length = k) {l : List α} {i : Nat} (h : i < l.length) {e : TypeId} (ha : ybc P e = some true) (hs : yaQ P e = some k) {objs : List Ob} : yad P objs e (.eptr (l.flatMap f) (i * k)) = some (.agg (f l[i])) := by
 have hl : i * k + k ≤ (l.flatMap f).length := by
   rw [ydZ hf]; have : (i + 1) * k ≤ l.length * k := Nat.mul_le_mul_right k h; rw [Nat.add_mul, Nat.one_mul] at this; exact this
 simp only [yad, ya1, ycp, ha, hs, if_pos hl, yge hf h]
theorem yc3 {objs : List Ob} {r : Nat} {cs : List V} {t : TypeId} (h : objs[r]? = some (.cells cs)) (ha : ybc P t = some true) (hs : yaQ P t = some cs.length) : yad P objs t (.optr r 0) = some (.agg cs) := by
 simp [yad, ya1, h, ycp, ha, hs]
theorem yn3 {objs : List Ob} {r off n : Nat} {cs : List V} {t : TypeId} (h : objs[r]? = some (.cells cs)) (ha : ybc P t = some true) (hs : yaQ P t = some n) (hl : off + n ≤ cs.length) : yad P objs t (.optr r off) = some (.agg ((cs.drop off).take n)) := by
 simp [yad, ya1, h, ycp, ha, hs, hl]
theorem ydb : ∀ (vs : List V) (cs : List V) (off : Nat), off + vs.length ≤ cs.length → ybq cs off vs = cs.take off ++ vs ++ cs.drop (off + vs.length)
 | [], cs, off, h => by simp [ybq]
 | v :: vs, cs, off, h => by
   simp only [List.length_cons] at h; rw [ybq, ydb vs _ _ (by simp; omega)]; apply List.ext_getElem?; intro i; simp only [List.length_cons, List.getElem?_append, List.length_take, List.length_set, List.length_append, List.getElem?_drop, List.getElem?_take, List.getElem?_set]; have e1 : min (off + 1) cs.length = off + 1 := (by omega); have e2 : min off cs.length = off := (by omega); rw [e1, e2]; rcases Nat.lt_trichotomy i off with h1 | h1 | h1
   · simp [h1, show i < off + 1 by omega, show i < off + 1 + vs.length by omega, show i < off + (vs.length + 1) by omega, show off ≠ i by omega]
   · subst h1; simp [show i < cs.length by omega]; omega
   · by_cases h2 : i < off + 1 + vs.length
     · simp [show ¬ i < off by omega, show ¬ i < off + 1 by omega, h2, show i < off + (vs.length + 1) by omega]; have : i - off = (i - (off + 1)) + 1 := (by omega); rw [this, List.getElem?_cons_succ]
     · simp [show ¬ i < off by omega, h2, show ¬ i < off + (vs.length + 1) by omega]; have e3 : off + 1 + vs.length + (i - (off + 1 + vs.length)) = i := (by omega); have e4 : off + (vs.length + 1) + (i - (off + (vs.length + 1))) = i := (by omega); rw [e3, e4]; simp [show off ≠ i by omega]
theorem ycY {σ : St} {r : Nat} {cs cs' : List V} {t : TypeId} (h : σ.objs[r]? = some (.cells cs)) (hs : yaQ P t = some cs'.length) (hl : cs'.length = cs.length) (h1 : cs'.all one = true) : yak P σ t (.optr r 0) (.agg cs') = some ⟨σ.objs.set r (.cells cs'), σ.toks⟩ := by
 simp only [yak, h, yah]; have h2 : ybq cs 0 cs' = cs' := (by rw [ydb _ _ _ (by omega)]; simp [hl]); have h3 : 0 + cs'.length ≤ cs.length := (by omega); simp only [hs, h3, h1, and_self, if_true, h2]
theorem Keep.push {σ0 σ : St} (h : Keep σ0 σ) (o : Ob) : Keep σ0 ⟨σ.objs ++ [o], σ.toks⟩ :=
 ⟨fun r o' ho => by
   have := h.1 r o' ho; simp only; rw [gA2 (gA0.1 this).1]; exact this, h.2⟩
theorem yap (objs : List Ob) (o : Ob) : (objs ++ [o])[objs.length]? = some o := by simp
end
end Go.Proofs.YtnegdinonfjdfaaGreatDoor.Q
namespace Go.Proofs.YtnegdinonfjdfaaGreatDoor.Q
open Go Go.RowKit
section
variable {P : Program}
def fieldsOf (P : Program) (t : TypeId) : List (TypeId × Nat) := match P.underlying t with
 | some (.struct fs) => if P.stoodInHeld t || fs.toList.any (fun f => decide (f.name = "_")) then [] else fs.toList.map fun f => (f.type, f.offset)
 | _ => []
end
end Go.Proofs.YtnegdinonfjdfaaGreatDoor.Q
namespace Go.Proofs.YtnegdinonfjdfaaGreatDoor.Q
open Go Go.RowKit
section
variable {P : Program}
theorem yko {k : Nat} {t : TypeId} {i : IntKind} {cs : List V} (hu : P.underlying t = some (.int i)) (h : VT P k t cs) : ∃ n, cs = [.int i n] ∧ (Lit.int i n).wf = true := by
 cases k with
 | zero => exact h.elim
 | succ k => simpa [VT, hu] using h
theorem VT_str {k : Nat} {t : TypeId} {cs : List V} (hu : P.underlying t = some .string) (h : VT P k t cs) : ∃ l, cs = [.str l] ∧ l.length ≤ maxLen := by
 cases k with
 | zero => exact h.elim
 | succ k => simpa [VT, hu] using h
theorem yhJ {k : Nat} {t e : TypeId} {cs : List V} (hu : P.underlying t = some (.slice e)) (h : VT P k t cs) : ∃ k', cs = [.nils] ∨ ∃ vs len, cs = [.slice .ro (P.cellsOf e) vs len] ∧ vs.length = len * P.cellsOf e ∧ len ≤ maxLen ∧ ∀ i, i < len → VT P k' e ((vs.drop (i * P.cellsOf e)).take (P.cellsOf e)) := by
 cases k with
 | zero => exact h.elim
 | succ k => exact ⟨k, by simpa [VT, hu] using h⟩
theorem yiA {k : Nat} {t : TypeId} {p : TypeId × Nat} {ps : List (TypeId × Nat)} {cs : List V} (hu : fieldsOf P t = p :: ps) (h : VT P k t cs) : ∃ k', cs.length = P.cellsOf t ∧ ∀ q ∈ p :: ps, VT P k' q.1 ((cs.drop q.2).take (P.cellsOf q.1)) := by
 cases k with
 | zero => exact h.elim
 | succ k =>
   unfold fieldsOf at hu; split at hu
   · rename_i fs hf; split at hu
     · cases hu
     · simp only [VT, hf] at h; refine ⟨k, h.1, fun q hq => ?_⟩; rw [← hu, List.mem_map] at hq; obtain ⟨f, hfm, rfl⟩ := hq; exact h.2 f hfm
   · cases hu
end
theorem yib {α : Type} {f : α → List V} {R : α → Prop} {c : Nat} : ∀ (len : Nat) (vs : List V), vs.length = len * c → (∀ i, i < len → ∃ x, (vs.drop (i * c)).take c = f x ∧ R x) → ∃ l : List α, vs = l.flatMap f ∧ l.length = len ∧ ∀ x ∈ l, R x
 | 0, vs, hl, _ => ⟨[], by simpa using hl, rfl, by simp⟩
 | len + 1, vs, hl, h => by
   obtain ⟨x, hx, hr⟩ := h 0 (by omega); have hl' : (vs.drop c).length = len * c := by rw [List.length_drop, hl, Nat.add_mul]; omega
   obtain ⟨l, h1, h2, h3⟩ := yib len (vs.drop c) hl' fun i hi => by
     obtain ⟨y, hy, hry⟩ := h (i + 1) (by omega); have he : c + i * c = (i + 1) * c := (by rw [Nat.add_mul]; omega); exact ⟨y, by rw [List.drop_drop, he]; exact hy, hry⟩
   refine ⟨x :: l, ?_, by simp [h2], ?_⟩
   · rw [List.flatMap_cons, ← h1, ← hx]; simp
   · intro y hy; rcases List.mem_cons.1 hy with rfl | hy
     · exact hr
     · exact h3 y hy
theorem yh2 {α : Type} {f : α → List V} : ∀ {l : List α} {x : α}, x ∈ l → ya9 (f x) ≤ ya9 (l.flatMap f)
 | [], x, h => by cases h
 | a :: l, x, h => by
   rw [List.flatMap_cons, yds]; rcases List.mem_cons.1 h with rfl | h
   · omega
   · have := yh2 (f := f) h; omega
theorem ykC {α : Type} {f : α → List V} {k : Nat} (hf : ∀ a, (f a).length = k) (hk : 0 < k) (l : List α) : l.length ≤ ya9 (l.flatMap f) := by
 have h1 := yfm (l.flatMap f); rw [ydZ hf] at h1; have : l.length * 1 ≤ l.length * k := Nat.mul_le_mul_left _ hk; omega
end Go.Proofs.YtnegdinonfjdfaaGreatDoor.Q
namespace Go.Proofs.YtnegdinonfjdfaaGreatDoor.Q
open Go Go.RowKit
theorem WK0 : type_of% @yjr ∧ type_of% @yiv ∧ type_of% @yhv ∧ type_of% @ynr ∧ type_of% @ydx ∧ type_of% @yip ∧ type_of% @ypQ ∧ type_of% @yhu ∧ type_of% @ygl ∧ type_of% @ykb ∧ type_of% @yiG ∧ type_of% @ynN ∧ type_of% @ylv ∧ type_of% @ymD ∧ type_of% @ypk ∧ type_of% @yng ∧ type_of% @ymQ ∧ type_of% @yhf ∧ type_of% @yk7 ∧ type_of% @yiV := ⟨@yjr, @yiv, @yhv, @ynr, @ydx, @yip, @ypQ, @yhu, @ygl, @ykb, @yiG, @ynN, @ylv, @ymD, @ypk, @yng, @ymQ, @yhf, @yk7, @yiV⟩
theorem WK1 : type_of% @ylm ∧ type_of% @ykN ∧ type_of% @ynt ∧ type_of% @Ev_if ∧ type_of% @ypl ∧ type_of% @yhk ∧ type_of% @yor ∧ type_of% @yhC ∧ type_of% @yln ∧ type_of% @ykq ∧ type_of% @yn2 ∧ type_of% @yi3 ∧ type_of% @ynR ∧ type_of% @yla ∧ type_of% @ypv ∧ type_of% @ykE ∧ type_of% @yeU ∧ type_of% @ym8 ∧ type_of% @ykk ∧ type_of% @ygD := ⟨@ylm, @ykN, @ynt, @Ev_if, @ypl, @yhk, @yor, @yhC, @yln, @ykq, @yn2, @yi3, @ynR, @yla, @ypv, @ykE, @yeU, @ym8, @ykk, @ygD⟩
theorem WK2 : type_of% @yk8 ∧ type_of% @ynd ∧ type_of% @yhe ∧ type_of% @ydz ∧ type_of% @ygb ∧ type_of% @yfv ∧ type_of% @ykd ∧ type_of% @yfy ∧ type_of% @yk2 ∧ type_of% @yft ∧ type_of% @ylx ∧ type_of% @yeG ∧ type_of% @yg1 ∧ type_of% @yk4 ∧ type_of% @ymM ∧ type_of% @yk3 ∧ type_of% @ync ∧ type_of% @KG_tt ∧ type_of% @KG_ff ∧ type_of% @KG_tf ∧ type_of% @KG_ft := ⟨@yk8, @ynd, @yhe, @ydz, @ygb, @yfv, @ykd, @yfy, @yk2, @yft, @ylx, @yeG, @yg1, @yk4, @ymM, @yk3, @ync, @KG_tt, @KG_ff, @KG_tf, @KG_ft⟩
theorem WK3 : type_of% @ypE ∧ type_of% @yom ∧ type_of% @ymO ∧ type_of% @ym5 ∧ type_of% @ynC ∧ type_of% @ydf ∧ type_of% @ydR ∧ type_of% @yeQ ∧ type_of% @ye0 ∧ type_of% @yfE ∧ type_of% @yhn ∧ type_of% @yja ∧ type_of% @yiT ∧ type_of% @yeX ∧ type_of% @ygG ∧ type_of% @yef ∧ type_of% @yhd ∧ type_of% @yg3 ∧ type_of% @yfr ∧ type_of% @yni := ⟨@ypE, @yom, @ymO, @ym5, @ynC, @ydf, @ydR, @yeQ, @ye0, @yfE, @yhn, @yja, @yiT, @yeX, @ygG, @yef, @yhd, @yg3, @yfr, @yni⟩
theorem WK4 : type_of% @yn5 ∧ type_of% @ymt ∧ type_of% @yit ∧ type_of% @yll ∧ type_of% @yi9 ∧ type_of% @yhx ∧ type_of% @yjg ∧ type_of% @ycX ∧ type_of% @yis ∧ type_of% @yki ∧ type_of% @yj5 ∧ type_of% @ykA ∧ type_of% @yly ∧ type_of% @ylB ∧ type_of% @ylz ∧ type_of% @ykg ∧ type_of% @yj8 ∧ type_of% @ykS ∧ type_of% @ykX ∧ type_of% @yk5 := ⟨@yn5, @ymt, @yit, @yll, @yi9, @yhx, @yjg, @ycX, @yis, @yki, @yj5, @ykA, @yly, @ylB, @ylz, @ykg, @yj8, @ykS, @ykX, @yk5⟩
theorem WK5 : type_of% @ykv ∧ type_of% @ymI ∧ type_of% @ylt ∧ type_of% @ygi ∧ type_of% @ykt ∧ type_of% @yk1 ∧ type_of% @ykz ∧ type_of% @yaa ∧ type_of% @ykG ∧ type_of% @yfG ∧ type_of% @ycN ∧ type_of% @yaV ∧ type_of% @ykm ∧ type_of% @ylq ∧ type_of% @ylf := ⟨@ykv, @ymI, @ylt, @ygi, @ykt, @yk1, @ykz, @yaa, @ykG, @yfG, @ycN, @yaV, @ykm, @ylq, @ylf⟩
theorem WK6 : type_of% @true_implies ∧ type_of% @decide_true ∧ type_of% @decide_false ∧ type_of% @Bool.not_true ∧ type_of% @Bool.not_false ∧ type_of% @not_true_eq_false ∧ type_of% @not_false_eq_true ∧ type_of% @Bool.false_eq_true ∧ type_of% @and_self ∧ type_of% @and_true ∧ type_of% @true_and ∧ type_of% @Option.map_some.{0,0} ∧ type_of% @Option.map_none.{0,0} ∧ type_of% @List.append_nil.{0} ∧ type_of% @List.getElem?_cons_zero.{0} ∧ type_of% @List.getElem?_cons_succ.{0} ∧ type_of% @ne_eq.{1} ∧ type_of% @List.getD_cons_zero.{0} ∧ type_of% @List.getD_cons_succ.{0} := ⟨@true_implies, @decide_true, @decide_false, @Bool.not_true, @Bool.not_false, @not_true_eq_false, @not_false_eq_true, @Bool.false_eq_true, @and_self, @and_true, @true_and, @Option.map_some.{0,0}, @Option.map_none.{0,0}, @List.append_nil.{0}, @List.getElem?_cons_zero.{0}, @List.getElem?_cons_succ.{0}, @ne_eq.{1}, @List.getD_cons_zero.{0}, @List.getD_cons_succ.{0}⟩
theorem WK7 : type_of% @ynH ∧ type_of% @yob ∧ type_of% @ykx ∧ type_of% @ynU ∧ type_of% @yig ∧ type_of% @ypK ∧ type_of% @ynD ∧ type_of% @yha ∧ type_of% @yjm ∧ type_of% @yfz ∧ type_of% @yij ∧ type_of% @Ev_rf ∧ type_of% @ylh ∧ type_of% @ypy ∧ type_of% @ynA ∧ type_of% @ykU ∧ type_of% @ypM ∧ type_of% @ypt ∧ type_of% @ypw ∧ type_of% @ypL ∧ type_of% @ynZ := ⟨@ynH, @yob, @ykx, @ynU, @yig, @ypK, @ynD, @yha, @yjm, @yfz, @yij, @Ev_rf, @ylh, @ypy, @ynA, @ykU, @ypM, @ypt, @ypw, @ypL, @ynZ⟩
theorem WK : type_of% WK0 ∧ type_of% WK1 ∧ type_of% WK2 ∧ type_of% WK3 ∧ type_of% WK4 ∧ type_of% WK5 ∧ type_of% WK6 ∧ type_of% WK7 := ⟨WK0, WK1, WK2, WK3, WK4, WK5, WK6, WK7⟩
theorem gD0 : type_of% @List.getD_cons_zero.{0} := @List.getD_cons_zero
theorem gD1 : type_of% @List.getD_cons_succ.{0} := @List.getD_cons_succ
theorem WKV : type_of% @WK ∧ type_of% @yhs ∧ type_of% @vop.eq_1 ∧ type_of% @vop.eq_2 ∧ type_of% @vop.eq_3 ∧ type_of% @vop.eq_4 ∧ type_of% @vop.eq_5 ∧ type_of% @vop.eq_6 ∧ type_of% @vop.eq_7 ∧ type_of% @vop.eq_8 ∧ type_of% @vop.eq_9 ∧ type_of% @vop.eq_10 ∧ type_of% @vop.eq_11 ∧ type_of% @vop.eq_12 ∧ type_of% @vop.eq_13 ∧ type_of% @vop.eq_14 ∧ type_of% @vop.eq_15 ∧ type_of% @vop.eq_16 ∧ type_of% @vop.eq_17 ∧ type_of% @vop.eq_18 ∧ type_of% @vop.eq_19 ∧ type_of% @vop.eq_20 ∧ type_of% @vop.eq_21 ∧ type_of% @vop.eq_22 ∧ type_of% @vop.eq_23 ∧ type_of% @vop.eq_24 ∧ type_of% @vop.eq_25 ∧ type_of% @vop.eq_26 ∧ type_of% @vop.eq_27 ∧ type_of% @vop.eq_28 ∧ type_of% @vop.eq_29 ∧ type_of% @evAll.eq_1 ∧ type_of% @evAll.eq_2 ∧ type_of% @evOpt.eq_1 ∧ type_of% @evOpt.eq_2 ∧ type_of% @evParts.eq_1 ∧ type_of% @evParts.eq_2 ∧ type_of% @vbuiltin.eq_1 ∧ type_of% @vbuiltin.eq_2 ∧ type_of% @vbuiltin.eq_3 ∧ type_of% @vbuiltin.eq_4 ∧ type_of% @vbuiltin.eq_5 ∧ type_of% @vbuiltin.eq_6 ∧ type_of% @vbuiltin.eq_7 ∧ type_of% @vun.eq_1 ∧ type_of% @vun.eq_2 ∧ type_of% @vun.eq_3 ∧ type_of% @vun.eq_4 ∧ type_of% @vextract.eq_1 ∧ type_of% @vextract.eq_2 ∧ type_of% @vhot.eq_1 ∧ type_of% @vhot.eq_2 ∧ type_of% @vhot.eq_3 ∧ type_of% @vhot.eq_4 ∧ type_of% @vhot.eq_5 ∧ type_of% @vhot.eq_6 ∧ type_of% @vhot.eq_7 ∧ type_of% @vhot.eq_8 ∧ type_of% @vhot.eq_9 := ⟨@WK, @yhs, @vop.eq_1, @vop.eq_2, @vop.eq_3, @vop.eq_4, @vop.eq_5, @vop.eq_6, @vop.eq_7, @vop.eq_8, @vop.eq_9, @vop.eq_10, @vop.eq_11, @vop.eq_12, @vop.eq_13, @vop.eq_14, @vop.eq_15, @vop.eq_16, @vop.eq_17, @vop.eq_18, @vop.eq_19, @vop.eq_20, @vop.eq_21, @vop.eq_22, @vop.eq_23, @vop.eq_24, @vop.eq_25, @vop.eq_26, @vop.eq_27, @vop.eq_28, @vop.eq_29, @evAll.eq_1, @evAll.eq_2, @evOpt.eq_1, @evOpt.eq_2, @evParts.eq_1, @evParts.eq_2, @vbuiltin.eq_1, @vbuiltin.eq_2, @vbuiltin.eq_3, @vbuiltin.eq_4, @vbuiltin.eq_5, @vbuiltin.eq_6, @vbuiltin.eq_7, @vun.eq_1, @vun.eq_2, @vun.eq_3, @vun.eq_4, @vextract.eq_1, @vextract.eq_2, @vhot.eq_1, @vhot.eq_2, @vhot.eq_3, @vhot.eq_4, @vhot.eq_5, @vhot.eq_6, @vhot.eq_7, @vhot.eq_8, @vhot.eq_9⟩
end Go.Proofs.YtnegdinonfjdfaaGreatDoor.Q
namespace Go.Proofs.YtnegdinonfjdfaaGreatDoor.Q
def yoy : BitVec 32 := 0xEDB88320#32
def yb8 (r : BitVec 32) : BitVec 32 := (r >>> 1) ^^^ (if r.getLsbD 0 = true then yoy else 0#32)
def half : List Nat := [0x00000000, 0x1db71064, 0x3b6e20c8, 0x26d930ac, 0x76dc4190, 0x6b6b51f4, 0x4db26158, 0x5005713c, 0xedb88320, 0xf00f9344, 0xd6d6a3e8, 0xcb61b38c, 0x9b64c2b0, 0x86d3d2d4, 0xa00ae278, 0xbdbdf21c]
def nib (r : BitVec 32) : BitVec 32 := (r >>> 4) ^^^ BitVec.ofNat 32 (half.getD (r &&& 15#32).toNat 0)
theorem ye6 (a b : BitVec 32) : yb8 (a ^^^ b) = yb8 a ^^^ yb8 b := by
 unfold yb8; rw [BitVec.ushiftRight_xor_distrib, BitVec.getLsbD_xor]; have hz : ∀ z : BitVec 32, yoy ^^^ (yoy ^^^ z) = z := fun z => by rw [← BitVec.xor_assoc, BitVec.xor_self, BitVec.zero_xor]
 cases a.getLsbD 0 <;> cases b.getLsbD 0 <;> simp
 · ac_rfl
 · ac_rfl
 · rw [show a >>> 1 ^^^ yoy ^^^ (b >>> 1 ^^^ yoy) = yoy ^^^ (yoy ^^^ (a >>> 1 ^^^ b >>> 1)) from by ac_rfl, hz]
theorem yeV {y : BitVec 32} (h : y.getLsbD 0 = false) : yb8 y = y >>> 1 := by
 unfold yb8; rw [h]; simp
theorem ymZ (i : Fin 16) : yb8 (yb8 (yb8 (yb8 (BitVec.ofNat 32 i.val)))) = BitVec.ofNat 32 (half.getD i.val 0) := by
 revert i; decide
theorem ylE (x : BitVec 32) : yb8 (yb8 (yb8 (yb8 ((x >>> 4) <<< 4)))) = x >>> 4 := by
 have e1 : yb8 ((x >>> 4) <<< 4) = ((x >>> 4) <<< 4) >>> 1 := yeV (by simp); have e2 : yb8 (((x >>> 4) <<< 4) >>> 1) = ((x >>> 4) <<< 4) >>> 1 >>> 1 := yeV (by rw [BitVec.getLsbD_ushiftRight, BitVec.getLsbD_shiftLeft]; simp); have e3 : yb8 (((x >>> 4) <<< 4) >>> 1 >>> 1) = ((x >>> 4) <<< 4) >>> 1 >>> 1 >>> 1 := yeV (by rw [BitVec.getLsbD_ushiftRight, BitVec.getLsbD_ushiftRight, BitVec.getLsbD_shiftLeft]; simp); have e4 : yb8 (((x >>> 4) <<< 4) >>> 1 >>> 1 >>> 1) = ((x >>> 4) <<< 4) >>> 1 >>> 1 >>> 1 >>> 1 := yeV (by rw [BitVec.getLsbD_ushiftRight, BitVec.getLsbD_ushiftRight, BitVec.getLsbD_ushiftRight, BitVec.getLsbD_shiftLeft]; simp); rw [e1, e2, e3, e4]; apply BitVec.eq_of_getLsbD_eq; intro i hi; rw [BitVec.getLsbD_ushiftRight, BitVec.getLsbD_ushiftRight, BitVec.getLsbD_ushiftRight, BitVec.getLsbD_ushiftRight, BitVec.getLsbD_shiftLeft, BitVec.getLsbD_ushiftRight, BitVec.getLsbD_ushiftRight]; by_cases h : i < 28
 · have h1 : 1 + (1 + (1 + (1 + i))) < 32 := (by omega); have h2 : ¬ 1 + (1 + (1 + (1 + i))) < 4 := (by omega); have h3 : 4 + (1 + (1 + (1 + (1 + i))) - 4) = 4 + i := (by omega); simp [h1, h2, h3]
 · have h1 : ¬ 1 + (1 + (1 + (1 + i))) < 32 := (by omega); rw [BitVec.getLsbD_of_ge x (4 + i) (by omega)]; simp [h1]
theorem split4 (x : BitVec 32) : x = ((x >>> 4) <<< 4) ^^^ (x &&& 15#32) := by
 apply BitVec.eq_of_getLsbD_eq; intro i hi
 have h15 : (15#32).getLsbD i = decide (i < 4) := by
   have : ∀ j : Fin 32, (15#32).getLsbD j.val = decide (j.val < 4) := (by decide); exact this ⟨i, hi⟩
 rw [BitVec.getLsbD_xor, BitVec.getLsbD_and, h15, BitVec.getLsbD_shiftLeft, BitVec.getLsbD_ushiftRight]; by_cases h4 : i < 4
 · simp [h4]
 · have : 4 + (i - 4) = i := (by omega); simp [h4, hi, this]
theorem yiM (r : BitVec 32) : yb8 (yb8 (yb8 (yb8 r))) = nib r := by
 have hl : (r &&& 15#32).toNat < 16 := by
   rw [BitVec.toNat_and]; exact Nat.lt_of_le_of_lt Nat.and_le_right (by decide)
 have e : r &&& 15#32 = BitVec.ofNat 32 (r &&& 15#32).toNat := (by simp); have h4 := ymZ ⟨_, hl⟩; simp only at h4; rw [← e] at h4
 conv => lhs; rw [split4 r]
 rw [ye6, ye6, ye6, ye6, ylE, h4]; rfl
def ymx (r : BitVec 32) (x : UInt8) : BitVec 32 := nib (nib (r ^^^ BitVec.ofNat 32 x.toNat))
def yls (r : BitVec 32) (bs : List UInt8) : BitVec 32 := bs.foldl ymx r
def ykD (s : BitVec 32) (bs : List UInt8) : BitVec 32 := ~~~ yls (~~~ s) bs
def ydy (bs : List UInt8) : BitVec 32 := ykD 0#32 bs
end Go.Proofs.YtnegdinonfjdfaaGreatDoor.Q
namespace Go.Proofs.YtnegdinonfjdfaaGreatDoor.Q
open Go Go.RowKit Go.Proofs
def uV (r : BitVec 32) : V := .int .u32 (r.toNat : Int)
theorem yhW {x : Int} (h1 : 0 ≤ x) (h2 : x < 4294967296) : IntKind.u32.wrap x = x := by
 unfold IntKind.wrap; simp [IntKind.bits, IntKind.signed, IntKind.max, IntKind.min]; omega
theorem ye9 (r : BitVec 32) : IntKind.u32.wrap ((r.toNat : Nat) : Int) = ((r.toNat : Nat) : Int) := yhW (by omega) (by have := r.isLt; omega)
theorem ybQ (r : BitVec 32) : BitVec.ofInt 32 ((r.toNat : Nat) : Int) = r := by simp
theorem ygo (a b : BitVec 32) : ydm .xor .u32 ((a.toNat : Nat) : Int) ((b.toNat : Nat) : Int) = some (((a ^^^ b).toNat : Nat) : Int) := by
 show some (IntKind.u32.wrap (((BitVec.ofInt 32 ((a.toNat : Nat) : Int) ^^^ BitVec.ofInt 32 ((b.toNat : Nat) : Int)).toNat : Nat) : Int)) = _; rw [ybQ, ybQ, ye9]
theorem ymr (a b : BitVec 32) : ydm .and .u32 ((a.toNat : Nat) : Int) ((b.toNat : Nat) : Int) = some (((a &&& b).toNat : Nat) : Int) := by
 show some (IntKind.u32.wrap (((BitVec.ofInt 32 ((a.toNat : Nat) : Int) &&& BitVec.ofInt 32 ((b.toNat : Nat) : Int)).toNat : Nat) : Int)) = _; rw [ybQ, ybQ, ye9]
theorem ypF (a b : BitVec 32) : ydm .or .u32 ((a.toNat : Nat) : Int) ((b.toNat : Nat) : Int) = some (((a ||| b).toNat : Nat) : Int) := by
 show some (IntKind.u32.wrap (((BitVec.ofInt 32 ((a.toNat : Nat) : Int) ||| BitVec.ofInt 32 ((b.toNat : Nat) : Int)).toNat : Nat) : Int)) = _; rw [ybQ, ybQ, ye9]
theorem yfV (a : BitVec 32) : ydm .xor .u32 (if IntKind.u32.signed = true then -1 else IntKind.u32.max) ((a.toNat : Nat) : Int) = some (((~~~ a).toNat : Nat) : Int) := by
 have hm : (if IntKind.u32.signed = true then -1 else IntKind.u32.max) = (((BitVec.allOnes 32).toNat : Nat) : Int) := by decide
 rw [hm, ygo, BitVec.allOnes_xor]
theorem shr4 (r : BitVec 32) : (((r.toNat : Nat) : Int) / (2 : Int) ^ (min (4 : Int).toNat IntKind.u32.bits)) = (((r >>> 4).toNat : Nat) : Int) := by
 have e : (2 : Int) ^ (min (4 : Int).toNat IntKind.u32.bits) = ((16 : Nat) : Int) := (by decide); rw [e, BitVec.toNat_ushiftRight, Nat.shiftRight_eq_div_pow]; omega
theorem shr1 (r : BitVec 32) : (((r.toNat : Nat) : Int) / (2 : Int) ^ (min (1 : Int).toNat IntKind.u32.bits)) = (((r >>> 1).toNat : Nat) : Int) := by
 have e : (2 : Int) ^ (min (1 : Int).toNat IntKind.u32.bits) = ((2 : Nat) : Int) := (by decide); rw [e, BitVec.toNat_ushiftRight, Nat.shiftRight_eq_div_pow]; omega
theorem and15 (r : BitVec 32) : ydm .and .u32 ((r.toNat : Nat) : Int) 15 = some (((r &&& 15#32).toNat : Nat) : Int) := ymr r 15#32
theorem and1 (r : BitVec 32) : ydm .and .u32 ((r.toNat : Nat) : Int) 1 = some (((r &&& 1#32).toNat : Nat) : Int) := ymr r 1#32
theorem xorP (r : BitVec 32) : ydm .xor .u32 ((r.toNat : Nat) : Int) 3988292384 = some (((r ^^^ yoy).toNat : Nat) : Int) := ygo r yoy
theorem yok (b : UInt8) : IntKind.u32.wrap ((b.toNat : Nat) : Int) = (((BitVec.ofNat 32 b.toNat).toNat : Nat) : Int) := by
 have := b.toNat_lt; rw [BitVec.toNat_ofNat, Nat.mod_eq_of_lt (by omega), yhW (by omega) (by omega)]
theorem yqi (i : Nat) : half.getD i 0 < 4294967296 := by
 by_cases h : i < 16
 · have : ∀ j : Fin 16, half.getD j.val 0 < 4294967296 := (by decide); exact this ⟨i, h⟩
 · rw [gA6, List.getElem?_eq_none (by simp [half]; omega)]; decide
theorem yl5 (i : Nat) : (BitVec.ofNat 32 (half.getD i 0)).toNat = half.getD i 0 := by
 rw [BitVec.toNat_ofNat, Nat.mod_eq_of_lt]; have := yqi i; omega
theorem yoo (r : BitVec 32) (bs : List UInt8) (b : UInt8) : yls r (bs ++ [b]) = ymx (yls r bs) b := by
 unfold yls; rw [List.foldl_append]; rfl
theorem yiR {r : BitVec 32} {bs : List UInt8} {i : Nat} (h : i < bs.length) : yls r (bs.take (i + 1)) = ymx (yls r (bs.take i)) bs[i] := by
 rw [List.take_succ_eq_append_getElem h, yoo]
end Go.Proofs.YtnegdinonfjdfaaGreatDoor.Q
namespace Go.Proofs.YtnegdinonfjdfaaGreatDoor.Q
open Go
def ydp : Nat → Nat → List UInt8
 | 0, _ => []
 | k + 1, n => ydp k (n / 10) ++ [UInt8.ofNat (48 + n % 10)]
theorem ydk : ∀ (k n : Nat), (ydp k n).length = k
 | 0, _ => rfl
 | k + 1, n => by rw [ydp, List.length_append, ydk k]; rfl
theorem yfk : ∀ (k n : Nat), ydp (k + 1) n = UInt8.ofNat (48 + n / 10 ^ k % 10) :: ydp k n
 | 0, n => by simp [ydp]
 | k + 1, n => by
   rw [ydp, yfk k (n / 10), ydp, Nat.div_div_eq_div_mul, Nat.pow_succ, Nat.mul_comm 10]; rfl
theorem ym0 {k n : Nat} (h : n < 10 ^ k) : ydp (k + 1) n = 48 :: ydp k n := by
 rw [yfk, Nat.div_eq_of_lt h]; rfl
theorem ycc : ∀ (k n : Nat), 10 ^ k ≤ n ∨ k = 0 → n < 10 ^ (k + 1) → Lib.decDigits n = ydp (k + 1) n
 | 0, n, _, h => by
   rw [Lib.decDigits, dif_pos (by simpa using h)]; have : n % 10 = n := Nat.mod_eq_of_lt (by simpa using h); simp [ydp, this]
 | k + 1, n, h1, h2 => by
   have hp : 1 ≤ 10 ^ k := Nat.one_le_pow _ _ (by decide)
   have h1 : 10 ^ (k + 1) ≤ n := by rcases h1 with h | h; exact h; omega
   have h3 := h1; rw [Nat.pow_succ] at h1 h2; rw [Lib.decDigits, dif_neg (by omega), ydp, ycc k (n / 10) (by omega) (by omega)]
def wid (n : Nat) : Nat := if n < 10 then 1 else if n < 100 then 2 else if n < 1000 then 3 else if n < 10000 then 4 else if n < 100000 then 5 else if n < 1000000 then 6 else if n < 10000000 then 7 else if n < 100000000 then 8 else 9
theorem ypx {n : Nat} (h : n < 10 ^ 9) : wid n ≤ 9 ∧ 1 ≤ wid n ∧ n < 10 ^ wid n ∧ Lib.itoa (n : Int) = ydp (wid n) n := by
 have h0 : Lib.itoa (n : Int) = Lib.decDigits n := (by unfold Lib.itoa; rw [if_neg (by omega), Int.toNat_natCast]); rw [h0]; unfold wid
 repeat' split
 · exact ⟨by omega, by omega, by omega, ycc 0 n (.inr rfl) (by omega)⟩
 · exact ⟨by omega, by omega, by omega, ycc 1 n (.inl (by omega)) (by omega)⟩
 · exact ⟨by omega, by omega, by omega, ycc 2 n (.inl (by omega)) (by omega)⟩
 · exact ⟨by omega, by omega, by omega, ycc 3 n (.inl (by omega)) (by omega)⟩
 · exact ⟨by omega, by omega, by omega, ycc 4 n (.inl (by omega)) (by omega)⟩
 · exact ⟨by omega, by omega, by omega, ycc 5 n (.inl (by omega)) (by omega)⟩
 · exact ⟨by omega, by omega, by omega, ycc 6 n (.inl (by omega)) (by omega)⟩
 · exact ⟨by omega, by omega, by omega, ycc 7 n (.inl (by omega)) (by omega)⟩
 · exact ⟨by omega, by omega, by omega, ycc 8 n (.inl (by omega)) (by omega)⟩
def ycQ (b : UInt8) : Bool := decide (48 ≤ b.toNat ∧ b.toNat ≤ 57)
def yfP (acc : Nat) (l : List UInt8) : Nat := l.foldl (fun a b => a * 10 + (b.toNat - 48)) acc
theorem yhK : ∀ (k n : Nat), (ydp k n).all ycQ = true
 | 0, _ => rfl
 | k + 1, n => by
   rw [ydp, List.all_append, yhK k]; have : n % 10 < 10 := Nat.mod_lt _ (by decide); simp [ycQ]; omega
theorem yev (a : Nat) (l m : List UInt8) : yfP a (l ++ m) = yfP (yfP a l) m := List.foldl_append ..
theorem yky : ∀ (l : List UInt8), l.all ycQ = true → ydp l.length (yfP 0 l) = l ∧ yfP 0 l < 10 ^ l.length := by
 intro l
 induction hn : l.length generalizing l with
 | zero =>
   intro _; have : l = [] := List.length_eq_zero_iff.1 hn; subst this; exact ⟨rfl, by decide⟩
 | succ k ih =>
   intro hd; have hne : l ≠ [] := (by rintro rfl; simp at hn); obtain ⟨m, b, rfl⟩ : ∃ m b, l = m ++ [b] := ⟨l.dropLast, l.getLast hne, (List.dropLast_concat_getLast hne).symm⟩; rw [List.length_append] at hn; rw [List.all_append] at hd; simp only [List.all_cons, List.all_nil, Bool.and_true, Bool.and_eq_true, ycQ, decide_eq_true_eq] at hd; obtain ⟨i1, i2⟩ := ih m (by simpa using hn) hd.1; have hv : yfP 0 (m ++ [b]) = yfP 0 m * 10 + (b.toNat - 48) := (by rw [yev]; rfl); rw [hv]; refine ⟨?_, by rw [Nat.pow_succ]; omega⟩; rw [ydp, show (yfP 0 m * 10 + (b.toNat - 48)) / 10 = yfP 0 m from by omega, i1]
   congr 2
   apply UInt8.toNat_inj.1; rw [UInt8.toNat_ofNat']; omega
theorem yms : ∀ (l : List UInt8) (a : Nat), l.all ycQ = true → Lib.decFrom a l = some (yfP a l)
 | [], a, _ => rfl
 | b :: l, a, h => by
   simp only [List.all_cons, Bool.and_eq_true, ycQ, decide_eq_true_eq] at h; simp only [Lib.decFrom, Lib.digitVal, if_pos h.1]; exact yms l _ h.2
theorem ykB {l : List UInt8} (h : l.all ycQ = true) (hne : l ≠ []) : Lib.atoi l = some (yfP 0 l : Nat) := by
 match l, hne with
 | b :: r, _ =>
   have hb := h; simp only [List.all_cons, Bool.and_eq_true, ycQ, decide_eq_true_eq] at hb
   have h45 : (b == 45) = false := by
     rw [beq_eq_false_iff_ne]; rintro rfl; simp at hb
   have h43 : (b == 43) = false := by
     rw [beq_eq_false_iff_ne]; rintro rfl; simp at hb
   simp only [Lib.atoi, h45, h43, Bool.false_eq_true, ↓reduceIte, Lib.decNat, List.isEmpty_cons]; rw [yms _ _ h]; rfl
theorem yh9 : ∀ (k n : Nat), n < 10 ^ k → yfP 0 (ydp k n) = n
 | 0, n, h => by simp at h; subst h; rfl
 | k + 1, n, h => by
   rw [Nat.pow_succ] at h; rw [ydp, yev, yh9 k (n / 10) (by omega)]; have h1 : n % 10 < 10 := Nat.mod_lt _ (by decide); have : (UInt8.ofNat (48 + n % 10)).toNat = 48 + n % 10 := (by rw [UInt8.toNat_ofNat']; omega); simp only [yfP, List.foldl_cons, List.foldl_nil, this]; omega
def ya0 (pre : UInt8) (lo n : Int) : List UInt8 := if n < lo ∨ 999999999 < n then [] else pre :: ydp 9 n.toNat
def ygP (pre : UInt8) (name : List UInt8) : Option Nat := match name with
 | b :: t => if b = pre ∧ t.length = 9 ∧ t.all ycQ = true then some (yfP 0 t) else none
 | [] => none
theorem yoH {pre : UInt8} {n : Nat} (h : n < 10 ^ 9) : ygP pre (pre :: ydp 9 n) = some n := by
 simp only [ygP]; rw [if_pos ⟨trivial, ydk 9 n, yhK 9 n⟩, yh9 9 n h]
theorem yh5 {pre : UInt8} {name : List UInt8} {m : Nat} (h : ygP pre name = some m) : name = pre :: ydp 9 m ∧ m < 10 ^ 9 := by
 unfold ygP at h; split at h
 · split at h
   · rename_i b t hc; injection h with h; subst h; obtain ⟨rfl, h2, h3⟩ := hc; obtain ⟨h4, h5⟩ := yky t h3; rw [h2] at h4 h5; exact ⟨by rw [h4], h5⟩
   · cases h
 · cases h
theorem ype {pre : UInt8} {t : List UInt8} (hl : t.length = 9) (h : Lib.atoi t = none) : ygP pre (pre :: t) = none := by
 simp only [ygP]; rw [if_neg]; rintro ⟨_, _, h3⟩; rw [ykB h3 (by rintro rfl; simp at hl)] at h
 cases h
theorem yo2 {pre : UInt8} {t : List UInt8} {m : Int} (hl : t.length = 9) (h : Lib.atoi t = some m) :
   (pre :: t = ya0 pre 0 m → 0 ≤ m ∧ m ≤ 999999999 ∧ ygP pre (pre :: t) = some m.toNat) ∧ (pre :: t ≠ ya0 pre 0 m → ygP pre (pre :: t) = none) := by
 constructor
 · intro hn; unfold ya0 at hn; split at hn
   · cases hn
   · rename_i hr; refine ⟨by omega, by omega, ?_⟩; rw [hn]; exact yoH (by omega)
 · intro hn
   cases hp : ygP pre (pre :: t) with
   | none => rfl
   | some k =>
     exfalso; obtain ⟨h1, h2⟩ := yh5 hp; injection h1 with _ h1; have h3 := yhK 9 k; rw [← h1] at h3; rw [ykB h3 (by rintro rfl; simp at hl)] at h; injection h with h; apply hn; have hv := yh9 9 k h2; rw [← h1] at hv; rw [← h, hv]; unfold ya0; rw [if_neg (by omega), Int.toNat_natCast, h1]
end Go.Proofs.YtnegdinonfjdfaaGreatDoor.Q
namespace Go.Proofs
open Go.Shelf
def Tryz.lays172_ren : Go.Shelf.Ren := ⟨fun | 172 => 83 | 244 => 97 | 245 => 98 | 247 => 104 | 279 => 105 | 280 => 106 | 281 => 107 | 282 => 108 | 287 => 124 | 316 => 125 | 171 => 80 | 205 => 126 | 321 => 137 | 322 => 138 | 243 => 94 | 246 => 103 | 283 => 120 | 284 => 121 | 285 => 122 | 286 => 123 | 129 => 119 | 317 => 133 | 318 => 134 | 319 => 135 | 320 => 136 | 337 => 140 | 338 => 141 | n => n, fun | 9 => 9 | 3 => 3 | 75 => 113 | 76 => 114 | 4 => 4 | 5 => 5 | 167 => 131 | 37 => 30 | 0 => 0 | 85 => 132 | 2 => 2 | 168 => 134 | 53 => 119 | 175 => 152 | 46 => 110 | 210 => 156 | 127 => 170 | 145 => 173 | 143 => 171 | 21 => 21 | 171 => 148 | 173 => 150 | 212 => 166 | 51 => 108 | 20 => 20 | 213 => 167 | 232 => 177 | 233 => 178 | 80 => 179 | n => n, fun | 15 => 1 | 16 => 2 | 17 => 3 | 18 => 4 | 19 => 5 | n => n⟩
theorem Tryz.lays172 : Go.Proofs.Lays.n172 Tryz.prog Tryz.lays172_ren := {
 mixed := by kernel_rfl
 f129 := Tryz.func119.trans (congrArg some (by kernel_rfl))
 f171 := Tryz.func80.trans (congrArg some (by kernel_rfl))
 f172 := Tryz.func83.trans (congrArg some (by kernel_rfl))
 f205 := Tryz.func126.trans (congrArg some (by kernel_rfl))
 f243 := Tryz.func94.trans (congrArg some (by kernel_rfl))
 f244 := Tryz.func97.trans (congrArg some (by kernel_rfl))
 f245 := Tryz.func98.trans (congrArg some (by kernel_rfl))
 f246 := Tryz.func103.trans (congrArg some (by kernel_rfl))
 f247 := Tryz.func104.trans (congrArg some (by kernel_rfl))
 f279 := Tryz.func105.trans (congrArg some (by kernel_rfl))
 f280 := Tryz.func106.trans (congrArg some (by kernel_rfl))
 f281 := Tryz.func107.trans (congrArg some (by kernel_rfl))
 f282 := Tryz.func108.trans (congrArg some (by kernel_rfl))
 f283 := Tryz.func120.trans (congrArg some (by kernel_rfl))
 f284 := Tryz.func121.trans (congrArg some (by kernel_rfl))
 f285 := Tryz.func122.trans (congrArg some (by kernel_rfl))
 f286 := Tryz.func123.trans (congrArg some (by kernel_rfl))
 f287 := Tryz.func124.trans (congrArg some (by kernel_rfl))
 f316 := Tryz.func125.trans (congrArg some (by kernel_rfl))
 f317 := Tryz.func133.trans (congrArg some (by kernel_rfl))
 f318 := Tryz.func134.trans (congrArg some (by kernel_rfl))
 f319 := Tryz.func135.trans (congrArg some (by kernel_rfl))
 f320 := Tryz.func136.trans (congrArg some (by kernel_rfl))
 f321 := Tryz.func137.trans (congrArg some (by kernel_rfl))
 f322 := Tryz.func138.trans (congrArg some (by kernel_rfl))
 f337 := Tryz.func140.trans (congrArg some (by kernel_rfl))
 f338 := Tryz.func141.trans (congrArg some (by kernel_rfl))
 t0 := Tryz.underlying0
 a0 := Tryz.isAgg0
 z0 := Tryz.sizeOf0
 v0 := Tryz.zeroValue0
 t2 := Tryz.underlying2
 a2 := Tryz.isAgg2
 z2 := Tryz.sizeOf2
 v2 := Tryz.zeroValue2
 t3 := Tryz.underlying3
 a3 := Tryz.isAgg3
 z3 := Tryz.sizeOf3
 v3 := Tryz.zeroValue3
 t4 := Tryz.underlying4
 a4 := Tryz.isAgg4
 z4 := Tryz.sizeOf4
 v4 := Tryz.zeroValue4
 t5 := Tryz.underlying5
 a5 := Tryz.isAgg5
 z5 := Tryz.sizeOf5
 v5 := Tryz.zeroValue5
 t9 := Tryz.underlying9
 a9 := Tryz.isAgg9
 z9 := Tryz.sizeOf9
 v9 := Tryz.zeroValue9
 t20 := Tryz.underlying20
 a20 := Tryz.isAgg20
 z20 := Tryz.sizeOf20
 v20 := Tryz.zeroValue20
 t21 := Tryz.underlying21
 a21 := Tryz.isAgg21
 z21 := Tryz.sizeOf21
 v21 := Tryz.zeroValue21
 t37 := Tryz.underlying30
 a37 := Tryz.isAgg30
 z37 := Tryz.sizeOf30
 v37 := Tryz.zeroValue30
 t46 := Tryz.underlying110
 a46 := Tryz.isAgg110
 z46 := Tryz.sizeOf110
 v46 := Tryz.zeroValue110
 t51 := Tryz.underlying108
 a51 := Tryz.isAgg108
 z51 := Tryz.sizeOf108
 v51 := Tryz.zeroValue108
 t53 := Tryz.underlying119
 a53 := Tryz.isAgg119
 z53 := Tryz.sizeOf119
 v53 := Tryz.zeroValue119
 t75 := Tryz.underlying113
 a75 := Tryz.isAgg113
 z75 := Tryz.sizeOf113
 v75 := Tryz.zeroValue113
 t76 := Tryz.underlying114
 a76 := Tryz.isAgg114
 z76 := Tryz.sizeOf114
 v76 := Tryz.zeroValue114
 t85 := Tryz.underlying132
 a85 := Tryz.isAgg132
 z85 := Tryz.sizeOf132
 v85 := Tryz.zeroValue132
 t127 := Tryz.underlying170
 a127 := Tryz.isAgg170
 z127 := Tryz.sizeOf170
 v127 := Tryz.zeroValue170
 t143 := Tryz.underlying171
 a143 := Tryz.isAgg171
 z143 := Tryz.sizeOf171
 v143 := Tryz.zeroValue171
 t145 := Tryz.underlying173
 a145 := Tryz.isAgg173
 z145 := Tryz.sizeOf173
 v145 := Tryz.zeroValue173
 t167 := Tryz.underlying131
 a167 := Tryz.isAgg131
 z167 := Tryz.sizeOf131
 v167 := Tryz.zeroValue131
 t168 := Tryz.underlying134
 a168 := Tryz.isAgg134
 z168 := Tryz.sizeOf134
 v168 := Tryz.zeroValue134
 t171 := Tryz.underlying148
 a171 := Tryz.isAgg148
 z171 := Tryz.sizeOf148
 v171 := Tryz.zeroValue148
 t173 := Tryz.underlying150
 a173 := Tryz.isAgg150
 z173 := Tryz.sizeOf150
 v173 := Tryz.zeroValue150
 t175 := Tryz.underlying152
 a175 := Tryz.isAgg152
 z175 := Tryz.sizeOf152
 v175 := Tryz.zeroValue152
 t210 := Tryz.underlying156
 a210 := Tryz.isAgg156
 z210 := Tryz.sizeOf156
 v210 := Tryz.zeroValue156
 t212 := Tryz.underlying166
 a212 := Tryz.isAgg166
 z212 := Tryz.sizeOf166
 v212 := Tryz.zeroValue166
 t213 := Tryz.underlying167
 a213 := Tryz.isAgg167
 z213 := Tryz.sizeOf167
 t232 := Tryz.underlying177
 a232 := Tryz.isAgg177
 z232 := Tryz.sizeOf177
 v232 := Tryz.zeroValue177
 t233 := Tryz.underlying178
 a233 := Tryz.isAgg178
 z233 := Tryz.sizeOf178
 v233 := Tryz.zeroValue178
 g15 := by kernel_rfl
 g16 := by kernel_rfl
 g17 := by kernel_rfl
 g18 := by kernel_rfl
 g19 := by kernel_rfl }
open Go.RowKit in
theorem Tryz.strconv_Atoi (s : ByteArray) (n : Int) (hl : s.size ≤ 18) (h : Lib.atoi s.data.toList = some n) (w : World) :
   Calls Tryz.prog 83 #[.string s] w fun e w' => e = .returned (.tuple #[.int .i64 n, .nilIface]) ∧ ∃ t, w' = Lib.bytesWorld w 5 t := Any.strconv_Atoi Tryz.lays172 s n hl h w
def Tryz.laysM171_ren : Go.Shelf.Ren := ⟨fun | 171 => 80 | 243 => 94 | 246 => 103 | 283 => 120 | 284 => 121 | 285 => 122 | 286 => 123 | 129 => 119 | 317 => 133 | 318 => 134 | 319 => 135 | 320 => 136 | 337 => 140 | 338 => 141 | n => n, fun | 3 => 3 | 9 => 9 | 2 => 2 | 4 => 4 | 171 => 148 | 0 => 0 | 53 => 119 | 37 => 30 | 5 => 5 | 173 => 150 | 212 => 166 | 51 => 108 | 20 => 20 | 213 => 167 | 46 => 110 | 232 => 177 | 233 => 178 | n => n, fun | 17 => 3 | 18 => 4 | 19 => 5 | n => n⟩
theorem Tryz.laysM171 : Go.Proofs.LaysM.n171 Tryz.prog Tryz.laysM171_ren := {
 mixed := by kernel_rfl
 f129 := Tryz.func119.trans (congrArg some (by kernel_rfl))
 f171 := Tryz.func80.trans (congrArg some (by kernel_rfl))
 f243 := Tryz.func94.trans (congrArg some (by kernel_rfl))
 f246 := Tryz.func103.trans (congrArg some (by kernel_rfl))
 f283 := Tryz.func120.trans (congrArg some (by kernel_rfl))
 f284 := Tryz.func121.trans (congrArg some (by kernel_rfl))
 f285 := Tryz.func122.trans (congrArg some (by kernel_rfl))
 f286 := Tryz.func123.trans (congrArg some (by kernel_rfl))
 f317 := Tryz.func133.trans (congrArg some (by kernel_rfl))
 f318 := Tryz.func134.trans (congrArg some (by kernel_rfl))
 f319 := Tryz.func135.trans (congrArg some (by kernel_rfl))
 f320 := Tryz.func136.trans (congrArg some (by kernel_rfl))
 f337 := Tryz.func140.trans (congrArg some (by kernel_rfl))
 f338 := Tryz.func141.trans (congrArg some (by kernel_rfl))
 t0 := Tryz.underlying0
 a0 := Tryz.isAgg0
 z0 := Tryz.sizeOf0
 v0 := Tryz.zeroValue0
 t2 := Tryz.underlying2
 a2 := Tryz.isAgg2
 z2 := Tryz.sizeOf2
 v2 := Tryz.zeroValue2
 t3 := Tryz.underlying3
 a3 := Tryz.isAgg3
 z3 := Tryz.sizeOf3
 v3 := Tryz.zeroValue3
 t4 := Tryz.underlying4
 a4 := Tryz.isAgg4
 z4 := Tryz.sizeOf4
 v4 := Tryz.zeroValue4
 t5 := Tryz.underlying5
 a5 := Tryz.isAgg5
 z5 := Tryz.sizeOf5
 v5 := Tryz.zeroValue5
 t9 := Tryz.underlying9
 a9 := Tryz.isAgg9
 z9 := Tryz.sizeOf9
 v9 := Tryz.zeroValue9
 t20 := Tryz.underlying20
 a20 := Tryz.isAgg20
 z20 := Tryz.sizeOf20
 v20 := Tryz.zeroValue20
 t37 := Tryz.underlying30
 a37 := Tryz.isAgg30
 z37 := Tryz.sizeOf30
 v37 := Tryz.zeroValue30
 t46 := Tryz.underlying110
 a46 := Tryz.isAgg110
 z46 := Tryz.sizeOf110
 v46 := Tryz.zeroValue110
 t51 := Tryz.underlying108
 a51 := Tryz.isAgg108
 z51 := Tryz.sizeOf108
 v51 := Tryz.zeroValue108
 t53 := Tryz.underlying119
 a53 := Tryz.isAgg119
 z53 := Tryz.sizeOf119
 v53 := Tryz.zeroValue119
 t171 := Tryz.underlying148
 a171 := Tryz.isAgg148
 z171 := Tryz.sizeOf148
 v171 := Tryz.zeroValue148
 t173 := Tryz.underlying150
 a173 := Tryz.isAgg150
 z173 := Tryz.sizeOf150
 v173 := Tryz.zeroValue150
 t212 := Tryz.underlying166
 a212 := Tryz.isAgg166
 z212 := Tryz.sizeOf166
 v212 := Tryz.zeroValue166
 t213 := Tryz.underlying167
 a213 := Tryz.isAgg167
 z213 := Tryz.sizeOf167
 t232 := Tryz.underlying177
 a232 := Tryz.isAgg177
 z232 := Tryz.sizeOf177
 v232 := Tryz.zeroValue177
 t233 := Tryz.underlying178
 a233 := Tryz.isAgg178
 z233 := Tryz.sizeOf178
 v233 := Tryz.zeroValue178
 g17 := by kernel_rfl
 g18 := by kernel_rfl
 g19 := by kernel_rfl
 i0 := by kernel_rfl
 i2 := by kernel_rfl
 i3 := by kernel_rfl
 i4 := by kernel_rfl
 i5 := by kernel_rfl
 i9 := by kernel_rfl
 i20 := by kernel_rfl
 i37 := by kernel_rfl
 i46 := by kernel_rfl
 i51 := by kernel_rfl
 i53 := by kernel_rfl
 i171 := by kernel_rfl
 i173 := by kernel_rfl
 i212 := by kernel_rfl
 i232 := by kernel_rfl
 i233 := by kernel_rfl
 m17 := by kernel_rfl
 m18 := by kernel_rfl
 m19 := by kernel_rfl }
open Go.RowKit Go.Sort Go.Lib in
theorem Tryz.strconv_Itoa (n : Int) (h0 : -9223372036854775808 ≤ n) (h1 : n ≤ 9223372036854775807) (w : World) (htab : Lib.TabIs Tryz.prog w "internal/strconv.uint64pow10" .u64 Lib.pow10Tab) :
   Calls Tryz.prog 80 #[.int .i64 n] w fun e w' => e = .returned (.string ⟨(Lib.itoa n).toArray⟩) ∧ ∃ k os, w' = grow (w.drewN k) os := Any.strconv_Itoa Tryz.laysM171 n h0 h1 w htab
def Tryz.laysC172_ren : Go.Shelf.Ren := ⟨fun | 172 => 83 | 244 => 97 | 245 => 98 | 247 => 104 | 279 => 105 | 280 => 106 | 281 => 107 | 282 => 108 | 287 => 124 | 316 => 125 | 171 => 80 | 205 => 126 | 321 => 137 | 322 => 138 | 243 => 94 | 246 => 103 | 283 => 120 | 284 => 121 | 285 => 122 | 286 => 123 | 129 => 119 | 317 => 133 | 318 => 134 | 319 => 135 | 320 => 136 | 337 => 140 | 338 => 141 | n => n, fun | 9 => 9 | 3 => 3 | 75 => 113 | 76 => 114 | 4 => 4 | 5 => 5 | 167 => 131 | 37 => 30 | 0 => 0 | 85 => 132 | 2 => 2 | 168 => 134 | 53 => 119 | 175 => 152 | 46 => 110 | 210 => 156 | 127 => 170 | 145 => 173 | 143 => 171 | 21 => 21 | 171 => 148 | 173 => 150 | 212 => 166 | 51 => 108 | 20 => 20 | 213 => 167 | 232 => 177 | 233 => 178 | 80 => 179 | n => n, fun | 15 => 1 | 16 => 2 | 17 => 3 | 18 => 4 | 19 => 5 | n => n⟩
theorem Tryz.laysC172 : Go.Proofs.LaysC.n172 Tryz.prog Tryz.laysC172_ren := {
 mixed := by kernel_rfl
 f129 := Tryz.func119.trans (congrArg some (by kernel_rfl))
 f171 := Tryz.func80.trans (congrArg some (by kernel_rfl))
 f172 := Tryz.func83.trans (congrArg some (by kernel_rfl))
 f205 := Tryz.func126.trans (congrArg some (by kernel_rfl))
 f243 := Tryz.func94.trans (congrArg some (by kernel_rfl))
 f244 := Tryz.func97.trans (congrArg some (by kernel_rfl))
 f245 := Tryz.func98.trans (congrArg some (by kernel_rfl))
 f246 := Tryz.func103.trans (congrArg some (by kernel_rfl))
 f247 := Tryz.func104.trans (congrArg some (by kernel_rfl))
 f279 := Tryz.func105.trans (congrArg some (by kernel_rfl))
 f280 := Tryz.func106.trans (congrArg some (by kernel_rfl))
 f281 := Tryz.func107.trans (congrArg some (by kernel_rfl))
 f282 := Tryz.func108.trans (congrArg some (by kernel_rfl))
 f283 := Tryz.func120.trans (congrArg some (by kernel_rfl))
 f284 := Tryz.func121.trans (congrArg some (by kernel_rfl))
 f285 := Tryz.func122.trans (congrArg some (by kernel_rfl))
 f286 := Tryz.func123.trans (congrArg some (by kernel_rfl))
 f287 := Tryz.func124.trans (congrArg some (by kernel_rfl))
 f316 := Tryz.func125.trans (congrArg some (by kernel_rfl))
 f317 := Tryz.func133.trans (congrArg some (by kernel_rfl))
 f318 := Tryz.func134.trans (congrArg some (by kernel_rfl))
 f319 := Tryz.func135.trans (congrArg some (by kernel_rfl))
 f320 := Tryz.func136.trans (congrArg some (by kernel_rfl))
 f321 := Tryz.func137.trans (congrArg some (by kernel_rfl))
 f322 := Tryz.func138.trans (congrArg some (by kernel_rfl))
 f337 := Tryz.func140.trans (congrArg some (by kernel_rfl))
 f338 := Tryz.func141.trans (congrArg some (by kernel_rfl))
 t0 := Tryz.underlying0
 a0 := Tryz.isAgg0
 z0 := Tryz.sizeOf0
 v0 := Tryz.zeroValue0
 t2 := Tryz.underlying2
 a2 := Tryz.isAgg2
 z2 := Tryz.sizeOf2
 v2 := Tryz.zeroValue2
 t3 := Tryz.underlying3
 a3 := Tryz.isAgg3
 z3 := Tryz.sizeOf3
 v3 := Tryz.zeroValue3
 t4 := Tryz.underlying4
 a4 := Tryz.isAgg4
 z4 := Tryz.sizeOf4
 v4 := Tryz.zeroValue4
 t5 := Tryz.underlying5
 a5 := Tryz.isAgg5
 z5 := Tryz.sizeOf5
 v5 := Tryz.zeroValue5
 t9 := Tryz.underlying9
 a9 := Tryz.isAgg9
 z9 := Tryz.sizeOf9
 v9 := Tryz.zeroValue9
 t20 := Tryz.underlying20
 a20 := Tryz.isAgg20
 z20 := Tryz.sizeOf20
 v20 := Tryz.zeroValue20
 t21 := Tryz.underlying21
 a21 := Tryz.isAgg21
 z21 := Tryz.sizeOf21
 v21 := Tryz.zeroValue21
 t37 := Tryz.underlying30
 a37 := Tryz.isAgg30
 z37 := Tryz.sizeOf30
 v37 := Tryz.zeroValue30
 t46 := Tryz.underlying110
 a46 := Tryz.isAgg110
 z46 := Tryz.sizeOf110
 v46 := Tryz.zeroValue110
 t51 := Tryz.underlying108
 a51 := Tryz.isAgg108
 z51 := Tryz.sizeOf108
 v51 := Tryz.zeroValue108
 t53 := Tryz.underlying119
 a53 := Tryz.isAgg119
 z53 := Tryz.sizeOf119
 v53 := Tryz.zeroValue119
 t75 := Tryz.underlying113
 a75 := Tryz.isAgg113
 z75 := Tryz.sizeOf113
 v75 := Tryz.zeroValue113
 t76 := Tryz.underlying114
 a76 := Tryz.isAgg114
 z76 := Tryz.sizeOf114
 v76 := Tryz.zeroValue114
 t85 := Tryz.underlying132
 a85 := Tryz.isAgg132
 z85 := Tryz.sizeOf132
 v85 := Tryz.zeroValue132
 t127 := Tryz.underlying170
 a127 := Tryz.isAgg170
 z127 := Tryz.sizeOf170
 v127 := Tryz.zeroValue170
 t143 := Tryz.underlying171
 a143 := Tryz.isAgg171
 z143 := Tryz.sizeOf171
 v143 := Tryz.zeroValue171
 t145 := Tryz.underlying173
 a145 := Tryz.isAgg173
 z145 := Tryz.sizeOf173
 v145 := Tryz.zeroValue173
 t167 := Tryz.underlying131
 a167 := Tryz.isAgg131
 z167 := Tryz.sizeOf131
 v167 := Tryz.zeroValue131
 t168 := Tryz.underlying134
 a168 := Tryz.isAgg134
 z168 := Tryz.sizeOf134
 v168 := Tryz.zeroValue134
 t171 := Tryz.underlying148
 a171 := Tryz.isAgg148
 z171 := Tryz.sizeOf148
 v171 := Tryz.zeroValue148
 t173 := Tryz.underlying150
 a173 := Tryz.isAgg150
 z173 := Tryz.sizeOf150
 v173 := Tryz.zeroValue150
 t175 := Tryz.underlying152
 a175 := Tryz.isAgg152
 z175 := Tryz.sizeOf152
 v175 := Tryz.zeroValue152
 t210 := Tryz.underlying156
 a210 := Tryz.isAgg156
 z210 := Tryz.sizeOf156
 v210 := Tryz.zeroValue156
 t212 := Tryz.underlying166
 a212 := Tryz.isAgg166
 z212 := Tryz.sizeOf166
 v212 := Tryz.zeroValue166
 t213 := Tryz.underlying167
 a213 := Tryz.isAgg167
 z213 := Tryz.sizeOf167
 t232 := Tryz.underlying177
 a232 := Tryz.isAgg177
 z232 := Tryz.sizeOf177
 v232 := Tryz.zeroValue177
 t233 := Tryz.underlying178
 a233 := Tryz.isAgg178
 z233 := Tryz.sizeOf178
 v233 := Tryz.zeroValue178
 g15 := by kernel_rfl
 g16 := by kernel_rfl
 g17 := by kernel_rfl
 g18 := by kernel_rfl
 g19 := by kernel_rfl
 t80 := Tryz.underlying179
 a80 := Tryz.isAgg179
 z80 := Tryz.sizeOf179
 v80 := Tryz.zeroValue179
 i0 := by kernel_rfl
 i2 := by kernel_rfl
 i3 := by kernel_rfl
 i4 := by kernel_rfl
 i5 := by kernel_rfl
 i9 := by kernel_rfl
 i20 := by kernel_rfl
 i21 := by kernel_rfl
 i37 := by kernel_rfl
 i46 := by kernel_rfl
 i51 := by kernel_rfl
 i53 := by kernel_rfl
 i75 := by kernel_rfl
 i76 := by kernel_rfl
 i80 := by kernel_rfl
 i85 := by kernel_rfl
 i127 := by kernel_rfl
 i143 := by kernel_rfl
 i145 := by kernel_rfl
 i167 := by kernel_rfl
 i168 := by kernel_rfl
 i171 := by kernel_rfl
 i173 := by kernel_rfl
 i175 := by kernel_rfl
 i210 := by kernel_rfl
 i212 := by kernel_rfl
 i232 := by kernel_rfl
 i233 := by kernel_rfl
 m15 := by kernel_rfl
 m16 := by kernel_rfl
 m17 := by kernel_rfl
 m18 := by kernel_rfl
 m19 := by kernel_rfl
 c0 := by kernel_rfl
 c2 := by kernel_rfl
 c3 := by kernel_rfl
 c4 := by kernel_rfl
 c5 := by kernel_rfl
 c9 := by kernel_rfl
 c20 := by kernel_rfl
 c21 := by kernel_rfl
 c37 := by kernel_rfl
 c46 := by kernel_rfl
 c51 := by kernel_rfl
 c53 := by kernel_rfl
 c75 := by kernel_rfl
 c76 := by kernel_rfl
 c80 := by kernel_rfl
 c85 := by kernel_rfl
 c127 := by kernel_rfl
 c143 := by kernel_rfl
 c145 := by kernel_rfl
 c167 := by kernel_rfl
 c168 := by kernel_rfl
 c171 := by kernel_rfl
 c173 := by kernel_rfl
 c175 := by kernel_rfl
 c210 := by kernel_rfl
 c212 := by kernel_rfl
 c213 := by kernel_rfl
 c232 := by kernel_rfl
 c233 := by kernel_rfl }
open Go.RowKit in
theorem Tryz.strconv_Atoi_err (s : ByteArray) (hl : s.size ≤ 18) (h : Lib.atoi s.data.toList = none) (ev : Value) (w : World) (hv : w.cell? ⟨1, 0, none⟩ = some ev) (hev : ev = .nilIface ∨ ∃ te pe, ev = .iface te pe) :
   Calls Tryz.prog 83 #[.string s] w fun e w' => ∃ N, e = .returned (.tuple #[.int .i64 0, .iface 134 (.pointer (some ⟨N, 0, none⟩))]) ∧ w.heap.size ≤ N ∧ w'.heap[N]? = some (.cells #[.string ⟨#[65, 116, 111, 105]⟩, .string s, ev] 156 (0, 0)) ∧ Below w.heap.size w w' := Any.strconv_Atoi_err Tryz.laysC172 s hl h ev w hv hev
end Go.Proofs
