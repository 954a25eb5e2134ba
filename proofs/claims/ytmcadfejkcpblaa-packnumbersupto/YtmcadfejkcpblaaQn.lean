/- How to walk: every rule is an equation for the simplifier. -/
import Derived.Test.YtmcadfejkcpblaaQm
set_option linter.unusedVariables false
set_option linter.unusedSimpArgs false
namespace Go.Proofs.Ytmcadfejkcpblaa.Q
open Go Go.RowKit

/-- Neither a call of a function nor a panic. -/
def plainOp : Op → Bool
  | .call { callee := .value _, .. } => false
  | .panic _ => false
  | _ => true

section
variable (P : Program) (pr : Prim) (N : Nat)
/-- What stands behind an operation. -/
def Kop (o : Option (V × St)) (l : List COp) (e : Nat → V) (d : Option Nat) (Q : VX → (Nat → V) → St → Prop) : Prop := match o with
  | some (v, σ) => Eo P pr N l (upd e d v) σ Q
  | none => False
def KB (v : V) (a b : CC) (e : Nat → V) (σ : St) (Q : VX → (Nat → V) → St → Prop) : Prop := match v with
  | .bool true => Ev P pr N a e σ Q
  | .bool false => Ev P pr N b e σ Q
  | _ => False
def KI (v : Option V) (a b : CC) (e : Nat → V) (σ : St) (Q : VX → (Nat → V) → St → Prop) : Prop := match v with
  | some v => KB P pr N v a b e σ Q
  | _ => False
def KG (v : V) (t : Bool) (o : COp) (l : List COp) (e : Nat → V) (σ : St) (Q : VX → (Nat → V) → St → Prop) : Prop :=
  if wantC (fun _ => v) (some (0, t)) = true then Eo P pr N (o :: l) e σ Q else Eo P pr N l (upd e o.dst (.tuple [])) σ Q
def KD (D : VRes → St → Prop) (l : List COp) (la : Bool) (e : Nat → V) (d : Option Nat) (Q : VX → (Nat → V) → St → Prop) : Prop := ∃ r σ', D r σ' ∧ match r with
  | .ret v => Eo P pr N l (upd e d v) σ' Q
  | .pan v => la = true ∧ Q (.pan v) e σ'
def KC (fid : FuncId) (caps : List V) (vs : Option (List V)) (σ : St) (l : List COp) (la : Bool) (e : Nat → V) (d : Option Nat) (Q : VX → (Nat → V) → St → Prop) : Prop := match vs with
  | some vs => KD P pr N (Does P pr fid (vs ++ caps) σ) l la e d Q
  | none => False
def KY (k : Nat) (vs : Option (List V)) (σ : St) (l : List COp) (e : Nat → V) (d : Option Nat) (Q : VX → (Nat → V) → St → Prop) : Prop := match vs with
  | some vs => ∃ v σ', Round P pr k vs σ v σ' ∧ Eo P pr N l (upd e d v) σ' Q
  | none => False
def KF (f : Option V) (vs : Option (List V)) (σ : St) (l : List COp) (la : Bool) (e : Nat → V) (d : Option Nat) (Q : VX → (Nat → V) → St → Prop) : Prop := match f with
  | some (.func fid caps) => KC P pr N fid caps vs σ l la e d Q
  | some (.yld k) => KY P pr N k vs σ l e d Q
  | _ => False
def KP (v : Option V) (la : Bool) (e : Nat → V) (σ : St) (Q : VX → (Nat → V) → St → Prop) : Prop := match v with
  | some (.iface t v) => la = true ∧ Q (.pan (.iface t v)) e σ
  | _ => False
def KR (vs : Option (List V)) (σ : St) (R : VRes → St → Prop) : Prop := match vs with
  | some vs => R (.ret (vtuple vs)) σ
  | none => False
def seqC (b : CC) (Q : VX → (Nat → V) → St → Prop) : VX → (Nat → V) → St → Prop := fun x e σ => match x with
  | .normal => Ev P pr N b e σ Q
  | x => Q x e σ
end
section
variable (P : Program) (pr : Prim) (N : Nat)
def wC (ws : List (Nat × COp × List Nat)) (l : List (Bool × COp)) (la : Bool) (k : Nat) (acc : List (Nat × (Nat → V) × St)) (Q : VX → (Nat → V) → St → Prop) : VX → (Nat → V) → St → Prop := fun x e σ => match x with
  | .normal => EoW P pr N ws l la k acc e σ Q
  | .pan v => WOk P N ws acc ∧ Q (.pan v) e σ
  | _ => False
end
section
variable (P : Program) (pr : Prim) (N : Nat)
def hC (l : List (Bool × COp)) (Q : VX → (Nat → V) → St → Prop) : VX → (Nat → V) → St → Prop := fun x e σ => match x with
  | .normal => EoH P pr N l e σ Q
  | .pan v => Q (.pan v) e σ
  | _ => False
def KH (o : Option (V × St)) (l : List (Bool × COp)) (e : Nat → V) (d : Option Nat) (Q : VX → (Nat → V) → St → Prop) : Prop := match o with
  | some (v, σ) => EoH P pr N l (upd e d v) σ Q
  | none => False
end
def loopC {ι : Type} (I : ι → (Nat → V) → St → Prop) (m : ι → Nat) (i : ι) (Q : VX → (Nat → V) → St → Prop) : VX → (Nat → V) → St → Prop := fun x e σ => match x with
  | .normal => ∃ j, I j e σ ∧ m j < m i
  | x => Q x e σ

section
variable {P : Program} {pr : Prim} {N : Nat} {e : Nat → V} {σ : St} {Q : VX → (Nat → V) → St → Prop}

theorem Eo.mono : ∀ {l : List COp} {e : Nat → V} {σ : St} {K K' : VX → (Nat → V) → St → Prop}, Eo P pr N l e σ K → (∀ x e σ, K x e σ → K' x e σ) → Eo P pr N l e σ K'
  | [], e, σ, K, K', h, hk => hk _ _ _ h
  | o :: l, e, σ, K, K', h, hk => by
    rw [Eo] at h ⊢
    split at h
    · rename_i hw
      rw [if_pos hw]
      split at h
      · rename_i f args ts ho
        obtain ⟨fv, vs, h1, h2, r, σ', h3, h4⟩ := h
        refine ⟨fv, vs, h1, h2, r, σ', h3, ?_⟩
        cases r with
        | ret v => exact Eo.mono h4 hk
        | pan v => exact ⟨h4.1, hk _ _ _ h4.2⟩
      · obtain ⟨t, v, h1, h2, h3⟩ := h
        exact ⟨t, v, h1, h2, hk _ _ _ h3⟩
      · obtain ⟨v, σ', h1, h2⟩ := h
        exact ⟨v, σ', h1, Eo.mono h2 hk⟩
    · rename_i hw
      rw [if_neg hw]
      exact Eo.mono h hk

theorem Ev_region {l : List COp} : Ev P pr N (.region l) e σ Q = Eo P pr N l e σ Q := by
  apply propext
  constructor
  · rintro ⟨x, e', σ', h, q⟩
    cases h with
    | region h => exact h.mono fun x1 e1 σ1 ⟨h1, h2, h3⟩ => by rw [h1, h2, h3]; exact q
  · exact Ev.region

/-- A loop over a function. -/
def KRF (P : Program) (pr : Prim) (N : Nat) (fv : Option V) (ps : Array Tmp) (asg body : Code) (e : Nat → V) (σ : St) (Q : VX → (Nat → V) → St → Prop) : Prop := match fv with
  | some (.func fid caps) => ∃ v σ2, Does P pr fid (.yld σ.objs.length :: caps) ⟨σ.objs ++ [.lp (env N e) ps asg body], σ.toks⟩ (.ret v) σ2 ∧ ∃ x σ', lpOut σ.objs.length (env N e) σ2 = some (x, env N e, σ') ∧ Q x e σ'
  | _ => False
theorem Ev_rf {f : Operand} {ps : Array Tmp} {asg body : Code} : Ev P pr N (.rf f ps asg body) e σ Q = KRF P pr N (evs (env N e) f) ps asg body e σ Q := by
  apply propext
  constructor
  · rintro ⟨x, e', σ', h, q⟩
    cases h with
    | rf hf hd ho => rw [hf]; exact ⟨_, _, hd, _, _, ho, q⟩
  · intro h
    cases hf : evs (env N e) f with
    | none => rw [hf] at h; exact h.elim
    | some fv =>
      rw [hf] at h
      cases fv with
      | func fid caps =>
        obtain ⟨v, σ2, hd, x, σ', ho, q⟩ := h
        exact ⟨x, e, σ', .rf hf hd ho, q⟩
      | _ => exact h.elim
theorem KRF_some {fid : FuncId} {caps : List V} {ps : Array Tmp} {asg body : Code} : KRF P pr N (some (.func fid caps)) ps asg body e σ Q = ∃ v σ2, Does P pr fid (.yld σ.objs.length :: caps) ⟨σ.objs ++ [.lp (env N e) ps asg body], σ.toks⟩ (.ret v) σ2 ∧ ∃ x σ', lpOut σ.objs.length (env N e) σ2 = some (x, env N e, σ') ∧ Q x e σ' := rfl
/-- A round's slots. -/
def setE (e : Nat → V) : List Tmp → List V → Nat → V
  | p :: ps, v :: vs => setE (upd e (some p) v) ps vs
  | _, _ => e
theorem lpSet_env : ∀ (ps : List Tmp) (vs : List V) (e : Nat → V), (ps.zip vs).foldl (fun t p => t.set p.1 p.2) (env N e) = env N (setE e ps vs)
  | [], vs, e => by simp [setE]
  | p :: ps, [], e => by simp [setE]
  | p :: ps, v :: vs, e => by
    simp only [List.zip_cons_cons, List.foldl_cons, setE]
    have := vput_env N e (some p) v
    simp only [vput] at this
    rw [this]
    exact lpSet_env ps vs _
/-- A round, walked. -/
theorem Round.of {k : Nat} {ps : Array Tmp} {asg body : Code} {vs : List V} {e : Nat → V} {σ : St} {v : V} {σ' : St} {ca cb : CC} (ho : σ.objs[k]? = some (.lp (env N e) ps asg body)) (hl : vs.length = ps.size) (ha : hasRF asg = false) (hb : hasRF body = false)
    (ea : cc P pr.hot N asg = some ca) (eb : cc P pr.hot N body = some cb)
    (h : Ev P pr N ca (setE e ps.toList vs) σ fun x e1 σ1 => x = .normal ∧ ∃ t2 p2 a2 b2, σ1.objs[k]? = some (.lp t2 p2 a2 b2) ∧ Ev P pr N cb e1 ⟨σ1.objs.set k (.lpB t2 p2 a2 b2), σ1.toks⟩ fun x e2 σ2 => lpEnd k x σ2 = some (v, σ')) : Round P pr k vs σ v σ' := by
  obtain ⟨x, e1, σ1, h1, hx, t2, p2, a2, b2, h2, x2, e2, σ2, h3, h4⟩ := h
  subst hx
  obtain ⟨n, ts, g1, g2, _⟩ := h1.vexec ea
  have g2 := g2.resolve_left (fun ⟨_, h⟩ => by cases h)
  subst g2
  obtain ⟨m, ts2, g3, _⟩ := h3.vexec eb
  refine ⟨max n m + 1, ?_⟩
  rw [vround, ho]
  simp only
  rw [if_pos ⟨hl, ha, hb⟩]
  have : lpSet (env N e) ps vs = env N (setE e ps.toList vs) := lpSet_env _ _ _
  rw [this, vexec_mono (Nat.le_max_left n m) g1]
  simp only [h2]
  rw [vexec_mono (Nat.le_max_right n m) g3]
  exact h4
theorem Ev_hreg {l : List (Bool × COp)} : Ev P pr N (.hreg l) e σ Q = EoH P pr N l e σ Q := by
  apply propext
  constructor
  · rintro ⟨x, e', σ', h, q⟩
    cases h with
    | hreg h => exact h.mono (fun x1 e1 σ1 ⟨h1, h2, h3⟩ => by rw [h1, h2, h3]; exact q) (fun h hk => Eo.mono h hk)
  · intro h
    obtain ⟨x, e', σ', hk, hW⟩ := EoH.split (fun h hk => Eo.mono h hk) h
    exact ⟨x, e', σ', .hreg hW, hk⟩
theorem Kop_some {v : V} {l : List COp} {d : Option Nat} : Kop P pr N (some (v, σ)) l e d Q = Eo P pr N l (upd e d v) σ Q := propext ⟨fun h => h, fun h => h⟩
theorem KB_true {a b : CC} : KB P pr N (.bool true) a b e σ Q = Ev P pr N a e σ Q := propext ⟨fun h => h, fun h => h⟩
theorem KB_false {a b : CC} : KB P pr N (.bool false) a b e σ Q = Ev P pr N b e σ Q := propext ⟨fun h => h, fun h => h⟩
theorem KI_some {v : V} {a b : CC} : KI P pr N (some v) a b e σ Q = KB P pr N v a b e σ Q := propext ⟨fun h => h, fun h => h⟩
theorem KB.mk {t : Bool} {a b : CC} (h1 : t = true → Ev P pr N a e σ Q) (h2 : t = false → Ev P pr N b e σ Q) : KB P pr N (.bool t) a b e σ Q := by cases t; exact h2 rfl; exact h1 rfl
theorem KB.dec {p : Prop} [Decidable p] {a b : CC} (h1 : p → Ev P pr N a e σ Q) (h2 : ¬ p → Ev P pr N b e σ Q) : KB P pr N (.bool (decide p)) a b e σ Q := KB.mk (fun h => h1 (of_decide_eq_true h)) (fun h => h2 (of_decide_eq_false h))
theorem KB.ndec {p : Prop} [Decidable p] {a b : CC} (h1 : ¬ p → Ev P pr N a e σ Q) (h2 : p → Ev P pr N b e σ Q) : KB P pr N (.bool (!decide p)) a b e σ Q := KB.mk (fun h => h1 (by simpa using h)) (fun h => h2 (by simpa using h))
theorem KG_yes {t : Bool} {o : COp} {l : List COp} : KG P pr N (.bool t) t o l e σ Q = Eo P pr N (o :: l) e σ Q := by simp [KG, wantC]
theorem KG_tt {o : COp} {l : List COp} : KG P pr N (.bool true) true o l e σ Q = Eo P pr N (o :: l) e σ Q := by simp [KG, wantC]
theorem KG_ff {o : COp} {l : List COp} : KG P pr N (.bool false) false o l e σ Q = Eo P pr N (o :: l) e σ Q := by simp [KG, wantC]
theorem KG_tf {o : COp} {l : List COp} : KG P pr N (.bool true) false o l e σ Q = Eo P pr N l (upd e o.dst (.tuple [])) σ Q := by simp [KG, wantC]
theorem KG_ft {o : COp} {l : List COp} : KG P pr N (.bool false) true o l e σ Q = Eo P pr N l (upd e o.dst (.tuple [])) σ Q := by simp [KG, wantC]
theorem KG_tup {vs : List V} {t : Bool} {o : COp} {l : List COp} : KG P pr N (.tuple vs) t o l e σ Q = Eo P pr N l (upd e o.dst (.tuple [])) σ Q := by simp [KG, wantC]
theorem KG.mk {b t : Bool} {o : COp} {l : List COp} (h1 : b = t → Eo P pr N (o :: l) e σ Q) (h2 : b = !t → Eo P pr N l (upd e o.dst (.tuple [])) σ Q) : KG P pr N (.bool b) t o l e σ Q := by
  cases b <;> cases t <;> simp [KG, wantC] at h1 h2 ⊢ <;> assumption
theorem KC_some {fid : FuncId} {caps vs : List V} {l : List COp} {la : Bool} {d : Option Nat} : KC P pr N fid caps (some vs) σ l la e d Q = KD P pr N (Does P pr fid (vs ++ caps) σ) l la e d Q := propext ⟨fun h => h, fun h => h⟩
theorem KY_some {k : Nat} {vs : List V} {l : List COp} {d : Option Nat} : KY P pr N k (some vs) σ l e d Q = ∃ v σ', Round P pr k vs σ v σ' ∧ Eo P pr N l (upd e d v) σ' Q := rfl
theorem KF_yld {k : Nat} {vs : Option (List V)} {l : List COp} {la : Bool} {d : Option Nat} : KF P pr N (some (.yld k)) vs σ l la e d Q = KY P pr N k vs σ l e d Q := rfl
theorem KF_some {fid : FuncId} {caps : List V} {vs : Option (List V)} {l : List COp} {la : Bool} {d : Option Nat} : KF P pr N (some (.func fid caps)) vs σ l la e d Q = KC P pr N fid caps vs σ l la e d Q := propext ⟨fun h => h, fun h => h⟩
theorem KP_some {t : TypeId} {v : V} {la : Bool} : KP (some (.iface t v)) la e σ Q = (la = true ∧ Q (.pan (.iface t v)) e σ) := propext ⟨fun h => h, fun h => h⟩
theorem KR_some {vs : List V} {R : VRes → St → Prop} : KR (some vs) σ R = R (.ret (vtuple vs)) σ := propext ⟨fun h => h, fun h => h⟩
theorem KD.ret {D : VRes → St → Prop} {l : List COp} {la : Bool} {d : Option Nat} {v : V} {σ' : St} (h : D (.ret v) σ') (hk : Eo P pr N l (upd e d v) σ' Q) : KD P pr N D l la e d Q := ⟨_, _, h, hk⟩
theorem KD.pan {D : VRes → St → Prop} {l : List COp} {d : Option Nat} {v : V} {σ' : St} (h : D (.pan v) σ') (hk : Q (.pan v) e σ') : KD P pr N D l true e d Q := ⟨_, _, h, rfl, hk⟩

theorem Ev_if {c : Operand} {a b : CC} : Ev P pr N (.cond c a b) e σ Q = KI P pr N (evs (env N e) c) a b e σ Q := by
  apply propext
  constructor
  · rintro ⟨x, e', σ', h, q⟩
    cases h with
    | cond hc h =>
      rename_i t
      rw [hc]
      cases t
      · exact ⟨_, _, _, h, q⟩
      · exact ⟨_, _, _, h, q⟩
  · intro h
    cases hc : evs (env N e) c with
    | none => rw [hc] at h; exact h.elim
    | some v =>
      rw [hc] at h
      simp only [KI] at h
      cases v with
      | bool t =>
        rw [Ev_cond hc]
        cases t
        · exact h
        · exact h
      | _ => exact h.elim

theorem EoW_nil {ws : List (Nat × COp × List Nat)} {la : Bool} {k : Nat} {acc : List (Nat × (Nat → V) × St)} : EoW P pr N ws [] la k acc e σ Q = (WOk P N ws (pushB la k e σ acc) ∧ Q .normal e σ) := propext ⟨fun h => h, fun h => h⟩
theorem EoW_cons {ws : List (Nat × COp × List Nat)} {b la : Bool} {o : COp} {l : List (Bool × COp)} {k : Nat} {acc : List (Nat × (Nat → V) × St)} : EoW P pr N ws ((b, o) :: l) la k acc e σ Q = Eo P pr N [o] e σ (wC P pr N ws l la (k + 1) (pushB b k e σ acc) Q) := by
  rw [EoW]
  congr 1
theorem wC_normal {ws : List (Nat × COp × List Nat)} {la : Bool} {l : List (Bool × COp)} {k : Nat} {acc : List (Nat × (Nat → V) × St)} : wC P pr N ws l la k acc Q .normal e σ = EoW P pr N ws l la k acc e σ Q := propext ⟨fun h => h, fun h => h⟩
theorem wC_pan {ws : List (Nat × COp × List Nat)} {la : Bool} {l : List (Bool × COp)} {k : Nat} {acc : List (Nat × (Nat → V) × St)} {v : V} : wC P pr N ws l la k acc Q (.pan v) e σ = (WOk P N ws acc ∧ Q (.pan v) e σ) := propext ⟨fun h => h, fun h => h⟩
theorem pushB_true {k : Nat} {acc : List (Nat × (Nat → V) × St)} : pushB true k e σ acc = (k, e, σ) :: acc := rfl
theorem pushB_false {k : Nat} {acc : List (Nat × (Nat → V) × St)} : pushB false k e σ acc = acc := rfl
theorem look_nil {j : Nat} : look [] j = none := rfl
theorem look_cons {k j : Nat} {acc : List (Nat × (Nat → V) × St)} : look ((k, e, σ) :: acc) j = if j = k then some (e, σ) else look acc j := rfl
theorem WOk_nil {acc : List (Nat × (Nat → V) × St)} : WOk P N [] acc = True := propext ⟨fun h => h, fun h => h⟩
theorem WOk_cons {i : Nat} {o : COp} {js : List Nat} {ws : List (Nat × COp × List Nat)} {acc : List (Nat × (Nat → V) × St)} : WOk P N ((i, o, js) :: ws) acc = ((match look acc i with | some (e, σ) => wantC e o.guard = true → WV P N e o (vop P (env N e) σ o.op) acc js | none => True) ∧ WOk P N ws acc) := propext ⟨fun h => h, fun h => h⟩
theorem WV_some {o : COp} {v : V} {js : List Nat} {acc : List (Nat × (Nat → V) × St)} : WV P N e o (some (v, σ)) acc js = WJ P N e o v acc js := propext ⟨fun h => h, fun h => h⟩
theorem WJ_nil {o : COp} {v : V} {acc : List (Nat × (Nat → V) × St)} : WJ P N e o v acc [] = True := propext ⟨fun h => h, fun h => h⟩
theorem WJ_cons {o : COp} {v : V} {j : Nat} {js : List Nat} {acc : List (Nat × (Nat → V) × St)} : WJ P N e o v acc (j :: js) = ((match look acc j with | some (_, σ) => KQ (vop P (env N e) σ o.op) v | none => True) ∧ WJ P N e o v acc js) := propext ⟨fun h => h, fun h => h⟩
theorem KQ_some {u v : V} : KQ (some (u, σ)) v = (u = v) := by
  apply propext
  constructor
  · rintro ⟨s, h⟩
    injection h with h
    injection h
  · rintro rfl
    exact ⟨σ, rfl⟩
theorem wantC_none : wantC e none = true := rfl
theorem wantC_tt {d : Nat} {b : Bool} (h : e d = .bool b) : wantC e (some (d, b)) = true := by simp [wantC, h]

theorem EoW.mono {ws : List (Nat × COp × List Nat)} : ∀ {l : List (Bool × COp)} {la : Bool} {k : Nat} {acc : List (Nat × (Nat → V) × St)} {e : Nat → V} {σ : St} {K K' : VX → (Nat → V) → St → Prop}, EoW P pr N ws l la k acc e σ K → (∀ x e σ, K x e σ → K' x e σ) → EoW P pr N ws l la k acc e σ K'
  | [], la, k, acc, e, σ, K, K', h, hk => ⟨h.1, hk _ _ _ h.2⟩
  | (b, o) :: l, la, k, acc, e, σ, K, K', h, hk => by
    rw [EoW_cons] at h ⊢
    refine Eo.mono h fun x e σ hx => ?_
    cases x with
    | normal => exact EoW.mono hx hk
    | pan v => exact ⟨hx.1, hk _ _ _ hx.2⟩
    | _ => exact hx

theorem EoW.split {ws : List (Nat × COp × List Nat)} : ∀ {l : List (Bool × COp)} {la : Bool} {k : Nat} {acc : List (Nat × (Nat → V) × St)} {e : Nat → V} {σ : St} {K : VX → (Nat → V) → St → Prop}, EoW P pr N ws l la k acc e σ K → ∃ x e' σ', K x e' σ' ∧ EoW P pr N ws l la k acc e σ fun x1 e1 σ1 => x1 = x ∧ e1 = e' ∧ σ1 = σ'
  | [], la, k, acc, e, σ, K, h => ⟨_, _, _, h.2, h.1, rfl, rfl, rfl⟩
  | (b, o) :: l, la, k, acc, e, σ, K, h => by
    rw [EoW_cons] at h
    obtain ⟨x, e1, σ1, hx, hE⟩ := Eo.split h
    cases x with
    | normal =>
      obtain ⟨x2, e2, σ2, hk, hW⟩ := EoW.split hx
      refine ⟨x2, e2, σ2, hk, ?_⟩
      rw [EoW_cons]
      exact Eo.mono hE fun x e σ ⟨q1, q2, q3⟩ => by subst q1 q2 q3; exact hW
    | pan v =>
      refine ⟨_, _, _, hx.2, ?_⟩
      rw [EoW_cons]
      exact Eo.mono hE fun x e σ ⟨q1, q2, q3⟩ => by subst q1 q2 q3; exact ⟨hx.1, rfl, rfl, rfl⟩
    | _ => exact hx.elim

theorem Ev_wregion {ws : List (Nat × COp × List Nat)} {l : List (Bool × COp)} {la : Bool} : Ev P pr N (.wregion l la ws) e σ Q = EoW P pr N ws l la 0 [] e σ Q := by
  apply propext
  constructor
  · rintro ⟨x, e', σ', h, q⟩
    cases h with
    | wregion h => exact h.mono fun x1 e1 σ1 ⟨h1, h2, h3⟩ => by rw [h1, h2, h3]; exact q
  · intro h
    obtain ⟨x, e', σ', hk, hW⟩ := EoW.split h
    exact ⟨x, e', σ', .wregion hW, hk⟩

theorem EoH_nil : EoH P pr N [] e σ Q = Q .normal e σ := propext ⟨fun h => h, fun h => h⟩
theorem EoH_cold {o : COp} {l : List (Bool × COp)} : EoH P pr N ((false, o) :: l) e σ Q = Eo P pr N [o] e σ (hC P pr N l Q) := by
  rw [EoH, if_neg (by decide)]
  rfl
theorem hC_normal {l : List (Bool × COp)} : hC P pr N l Q .normal e σ = EoH P pr N l e σ Q := rfl
theorem hC_pan {l : List (Bool × COp)} {v : V} : hC P pr N l Q (.pan v) e σ = Q (.pan v) e σ := rfl
theorem EoH_hot {d : Option Nat} {op : Op} {la : Bool} {l : List (Bool × COp)} : EoH P pr N ((true, ⟨d, op, none, la⟩) :: l) e σ Q = KH P pr N (vhot P (env N e) σ op) l e d Q := by
  rw [EoH, if_pos rfl, if_pos (show wantC e none = true from rfl)]
  apply propext
  constructor
  · rintro ⟨v, σ', h1, h2⟩
    rw [h1]; exact h2
  · intro h
    cases hv : vhot P (env N e) σ op with
    | none => rw [hv] at h; exact h.elim
    | some r => rw [hv] at h; exact ⟨r.1, r.2, rfl, h⟩
theorem KH_some {v : V} {l : List (Bool × COp)} {d : Option Nat} : KH P pr N (some (v, σ)) l e d Q = EoH P pr N l (upd e d v) σ Q := rfl

theorem Ev_seq' {a b : CC} : Ev P pr N (.seq a b) e σ Q = Ev P pr N a e σ (seqC P pr N b Q) := propext Ev_seq
theorem Ev.loop' {ι : Type} {c : CC} (I : ι → (Nat → V) → St → Prop) (m : ι → Nat) (i : ι) (hi : I i e σ) (h : ∀ i e σ, I i e σ → Ev P pr N c e σ (loopC I m i Q)) : Ev P pr N (.loop c) e σ Q := Ev.loop I m h i hi
theorem Ev_block' {id : Nat} {c : CC} : Ev P pr N (.block id c) e σ Q = Ev P pr N c e σ (blockK id Q) := propext Ev_block
theorem Ev_skip' : Ev P pr N .skip e σ Q = Q .normal e σ := propext Ev_skip
theorem Ev_exit' {id : Nat} : Ev P pr N (.exit id) e σ Q = Q (.exit id) e σ := propext Ev_exit
theorem Ev_ret' : Ev P pr N .ret e σ Q = Q .ret e σ := propext Ev_ret

theorem Eo_nil : Eo P pr N [] e σ Q = Q .normal e σ := propext ⟨fun h => h, fun h => h⟩
theorem Eo_op {d : Option Nat} {op : Op} {la : Bool} {l : List COp} (h : plainOp op = true) : Eo P pr N (⟨d, op, none, la⟩ :: l) e σ Q = Kop P pr N (vop P (env N e) σ op) l e d Q := by
  rw [Eo]
  simp only [wantC, if_true]
  split
  · simp [plainOp] at h
  · simp [plainOp] at h
  · apply propext
    constructor
    · rintro ⟨v, σ', h1, h2⟩
      rw [h1]; exact h2
    · intro h
      cases hv : vop P (env N e) σ op with
      | none => rw [hv] at h; exact h.elim
      | some r => rw [hv] at h; exact ⟨r.1, r.2, rfl, h⟩
theorem Eo_move {d : Option Nat} {la : Bool} {l : List COp} {x : Operand} : Eo P pr N (⟨d, .move x, none, la⟩ :: l) e σ Q = Kop P pr N (vop P (env N e) σ (.move x)) l e d Q := Eo_op rfl
theorem Eo_assign {d : Option Nat} {la : Bool} {l : List COp} {x : Operand} : Eo P pr N (⟨d, .assign x, none, la⟩ :: l) e σ Q = Kop P pr N (vop P (env N e) σ (.assign x)) l e d Q := Eo_op rfl
theorem Eo_pick {d : Option Nat} {la : Bool} {l : List COp} {x : Operand} {y : Operand} {z : Operand} : Eo P pr N (⟨d, .pick x y z, none, la⟩ :: l) e σ Q = Kop P pr N (vop P (env N e) σ (.pick x y z)) l e d Q := Eo_op rfl
theorem Eo_alloc {d : Option Nat} {la : Bool} {l : List COp} {t : TypeId} : Eo P pr N (⟨d, .alloc t, none, la⟩ :: l) e σ Q = Kop P pr N (vop P (env N e) σ (.alloc t)) l e d Q := Eo_op rfl
theorem Eo_box {d : Option Nat} {la : Bool} {l : List COp} {t : TypeId} {x : Operand} : Eo P pr N (⟨d, .box t x, none, la⟩ :: l) e σ Q = Kop P pr N (vop P (env N e) σ (.box t x)) l e d Q := Eo_op rfl
theorem Eo_build {d : Option Nat} {la : Bool} {l : List COp} {t : TypeId} {ps : Array (Nat × Operand)} : Eo P pr N (⟨d, .build t ps, none, la⟩ :: l) e σ Q = Kop P pr N (vop P (env N e) σ (.build t ps)) l e d Q := Eo_op rfl
theorem Eo_buildSlice {d : Option Nat} {la : Bool} {l : List COp} {t : TypeId} {n : Nat} {ps : Array (Nat × Operand)} : Eo P pr N (⟨d, .buildSlice t n ps, none, la⟩ :: l) e σ Q = Kop P pr N (vop P (env N e) σ (.buildSlice t n ps)) l e d Q := Eo_op rfl
theorem Eo_load {d : Option Nat} {la : Bool} {l : List COp} {t : TypeId} {x : Operand} : Eo P pr N (⟨d, .load t x, none, la⟩ :: l) e σ Q = Kop P pr N (vop P (env N e) σ (.load t x)) l e d Q := Eo_op rfl
theorem Eo_store {d : Option Nat} {la : Bool} {l : List COp} {t : TypeId} {x : Operand} {y : Operand} : Eo P pr N (⟨d, .store t x y, none, la⟩ :: l) e σ Q = Kop P pr N (vop P (env N e) σ (.store t x y)) l e d Q := Eo_op rfl
theorem Eo_nilCheck {d : Option Nat} {la : Bool} {l : List COp} {x : Operand} : Eo P pr N (⟨d, .nilCheck x, none, la⟩ :: l) e σ Q = Kop P pr N (vop P (env N e) σ (.nilCheck x)) l e d Q := Eo_op rfl
theorem Eo_binOp {d : Option Nat} {la : Bool} {l : List COp} {b : BinOp} {t : TypeId} {x : Operand} {y : Operand} {t2 : TypeId} : Eo P pr N (⟨d, .binOp b t x y t2, none, la⟩ :: l) e σ Q = Kop P pr N (vop P (env N e) σ (.binOp b t x y t2)) l e d Q := Eo_op rfl
theorem Eo_unOp {d : Option Nat} {la : Bool} {l : List COp} {b : UnOp} {t : TypeId} {x : Operand} : Eo P pr N (⟨d, .unOp b t x, none, la⟩ :: l) e σ Q = Kop P pr N (vop P (env N e) σ (.unOp b t x)) l e d Q := Eo_op rfl
theorem Eo_convert {d : Option Nat} {la : Bool} {l : List COp} {t : TypeId} {t2 : TypeId} {x : Operand} : Eo P pr N (⟨d, .convert t t2 x, none, la⟩ :: l) e σ Q = Kop P pr N (vop P (env N e) σ (.convert t t2 x)) l e d Q := Eo_op rfl
theorem Eo_makeInterface {d : Option Nat} {la : Bool} {l : List COp} {t : TypeId} {x : Operand} : Eo P pr N (⟨d, .makeInterface t x, none, la⟩ :: l) e σ Q = Kop P pr N (vop P (env N e) σ (.makeInterface t x)) l e d Q := Eo_op rfl
theorem Eo_makeFunc {d : Option Nat} {la : Bool} {l : List COp} {f : Fn} {as_ : Array Operand} {bs : Array Operand} : Eo P pr N (⟨d, .makeFunc f as_ bs, none, la⟩ :: l) e σ Q = Kop P pr N (vop P (env N e) σ (.makeFunc f as_ bs)) l e d Q := Eo_op rfl
theorem Eo_makeSlice {d : Option Nat} {la : Bool} {l : List COp} {t : TypeId} {x : Operand} {y : Operand} : Eo P pr N (⟨d, .makeSlice t x y, none, la⟩ :: l) e σ Q = Kop P pr N (vop P (env N e) σ (.makeSlice t x y)) l e d Q := Eo_op rfl
theorem Eo_slice {d : Option Nat} {la : Bool} {l : List COp} {t : TypeId} {x : Operand} {lo : Option Operand} {hi : Option Operand} {mx : Option Operand} : Eo P pr N (⟨d, .slice t x lo hi mx, none, la⟩ :: l) e σ Q = Kop P pr N (vop P (env N e) σ (.slice t x lo hi mx)) l e d Q := Eo_op rfl
theorem Eo_fieldAddr {d : Option Nat} {la : Bool} {l : List COp} {t : TypeId} {x : Operand} {n : Nat} : Eo P pr N (⟨d, .fieldAddr t x n, none, la⟩ :: l) e σ Q = Kop P pr N (vop P (env N e) σ (.fieldAddr t x n)) l e d Q := Eo_op rfl
theorem Eo_field {d : Option Nat} {la : Bool} {l : List COp} {t : TypeId} {x : Operand} {n : Nat} : Eo P pr N (⟨d, .field t x n, none, la⟩ :: l) e σ Q = Kop P pr N (vop P (env N e) σ (.field t x n)) l e d Q := Eo_op rfl
theorem Eo_indexAddr {d : Option Nat} {la : Bool} {l : List COp} {t : TypeId} {x : Operand} {y : Operand} : Eo P pr N (⟨d, .indexAddr t x y, none, la⟩ :: l) e σ Q = Kop P pr N (vop P (env N e) σ (.indexAddr t x y)) l e d Q := Eo_op rfl
theorem Eo_index {d : Option Nat} {la : Bool} {l : List COp} {t : TypeId} {x : Operand} {y : Operand} : Eo P pr N (⟨d, .index t x y, none, la⟩ :: l) e σ Q = Kop P pr N (vop P (env N e) σ (.index t x y)) l e d Q := Eo_op rfl
theorem Eo_typeAssert {d : Option Nat} {la : Bool} {l : List COp} {x : Operand} {t t2 : TypeId} {b : Bool} : Eo P pr N (⟨d, .typeAssert x t t2 b, none, la⟩ :: l) e σ Q = Kop P pr N (vop P (env N e) σ (.typeAssert x t t2 b)) l e d Q := Eo_op rfl
theorem Eo_makeMap {d : Option Nat} {la : Bool} {l : List COp} {t : TypeId} {r : Option Operand} : Eo P pr N (⟨d, .makeMap t r, none, la⟩ :: l) e σ Q = Kop P pr N (vop P (env N e) σ (.makeMap t r)) l e d Q := Eo_op rfl
theorem Eo_insert {d : Option Nat} {la : Bool} {l : List COp} {t : TypeId} {x y z : Operand} : Eo P pr N (⟨d, .insert t x y z, none, la⟩ :: l) e σ Q = Kop P pr N (vop P (env N e) σ (.insert t x y z)) l e d Q := Eo_op rfl
theorem Eo_mapUpdate {d : Option Nat} {la : Bool} {l : List COp} {t : TypeId} {x y z : Operand} : Eo P pr N (⟨d, .mapUpdate t x y z, none, la⟩ :: l) e σ Q = Kop P pr N (vop P (env N e) σ (.mapUpdate t x y z)) l e d Q := Eo_op rfl
theorem Eo_lookup {d : Option Nat} {la : Bool} {l : List COp} {t : TypeId} {x y : Operand} {b : Bool} : Eo P pr N (⟨d, .lookup t x y b, none, la⟩ :: l) e σ Q = Kop P pr N (vop P (env N e) σ (.lookup t x y b)) l e d Q := Eo_op rfl
theorem Eo_extract {d : Option Nat} {la : Bool} {l : List COp} {x : Operand} {n : Nat} : Eo P pr N (⟨d, .extract x n, none, la⟩ :: l) e σ Q = Kop P pr N (vop P (env N e) σ (.extract x n)) l e d Q := Eo_op rfl
theorem Eo_builtin {d : Option Nat} {la : Bool} {l : List COp} {b : Builtin} {as_ : Array Operand} {ts : Array TypeId} : Eo P pr N (⟨d, .call { callee := .builtin b, args := as_, argTypes := ts }, none, la⟩ :: l) e σ Q = Kop P pr N (vop P (env N e) σ (.call { callee := .builtin b, args := as_, argTypes := ts })) l e d Q := Eo_op rfl
theorem Eo_guard {d : Option Nat} {op : Op} {la : Bool} {l : List COp} {t : Nat} {b : Bool} : Eo P pr N (⟨d, op, some (t, b), la⟩ :: l) e σ Q = KG P pr N (e t) b ⟨d, op, none, la⟩ l e σ Q := by
  rw [Eo]
  unfold KG
  by_cases h : wantC e (some (t, b)) = true
  · rw [if_pos h, if_pos (show wantC (fun _ => e t) (some (0, b)) = true from h)]
    conv => rhs; rw [Eo]
    rfl
  · rw [if_neg h, if_neg (show ¬ wantC (fun _ => e t) (some (0, b)) = true from h)]
theorem Eo_callv {d : Option Nat} {f : Operand} {args : Array Operand} {ts : Array TypeId} {la : Bool} {l : List COp} : Eo P pr N (⟨d, .call { callee := .value f, args := args, argTypes := ts }, none, la⟩ :: l) e σ Q =
    KF P pr N (evs (env N e) f) (evAll (env N e) args.toList) σ l la e d Q := by
  rw [Eo]
  simp only [wantC, if_true]
  apply propext
  constructor
  · rintro ⟨fv, vs, h1, h2, r, σ', h3, h4⟩
    rw [h1, h2]
    cases fv with
    | func fid caps => exact ⟨r, σ', h3, h4⟩
    | yld k => obtain ⟨v, rfl, h3⟩ := h3; exact ⟨v, σ', h3, h4⟩
    | _ => exact h3.elim
  · intro h
    cases hf : evs (env N e) f with
    | none => rw [hf] at h; exact h.elim
    | some v =>
      rw [hf] at h
      cases v with
      | func fid caps =>
        cases hv : evAll (env N e) args.toList with
        | none => rw [hv] at h; exact h.elim
        | some vs =>
          rw [hv] at h
          obtain ⟨r, σ', h3, h4⟩ := h
          exact ⟨_, vs, rfl, rfl, r, σ', h3, h4⟩
      | yld k =>
        cases hv : evAll (env N e) args.toList with
        | none => rw [hv] at h; exact h.elim
        | some vs =>
          rw [hv] at h
          obtain ⟨v, σ', h3, h4⟩ := h
          exact ⟨_, vs, rfl, rfl, .ret v, σ', ⟨v, rfl, h3⟩, h4⟩
      | _ => exact h.elim
theorem Eo_call {d : Option Nat} {fid : FuncId} {args : Array Operand} {ts : Array TypeId} {la : Bool} {l : List COp} : Eo P pr N (⟨d, .call { callee := .value (.func fid), args := args, argTypes := ts }, none, la⟩ :: l) e σ Q =
    KC P pr N fid [] (evAll (env N e) args.toList) σ l la e d Q := Eo_callv
theorem Eo_panic {d : Option Nat} {x : Operand} {la : Bool} {l : List COp} : Eo P pr N (⟨d, .panic x, none, la⟩ :: l) e σ Q = KP (evs (env N e) x) la e σ Q := by
  rw [Eo]
  simp only [wantC, if_true]
  apply propext
  constructor
  · rintro ⟨t, v, h1, h2, h3⟩
    rw [h1]; exact ⟨h2, h3⟩
  · intro h
    cases hx : evs (env N e) x with
    | none => rw [hx] at h; exact h.elim
    | some v =>
      rw [hx] at h
      cases v with
      | iface t v => exact ⟨t, v, rfl, h.1, h.2⟩
      | _ => exact h.elim

theorem seqC_normal {b : CC} : seqC P pr N b Q .normal e σ = Ev P pr N b e σ Q := propext ⟨fun h => h, fun h => h⟩
theorem seqC_exit {b : CC} {i : Nat} : seqC P pr N b Q (.exit i) e σ = Q (.exit i) e σ := propext ⟨fun h => h, fun h => h⟩
theorem seqC_ret {b : CC} : seqC P pr N b Q .ret e σ = Q .ret e σ := propext ⟨fun h => h, fun h => h⟩
theorem seqC_pan {b : CC} {v : V} : seqC P pr N b Q (.pan v) e σ = Q (.pan v) e σ := propext ⟨fun h => h, fun h => h⟩
theorem loopC_normal {ι : Type} {I : ι → (Nat → V) → St → Prop} {m : ι → Nat} {i : ι} : loopC I m i Q .normal e σ = ∃ j, I j e σ ∧ m j < m i := propext ⟨fun h => h, fun h => h⟩
theorem loopC_exit {ι : Type} {I : ι → (Nat → V) → St → Prop} {m : ι → Nat} {i : ι} {k : Nat} : loopC I m i Q (.exit k) e σ = Q (.exit k) e σ := propext ⟨fun h => h, fun h => h⟩
theorem loopC_ret {ι : Type} {I : ι → (Nat → V) → St → Prop} {m : ι → Nat} {i : ι} : loopC I m i Q .ret e σ = Q .ret e σ := propext ⟨fun h => h, fun h => h⟩
theorem loopC_pan {ι : Type} {I : ι → (Nat → V) → St → Prop} {m : ι → Nat} {i : ι} {v : V} : loopC I m i Q (.pan v) e σ = Q (.pan v) e σ := propext ⟨fun h => h, fun h => h⟩
theorem blockK_normal {i : Nat} : blockK i Q .normal e σ = Q .normal e σ := propext ⟨fun h => h, fun h => h⟩
theorem blockK_exit {i : Nat} : blockK i Q (.exit i) e σ = Q .normal e σ := by simp [blockK]
theorem blockK_exit_ne {i j : Nat} (h : j ≠ i) : blockK i Q (.exit j) e σ = Q (.exit j) e σ := by simp [blockK, h]
theorem blockK_ret {i : Nat} : blockK i Q .ret e σ = Q .ret e σ := propext ⟨fun h => h, fun h => h⟩
theorem blockK_pan {i : Nat} {v : V} : blockK i Q (.pan v) e σ = Q (.pan v) e σ := propext ⟨fun h => h, fun h => h⟩
theorem fnK_normal {rs : List ResultVar} {R : VRes → St → Prop} : fnK P N rs R .normal e σ = KR (vresults P σ (env N e) rs) σ R := by
  apply propext
  constructor
  · rintro ⟨vs, h1, h2⟩; rw [h1]; exact h2
  · intro h
    cases hv : vresults P σ (env N e) rs with
    | none => rw [hv] at h; exact h.elim
    | some vs => rw [hv] at h; exact ⟨vs, hv, h⟩
theorem fnK_ret {rs : List ResultVar} {R : VRes → St → Prop} : fnK P N rs R .ret e σ = KR (vresults P σ (env N e) rs) σ R := fnK_normal
theorem fnK_pan {rs : List ResultVar} {R : VRes → St → Prop} {v : V} : fnK P N rs R (.pan v) e σ = R (.pan v) σ := propext ⟨fun h => h, fun h => h⟩

theorem upd_some {d k : Nat} {v : V} : upd e (some d) v k = if k = d then v else e k := rfl
theorem upd_none {v : V} : upd e none v = e := rfl
theorem evs_const {v : Value} {tmps : List V} : evs tmps (.const v) = ofVal v := rfl
theorem evs_func {f : FuncId} {tmps : List V} : evs tmps (.func f) = some (.func f []) := rfl
theorem ofVal_int {k : IntKind} {n : Int} : ofVal (.int k n) = some (.int k n) := rfl
theorem ofVal_bool {b : Bool} : ofVal (.bool b) = some (.bool b) := rfl
theorem vresults_tmp {rs : List ResultVar} {t : Nat} (h : t < N) : vresults P σ (env N e) (.tmp t :: rs) = (vresults P σ (env N e) rs).map (e t :: ·) := by
  rw [vresults, env_getD h]
  cases vresults P σ (env N e) rs <;> rfl
end

section
variable {P : Program} {N : Nat} {e : Nat → V} {σ : St}
theorem vresults_nil {tmps : List V} : vresults P σ tmps [] = some [] := rfl
theorem vresults_cell {rs : List ResultVar} {a t : Nat} (h : a < N) : vresults P σ (env N e) (.cell a t :: rs) = match vload P σ.objs t (e a), vresults P σ (env N e) rs with
    | some v, some vs => some (v :: vs)
    | _, _ => none := by
  rw [vresults, env_getD h]
  rfl
theorem vtuple_0 : vtuple [] = .tuple [] := rfl
theorem vtuple_1 {v : V} : vtuple [v] = v := rfl
theorem vtuple_2 {v w : V} {l : List V} : vtuple (v :: w :: l) = .tuple (v :: w :: l) := rfl
end

section
variable {P : Program} {t : TypeId} {xo yo : Operand} {k : IntKind} {a b : Int}
theorem vbin_add : vbin P .add t xo yo (.int k a) (.int k b) = some (.int k (k.wrap (a + b))) := by simp [vbin, intBin]
theorem vbin_sub : vbin P .sub t xo yo (.int k a) (.int k b) = some (.int k (k.wrap (a - b))) := by simp [vbin, intBin]
theorem vbin_mul : vbin P .mul t xo yo (.int k a) (.int k b) = some (.int k (k.wrap (a * b))) := by simp [vbin, intBin]
theorem vbin_quo : vbin P .quo t xo yo (.int k a) (.int k b) = if b = 0 then none else some (.int k (k.wrap (a.tdiv b))) := by simp [vbin, intBin]
theorem vbin_rem : vbin P .rem t xo yo (.int k a) (.int k b) = if b = 0 then none else some (.int k (a.tmod b)) := by simp [vbin, intBin]
theorem vbin_eql : vbin P .eql t xo yo (.int k a) (.int k b) = some (.bool (decide (a = b))) := by simp [vbin, intBin]
theorem vbin_neq : vbin P .neq t xo yo (.int k a) (.int k b) = some (.bool (!decide (a = b))) := by simp [vbin, intBin]
theorem vbin_lss : vbin P .lss t xo yo (.int k a) (.int k b) = some (.bool (decide (a < b))) := by simp [vbin, intBin]
theorem vbin_leq : vbin P .leq t xo yo (.int k a) (.int k b) = some (.bool (decide (a ≤ b))) := by simp [vbin, intBin]
theorem vbin_gtr : vbin P .gtr t xo yo (.int k a) (.int k b) = some (.bool (decide (b < a))) := by simp [vbin, intBin]
theorem vbin_geq : vbin P .geq t xo yo (.int k a) (.int k b) = some (.bool (decide (b ≤ a))) := by simp [vbin, intBin]
theorem vbin_and : vbin P .and t xo yo (.int k a) (.int k b) = (bitOp .and k a b).map (.int k) := by simp [vbin, intBin]
theorem vbin_or : vbin P .or t xo yo (.int k a) (.int k b) = (bitOp .or k a b).map (.int k) := by simp [vbin, intBin]
theorem vbin_xor : vbin P .xor t xo yo (.int k a) (.int k b) = (bitOp .xor k a b).map (.int k) := by simp [vbin, intBin]
theorem vbin_andNot : vbin P .andNot t xo yo (.int k a) (.int k b) = (bitOp .andNot k a b).map (.int k) := by simp [vbin, intBin]
theorem vbin_shl {k' : IntKind} : vbin P .shl t xo yo (.int k a) (.int k' b) = if b < 0 then none else some (.int k (k.wrap (a * 2 ^ (min b.toNat k.bits)))) := by simp [vbin, shiftBin]
theorem vbin_shr {k' : IntKind} : vbin P .shr t xo yo (.int k a) (.int k' b) = if b < 0 then none else some (.int k (a / 2 ^ (min b.toNat k.bits))) := by simp [vbin, shiftBin]
theorem vbin_str {op : BinOp} {x y : List UInt8} : vbin P op t xo yo (.str x) (.str y) = strBin op x y := by simp [vbin]
theorem vbin_beq {x y : Bool} (ht : P.underlying t = some .bool) : vbin P .eql t xo yo (.bool x) (.bool y) = some (.bool (x == y)) := by simp [vbin, bothSame, guardFree, aggEq, ht]
theorem vbin_bne {x y : Bool} (ht : P.underlying t = some .bool) : vbin P .neq t xo yo (.bool x) (.bool y) = some (.bool (!(x == y))) := by simp [vbin, bothSame, guardFree, aggEq, ht]
end

/-! ### Numbers -/
theorem wrap_i64 {x : Int} (h1 : -9223372036854775808 ≤ x) (h2 : x ≤ 9223372036854775807) : IntKind.i64.wrap x = x := by
  unfold IntKind.wrap
  simp [IntKind.bits, IntKind.signed, IntKind.max, IntKind.min]
  split <;> omega
theorem wrap_u8 {x : Int} (h1 : 0 ≤ x) (h2 : x ≤ 255) : IntKind.u8.wrap x = x := by
  unfold IntKind.wrap
  simp [IntKind.bits, IntKind.signed, IntKind.max, IntKind.min]
  omega
end Go.Proofs.Ytmcadfejkcpblaa.Q
