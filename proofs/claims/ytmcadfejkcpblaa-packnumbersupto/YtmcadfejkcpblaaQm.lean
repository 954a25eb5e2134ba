/- Code without its ornaments, and rules to walk through it. -/
import Derived.Test.YtmcadfejkcpblaaQl
set_option linter.unusedVariables false
set_option linter.unusedSimpArgs false
namespace Go.Proofs.Ytmcadfejkcpblaa.Q
open Go Go.RowKit

structure COp where
  dst : Option Nat
  op : Op
  guard : Option (Nat × Bool)
  last : Bool

/-! short forms, for the code that is written down -/
abbrev o (d : Nat) (p : Op) : COp := ⟨some d, p, none, true⟩
abbrev oT (d : Nat) (p : Op) (j : Nat) : COp := ⟨some d, p, some (j, true), true⟩
abbrev oF (d : Nat) (p : Op) (j : Nat) : COp := ⟨some d, p, some (j, false), true⟩
abbrev oX (d : Nat) (p : Op) : COp := ⟨some d, p, none, false⟩
abbrev oS (t a b : Nat) : COp := ⟨none, .store t (.tmp a) (.tmp b), none, true⟩
abbrev pM (a : Nat) : Op := .move (.tmp a)
abbrev pA (a : Nat) : Op := .assign (.tmp a)
abbrev pL (t a : Nat) : Op := .load t (.tmp a)
abbrev pF (t a k : Nat) : Op := .fieldAddr t (.tmp a) k
abbrev pI (t a b : Nat) : Op := .indexAddr t (.tmp a) (.tmp b)
abbrev pN (a t : Nat) : Op := .call { callee := .builtin .len, args := #[.tmp a], argTypes := #[t] }
abbrev pQ (a b t u : Nat) : Op := .call { callee := .builtin .append, args := #[.tmp a, .tmp b], argTypes := #[t, u] }
abbrev pC (f a t : Nat) : Op := .call { callee := .value (.func f), args := #[.tmp a], argTypes := #[t] }
abbrev pD (f a b t u : Nat) : Op := .call { callee := .value (.func f), args := #[.tmp a, .tmp b], argTypes := #[t, u] }
abbrev pB (x : BinOp) (t a b u : Nat) : Op := .binOp x t (.tmp a) (.tmp b) u
abbrev pK (x : BinOp) (t a : Nat) (k : IntKind) (n : Int) (u : Nat) : Op := .binOp x t (.tmp a) (.const (.int k n)) u
abbrev pZ (k : IntKind) (n : Int) : Op := .assign (.const (.int k n))
abbrev pW (k : IntKind) (n : Int) : Op := .move (.const (.int k n))
abbrev pO (b : Bool) : Op := .assign (.const (.bool b))
abbrev pU (a b : Nat) : Op := .pick (.tmp a) (.tmp b) (.const (.bool false))
abbrev pV (a b : Nat) : Op := .pick (.tmp a) (.const (.bool true)) (.tmp b)
abbrev pX (a i : Nat) : Op := .extract (.tmp a) i

inductive CC where
  | skip
  | exit (id : Nat)
  | ret
  | region (l : List COp)
  | wregion (l : List (Bool × COp)) (la : Bool) (ws : List (Nat × COp × List Nat))
  | hreg (l : List (Bool × COp))
  | seq (a b : CC)
  | cond (c : Operand) (a b : CC)
  | block (id : Nat) (c : CC)
  | loop (c : CC)
  | rf (f : Operand) (ps : Array Tmp) (asg body : Code)

def cop (N : Nat) (ops : Array Oper) (draw : Bool) (o : Oper) (i : Nat) : Option COp :=
  match o.guard with
  | none => some ⟨o.dst, o.op, none, !draw || lastOk ops i⟩
  | some (j, b) => match (ops[j]?).bind (·.dst) with
    | some d => if d < N then some ⟨o.dst, o.op, some (d, b), !draw || lastOk ops i⟩ else none
    | none => none

def cops (N : Nat) (ops : Array Oper) (draw : Bool) : List Oper → Nat → Option (List COp)
  | [], _ => some []
  | o :: l, i => match cop N ops draw o i, cops N ops draw l (i + 1) with
    | some c, some cs => some (c :: cs)
    | _, _ => none

/-- The places at which a region's state is looked at again. -/
def flagged (ops : Array Oper) (k : Nat) : Bool := (watch ops).any fun w => w.1 == k || w.2.contains k
def flags (ops : Array Oper) : Nat → List COp → List (Bool × COp)
  | _, [] => []
  | k, c :: cs => (flagged ops k, c) :: flags ops (k + 1) cs
def wchk (cl : List COp) : List (Nat × List Nat) → Option (List (Nat × COp × List Nat))
  | [] => some []
  | (i, js) :: ws => match cl[i]?, wchk cl ws with
    | some c, some r => some ((i, c, js) :: r)
    | _, _ => none
def wreg (ops : Array Oper) (cl : List COp) : Option CC := match wchk cl (watch ops) with
  | some ws => some (.wregion (flags ops 0 cl) (flagged ops cl.length) ws)
  | none => none

/-- Which operations make rows that are objects. -/
def hotCl (hot : Oper → Bool) : List Oper → List COp → List (Bool × COp)
  | o :: os, c :: cs => (hot o, c) :: hotCl hot os cs
  | _, _ => []
def cc (P : Program) (hot : Oper → Bool) (N : Nat) : Code → Option CC
  | .skip => some .skip
  | .label _ => some .skip
  | .exit id => some (.exit id)
  | .ret => some .ret
  | .region _ ops false => (cops N ops false ops.toList 0).map fun cl => if ops.toList.any hot then .hreg (hotCl hot ops.toList cl) else .region cl
  | .region _ ops true => if P.follows .mixedOrders && dStatic ops then
      match cops N ops true ops.toList 0 with
      | some cl => if (watch ops).isEmpty then some (.region cl) else wreg ops cl
      | none => none
    else none
  | .seq a b => match cc P hot N a, cc P hot N b with
    | some a, some b => some (.seq a b)
    | _, _ => none
  | .cond c a b => match cc P hot N a, cc P hot N b with
    | some a, some b => some (.cond c a b)
    | _, _ => none
  | .block id c => match cc P hot N c with
    | some c => some (.block id c)
    | none => none
  | .loop c => match cc P hot N c with
    | some c => some (.loop c)
    | none => none
  | .rangeFunc f ps asg body => some (.rf f ps asg body)
  | _ => none

/-- The loops over functions, in order. -/
def rfAll : Code → List (Array Tmp × Code × Code)
  | .rangeFunc _ ps a b => [(ps, a, b)]
  | .seq a b => rfAll a ++ rfAll b
  | .cond _ a b => rfAll a ++ rfAll b
  | .block _ c => rfAll c
  | .loop c => rfAll c
  | _ => []
def rfAt (c : Option Code) (i : Nat) : Array Tmp × Code × Code := (c.map fun c => (rfAll c).getD i (#[], .skip, .skip)).getD (#[], .skip, .skip)

/-- The slots. -/
def env (N : Nat) (e : Nat → V) : List V := (List.range N).map e

def upd (e : Nat → V) (d : Option Nat) (v : V) : Nat → V := match d with
  | some d => fun k => if k = d then v else e k
  | none => e

theorem vput_env (N : Nat) (e : Nat → V) (d : Option Nat) (v : V) : vput (env N e) d v = env N (upd e d v) := by
  cases d with
  | none => rfl
  | some d =>
    simp only [vput, upd, env]
    apply List.ext_getElem?
    intro k
    by_cases h : d = k
    · subst h
      rcases Nat.lt_or_ge d N with hl | hl
      · simp [List.getElem?_set_self, hl]
      · simp [List.getElem?_eq_none, hl]
    · rw [List.getElem?_set_ne h]
      rcases Nat.lt_or_ge k N with hl | hl
      · simp [hl, Ne.symm h]
      · simp [List.getElem?_eq_none, hl]

theorem env_getD {N : Nat} {e : Nat → V} {t : Nat} (h : t < N) (d : V) : (env N e).getD t d = e t := by
  simp [env, List.getD_eq_getElem?_getD, h]

theorem env_get {N : Nat} {e : Nat → V} {t : Nat} (h : t < N) : (env N e)[t]? = some (e t) := by
  simp [env, h]

theorem evs_env {N : Nat} {e : Nat → V} {t : Nat} (h : t < N) : evs (env N e) (.tmp t) = some (e t) := by
  simp only [evs]
  rw [env_getD h]

theorem env_start (vs : List V) {N : Nat} (h : vs.length ≤ N) : vs ++ List.replicate (N - vs.length) (.tuple []) = env N (fun i => vs.getD i (.tuple [])) := by
  apply List.ext_getElem?
  intro k
  simp only [env]
  rcases Nat.lt_or_ge k N with hl | hl
  · rcases Nat.lt_or_ge k vs.length with h2 | h2
    · rw [List.getElem?_append_left h2]
      simp [hl, List.getElem?_eq_getElem h2]
    · rw [List.getElem?_append_right h2]
      simp [hl, List.getElem?_eq_none h2, List.getElem?_replicate]
      omega
  · rw [List.getElem?_eq_none (by simp; omega), List.getElem?_eq_none (by simp; omega)]

/-- A round does this. -/
def Round (P : Program) (pr : Prim) (k : Nat) (vs : List V) (σ : St) (v : V) (σ' : St) : Prop := ∃ n, vround P pr n k vs σ = some (v, σ')
/-- A function's value, called. -/
def DoesV (P : Program) (pr : Prim) (fv : V) (vs : List V) (σ : St) (r : VRes) (σ' : St) : Prop := match fv with
  | .func fid caps => Does P pr fid (vs ++ caps) σ r σ'
  | .yld k => ∃ v, r = .ret v ∧ Round P pr k vs σ v σ'
  | _ => False

/-- Whether an operation is wanted. -/
def wantC (e : Nat → V) : Option (Nat × Bool) → Bool
  | none => true
  | some (d, b) => match e d with
    | .bool c => c == b
    | _ => false

section
variable (P : Program) (pr : Prim) (N : Nat)

/-- The operations of a region, one behind the other. -/
def Eo : List COp → (Nat → V) → St → (VX → (Nat → V) → St → Prop) → Prop
  | [], e, σ, K => K .normal e σ
  | o :: l, e, σ, K =>
    if wantC e o.guard = true then
      match o.op with
      | .call { callee := .value f, args, argTypes := _ } => ∃ fv vs, evs (env N e) f = some fv ∧ evAll (env N e) args.toList = some vs ∧ ∃ r σ', DoesV P pr fv vs σ r σ' ∧
          match r with
          | .ret v => Eo l (upd e o.dst v) σ' K
          | .pan v => o.last = true ∧ K (.pan v) e σ'
      | .panic x => ∃ t v, evs (env N e) x = some (.iface t v) ∧ o.last = true ∧ K (.pan (.iface t v)) e σ
      | op => ∃ v σ', vop P (env N e) σ op = some (v, σ') ∧ Eo l (upd e o.dst v) σ' K
    else Eo l (upd e o.dst (.tuple [])) σ K

def look : List (Nat × (Nat → V) × St) → Nat → Option ((Nat → V) × St)
  | [], _ => none
  | (k, e, σ) :: l, j => if j = k then some (e, σ) else look l j
def pushB (b : Bool) (k : Nat) (e : Nat → V) (σ : St) (acc : List (Nat × (Nat → V) × St)) : List (Nat × (Nat → V) × St) := if b then (k, e, σ) :: acc else acc
def KQ (o : Option (V × St)) (v : V) : Prop := ∃ s, o = some (v, s)
def WJ (e : Nat → V) (o : COp) (v : V) (acc : List (Nat × (Nat → V) × St)) : List Nat → Prop
  | [] => True
  | j :: js => (match look acc j with | some (_, σ) => KQ (vop P (env N e) σ o.op) v | none => True) ∧ WJ e o v acc js
def WV (e : Nat → V) (o : COp) (r : Option (V × St)) (acc : List (Nat × (Nat → V) × St)) (js : List Nat) : Prop := match r with
  | some (v, _) => WJ P N e o v acc js
  | none => False
def WOk : List (Nat × COp × List Nat) → List (Nat × (Nat → V) × St) → Prop
  | [], _ => True
  | (i, o, js) :: ws, acc => (match look acc i with | some (e, σ) => wantC e o.guard = true → WV P N e o (vop P (env N e) σ o.op) acc js | none => True) ∧ WOk ws acc

/-- The operations of a region some of whose loads may move. -/
def EoW (ws : List (Nat × COp × List Nat)) : List (Bool × COp) → Bool → Nat → List (Nat × (Nat → V) × St) → (Nat → V) → St → (VX → (Nat → V) → St → Prop) → Prop
  | [], la, k, acc, e, σ, K => WOk P N ws (pushB la k e σ acc) ∧ K .normal e σ
  | (b, o) :: l, la, k, acc, e, σ, K => Eo P pr N [o] e σ (fun x e' σ' => match x with
      | .normal => EoW ws l la (k + 1) (pushB b k e σ acc) e' σ' K
      | .pan v => WOk P N ws (pushB b k e σ acc) ∧ K (.pan v) e' σ'
      | _ => False)

/-- The operations of a region some of which make rows that are objects. -/
def EoH : List (Bool × COp) → (Nat → V) → St → (VX → (Nat → V) → St → Prop) → Prop
  | [], e, σ, K => K .normal e σ
  | (b, o) :: l, e, σ, K => if b = true then (if wantC e o.guard = true then ∃ v σ', vhot P (env N e) σ o.op = some (v, σ') ∧ EoH l (upd e o.dst v) σ' K else EoH l (upd e o.dst (.tuple [])) σ K)
    else Eo P pr N [o] e σ (fun x e' σ' => match x with
      | .normal => EoH l e' σ' K
      | .pan v => K (.pan v) e' σ'
      | _ => False)

inductive Big : CC → (Nat → V) → St → VX → (Nat → V) → St → Prop
  | skip {e σ} : Big .skip e σ .normal e σ
  | exit {id e σ} : Big (.exit id) e σ (.exit id) e σ
  | ret {e σ} : Big .ret e σ .ret e σ
  | region {l e σ x e' σ'} (h : Eo P pr N l e σ fun x1 e1 σ1 => x1 = x ∧ e1 = e' ∧ σ1 = σ') : Big (.region l) e σ x e' σ'
  | wregion {l la ws e σ x e' σ'} (h : EoW P pr N ws l la 0 [] e σ fun x1 e1 σ1 => x1 = x ∧ e1 = e' ∧ σ1 = σ') : Big (.wregion l la ws) e σ x e' σ'
  | hreg {l e σ x e' σ'} (h : EoH P pr N l e σ fun x1 e1 σ1 => x1 = x ∧ e1 = e' ∧ σ1 = σ') : Big (.hreg l) e σ x e' σ'
  | seq {a b e σ e1 σ1 x e' σ'} (h1 : Big a e σ .normal e1 σ1) (h2 : Big b e1 σ1 x e' σ') : Big (.seq a b) e σ x e' σ'
  | seqX {a b e σ x e' σ'} (h1 : Big a e σ x e' σ') (hx : x ≠ .normal) : Big (.seq a b) e σ x e' σ'
  | cond {c a b e σ t x e' σ'} (hc : evs (env N e) c = some (.bool t)) (h : Big (if t then a else b) e σ x e' σ') : Big (.cond c a b) e σ x e' σ'
  | block {id c e σ e' σ'} (h : Big c e σ (.exit id) e' σ') : Big (.block id c) e σ .normal e' σ'
  | blockX {id c e σ x e' σ'} (h : Big c e σ x e' σ') (hx : x ≠ .exit id) : Big (.block id c) e σ x e' σ'
  | loop {c e σ e1 σ1 x e' σ'} (h1 : Big c e σ .normal e1 σ1) (h2 : Big (.loop c) e1 σ1 x e' σ') : Big (.loop c) e σ x e' σ'
  | loopX {c e σ x e' σ'} (h1 : Big c e σ x e' σ') (hx : x ≠ .normal) : Big (.loop c) e σ x e' σ'
  | rf {f ps asg body e σ fid caps v σ2 x σ'} (hf : evs (env N e) f = some (.func fid caps)) (hd : Does P pr fid (.yld σ.objs.length :: caps) ⟨σ.objs ++ [.lp (env N e) ps asg body], σ.toks⟩ (.ret v) σ2) (ho : lpOut σ.objs.length (env N e) σ2 = some (x, env N e, σ')) : Big (.rf f ps asg body) e σ x e σ'
end

section
variable {P : Program} {pr : Prim} {N : Nat}

theorem Eo.split : ∀ {l : List COp} {e : Nat → V} {σ : St} {K : VX → (Nat → V) → St → Prop}, Eo P pr N l e σ K → ∃ x e' σ', K x e' σ' ∧ Eo P pr N l e σ fun x1 e1 σ1 => x1 = x ∧ e1 = e' ∧ σ1 = σ'
  | [], e, σ, K, h => ⟨_, _, _, h, ⟨rfl, rfl, rfl⟩⟩
  | o :: l, e, σ, K, h => by
    rw [Eo] at h
    split at h
    · rename_i hw
      split at h
      · rename_i f args ts ho
        obtain ⟨fv, vs, h1, h2, r, σ', h3, h4⟩ := h
        cases r with
        | ret v =>
          obtain ⟨x, e', σ2, hk, he⟩ := Eo.split h4
          refine ⟨x, e', σ2, hk, ?_⟩
          rw [Eo, if_pos hw, ho]
          exact ⟨fv, vs, h1, h2, _, σ', h3, he⟩
        | pan v =>
          refine ⟨_, _, _, h4.2, ?_⟩
          rw [Eo, if_pos hw, ho]
          exact ⟨fv, vs, h1, h2, _, σ', h3, h4.1, rfl, rfl, rfl⟩
      · rename_i x ho
        obtain ⟨t, v, h1, h2, h3⟩ := h
        refine ⟨_, _, _, h3, ?_⟩
        rw [Eo, if_pos hw, ho]
        exact ⟨t, v, h1, h2, rfl, rfl, rfl⟩
      · rename_i hne1 hne2
        obtain ⟨v, σ', h1, h2⟩ := h
        obtain ⟨x, e', σ2, hk, he⟩ := Eo.split h2
        refine ⟨x, e', σ2, hk, ?_⟩
        rw [Eo, if_pos hw]
        split
        · rename_i ho; exact absurd ho (hne1 _ _ _)
        · rename_i ho; exact absurd ho (hne2 _)
        · exact ⟨v, σ', h1, he⟩
    · rename_i hw
      obtain ⟨x, e', σ2, hk, he⟩ := Eo.split h
      refine ⟨x, e', σ2, hk, ?_⟩
      rw [Eo, if_neg hw]
      exact he

theorem wantC_ok {ops : Array Oper} {draw : Bool} {o : Oper} {i : Nat} {c : COp} (h : cop N ops draw o i = some c) (e : Nat → V) : vwant ops (env N e) o = wantC e c.guard ∧ c.dst = o.dst ∧ c.op = o.op ∧ c.last = (!draw || lastOk ops i) := by
  unfold cop at h
  split at h
  · rename_i hg
    injection h with h; subst h
    simp [vwant, hg, wantC]
  · rename_i j b hg
    split at h
    · rename_i d hd
      split at h
      · rename_i hdN
        injection h with h; subst h
        refine ⟨?_, rfl, rfl, rfl⟩
        simp only [vwant, hg, wantC]
        unfold vyield
        rw [hd]
        simp only [Option.bind_some]
        rw [env_get hdN]
        cases e d <;> simp <;> rfl
      · cases h
    · cases h

theorem cops_len {ops : Array Oper} {draw : Bool} : ∀ {l : List Oper} {i : Nat} {cl : List COp}, cops N ops draw l i = some cl → cl.length = l.length
  | [], i, cl, h => by simp [cops] at h; subst h; rfl
  | o :: l, i, cl, h => by
    simp only [cops] at h
    split at h
    · rename_i c cs h1 h2
      injection h with h; subst h
      simp [cops_len h2]
    · cases h

/-- The run of the operations. With pan: the trace is as long as where it ended. -/
theorem Eo.vops {ops : Array Oper} {draw : Bool} : ∀ {l : List Oper} {i : Nat} {cl : List COp}, cops N ops draw l i = some cl → ∀ {e : Nat → V} {σ : St} {x : VX} {e' : Nat → V} {σ' : St}, (Eo P pr N cl e σ fun x1 e1 σ1 => x1 = x ∧ e1 = e' ∧ σ1 = σ') →
    ∃ n ts, vops P pr n ops l (env N e) σ = some (x, ts, σ') ∧ ((x = .normal ∧ ts = env N e') ∨ (∃ v, x = .pan v ∧ ts = env N e' ∧ ∃ k, (vtrace P pr n ops l (env N e) σ).length = k + 1 ∧ (!draw || lastOk ops (i + k)) = true))
  | [], i, cl, h, e, σ, x, e', σ', he => by
    simp [cops] at h; subst h
    obtain ⟨rfl, rfl, rfl⟩ := he
    exact ⟨1, env N e, by simp [Q.vops], .inl ⟨rfl, rfl⟩⟩
  | o :: l, i, cl, h, e, σ, x, e', σ', he => by
    simp only [cops] at h
    split at h
    · rename_i c cs h1 h2
      injection h with h; subst h
      obtain ⟨hw, hd, hop, hlast⟩ := wantC_ok h1 e
      -- one more operation that gives a value
      have step : ∀ {v : V} {σ1 : St} {m : Nat}, vcore P pr m ops o (env N e) σ = some (.val v σ1) → (Eo P pr N cs (upd e c.dst v) σ1 fun x1 e1 σ1 => x1 = x ∧ e1 = e' ∧ σ1 = σ') →
          ∃ n ts, Q.vops P pr n ops (o :: l) (env N e) σ = some (x, ts, σ') ∧ ((x = .normal ∧ ts = env N e') ∨ (∃ v, x = .pan v ∧ ts = env N e' ∧ ∃ k, (vtrace P pr n ops (o :: l) (env N e) σ).length = k + 1 ∧ (!draw || lastOk ops (i + k)) = true)) := by
        intro v σ1 m hm hc
        obtain ⟨n, ts, h3, h4⟩ := Eo.vops h2 hc
        have a := vcore_mono (Nat.le_max_left m n) hm
        have b := vops_mono (Nat.le_max_right m n) h3
        refine ⟨max m n + 1, ts, ?_, ?_⟩
        · rw [Q.vops, a]
          simp only
          rw [vput_env, ← hd]
          exact b
        · rcases h4 with h4 | ⟨v', h5, h6, k, h7, h8⟩
          · exact .inl h4
          · refine .inr ⟨v', h5, h6, k + 1, ?_, by rw [show i + (k + 1) = i + 1 + k from by omega]; exact h8⟩
            rw [vtrace, a]
            simp only [List.length_cons]
            rw [vput_env, ← hd]
            have : ∀ j, n ≤ j → vtrace P pr j ops l (env N (upd e c.dst v)) σ1 = vtrace P pr n ops l (env N (upd e c.dst v)) σ1 := by
              intro j hj
              induction hj with
              | refl => rfl
              | step hj ih => rw [((fuel1 _).2.1 _ _ _ _ _ (vops_mono hj h3)).2]; exact ih
            rw [this _ (Nat.le_max_right m n), h7]
      have stop : ∀ {v : V} {m : Nat}, vcore P pr m ops o (env N e) σ = some (.pan v σ') → x = .pan v → e = e' → c.last = true →
          ∃ n ts, Q.vops P pr n ops (o :: l) (env N e) σ = some (x, ts, σ') ∧ ((x = .normal ∧ ts = env N e') ∨ (∃ v, x = .pan v ∧ ts = env N e' ∧ ∃ k, (vtrace P pr n ops (o :: l) (env N e) σ).length = k + 1 ∧ (!draw || lastOk ops (i + k)) = true)) := by
        intro v m hm hx hee hl
        refine ⟨m + 1, env N e, by rw [Q.vops, hm, hx], .inr ⟨v, hx, by rw [hee], 0, ?_, by rw [Nat.add_zero, ← hlast]; exact hl⟩⟩
        rw [vtrace, hm]
        rfl
      rw [Eo] at he
      split at he
      · rename_i hwt
        rw [← hw] at hwt
        split at he
        · rename_i f args ts ho
          obtain ⟨fv, vs, g1, g2, r, σ1, g3, g4⟩ := he
          obtain ⟨m, hcore⟩ : ∃ m, vcore P pr (m + 1) ops o (env N e) σ = match r with | .ret v => some (.val v σ1) | .pan v => some (.pan v σ1) := by
            cases fv with
            | func fid caps =>
              obtain ⟨m, g3⟩ := g3
              refine ⟨m, ?_⟩
              rw [vcore, if_pos hwt, ← hop, ho]
              simp only [g1, g2, g3]
              cases r <;> rfl
            | yld k =>
              obtain ⟨v, rfl, m, g3⟩ := g3
              refine ⟨m, ?_⟩
              rw [vcore, if_pos hwt, ← hop, ho]
              simp only [g1, g2, g3]
            | _ => exact g3.elim
          cases r with
          | ret v => exact step hcore g4
          | pan v =>
            obtain ⟨g5, g6, g7, g8⟩ := g4
            subst g8
            exact stop hcore g6.symm g7 g5
        · rename_i y ho
          obtain ⟨t, v, g1, g2, g3, g4, g5⟩ := he
          subst g5
          refine stop (m := 1) ?_ g3.symm g4 g2
          rw [vcore, if_pos hwt, ← hop, ho]
          simp only [g1]
        · rename_i hne1 hne2
          obtain ⟨v, σ1, g1, g2⟩ := he
          refine step (m := 1) ?_ g2
          rw [vcore, if_pos hwt, ← hop]
          split
          · rename_i ho; exact absurd ho (hne1 _ _ _)
          · rename_i ho; exact absurd ho (hne2 _)
          · rw [g1]
      · rename_i hwt
        rw [← hw] at hwt
        refine step (m := 1) (v := .tuple []) ?_ he
        rw [vcore, if_neg hwt]
    · cases h

theorem vtrace_mono {n m : Nat} (h : n ≤ m) {ops : Array Oper} {l : List Oper} {tmps : List V} {σ : St} {r : VX × List V × St} (hv : vops P pr n ops l tmps σ = some r) : vtrace P pr m ops l tmps σ = vtrace P pr n ops l tmps σ := by
  induction h with
  | refl => rfl
  | step hj ih => rw [((fuel1 _).2.1 _ _ _ _ _ (vops_mono hj hv)).2]; exact ih

theorem look_push {b : Bool} {k : Nat} {e : Nat → V} {σ : St} {acc : List (Nat × (Nat → V) × St)} {j : Nat} : look (pushB b k e σ acc) j = if b = true ∧ j = k then some (e, σ) else look acc j := by
  cases b <;> simp [pushB, look]

/-- The run, and what was noted of it: A. -/
theorem EoW.vops {ops : Array Oper} {ws : List (Nat × COp × List Nat)} : ∀ {l : List Oper} {i : Nat} {cl : List COp}, cops N ops true l i = some cl → ∀ {acc : List (Nat × (Nat → V) × St)} {e : Nat → V} {σ : St} {x : VX} {e' : Nat → V} {σ' : St},
    (EoW P pr N ws (flags ops i cl) (flagged ops (i + cl.length)) i acc e σ fun x1 e1 σ1 => x1 = x ∧ e1 = e' ∧ σ1 = σ') →
    ∃ n ts A, vops P pr n ops l (env N e) σ = some (x, ts, σ') ∧ ((x = .normal ∧ ts = env N e') ∨ (∃ v, x = .pan v ∧ ts = env N e' ∧ ∃ k, (vtrace P pr n ops l (env N e) σ).length = k + 1 ∧ lastOk ops (i + k) = true)) ∧
      WOk P N ws A ∧ (∀ j, j < i → look A j = look acc j) ∧ (∀ t T S, (vtrace P pr n ops l (env N e) σ)[t]? = some (T, S) → flagged ops (i + t) = true → ∃ e1, T = env N e1 ∧ look A (i + t) = some (e1, S))
  | [], i, cl, h, acc, e, σ, x, e', σ', he => by
    simp [cops] at h; subst h
    simp only [flags, EoW, List.length_nil, Nat.add_zero] at he
    obtain ⟨hW, rfl, rfl, rfl⟩ := he
    refine ⟨1, env N e, _, by simp [Q.vops], .inl ⟨rfl, rfl⟩, hW, fun j hj => ?_, fun t T S ht hf => ?_⟩
    · rw [look_push, if_neg (by omega)]
    · simp only [vtrace] at ht
      cases t with
      | zero =>
        simp at ht
        obtain ⟨rfl, rfl⟩ := ht
        rw [Nat.add_zero] at hf ⊢
        exact ⟨e, rfl, by rw [look_push, if_pos ⟨hf, rfl⟩]⟩
      | succ t => simp at ht
  | o :: l, i, cl, h, acc, e, σ, x, e', σ', he => by
    simp only [cops] at h
    split at h
    · rename_i c cs h1 h2
      injection h with h; subst h
      simp only [flags, EoW] at he
      have hone : cops N ops true [o] i = some [c] := by simp [cops, h1]
      obtain ⟨x1, e1, σ1, hk, hE⟩ := Eo.split he
      obtain ⟨n, ts, hv, hts⟩ := Eo.vops hone hE
      cases n with
      | zero => simp [Q.vops] at hv
      | succ n =>
      simp only [Q.vops] at hv
      split at hv
      · rename_i v σ2 hc
        cases n with
        | zero => simp [vcore] at hc
        | succ n =>
        simp only [Q.vops] at hv
        injection hv with hv
        injection hv with h3 h4
        injection h4 with h4 h5
        subst h3 h5
        have hts := (hts.resolve_right (fun ⟨_, h, _⟩ => by cases h)).2
        simp only at hk
        rw [show i + (c :: cs).length = (i + 1) + cs.length from by simp; omega] at hk
        obtain ⟨m, ts2, A, g1, g2, g3, g4, g5⟩ := EoW.vops h2 hk
        have a := vcore_mono (Nat.le_max_left (n + 1) m) hc
        have b := vops_mono (Nat.le_max_right (n + 1) m) g1
        have tr : vtrace P pr (max (n + 1) m + 1) ops (o :: l) (env N e) σ = (env N e, σ) :: vtrace P pr m ops l (env N e1) σ2 := by
          rw [vtrace, a]
          simp only
          rw [h4, hts, vtrace_mono (Nat.le_max_right (n + 1) m) g1]
        refine ⟨max (n + 1) m + 1, ts2, A, ?_, ?_, g3, fun j hj => ?_, fun t T S ht hf => ?_⟩
        · rw [Q.vops, a]
          simp only
          rw [h4, hts]
          exact b
        · rcases g2 with g2 | ⟨v', k1, k2, k, k3, k4⟩
          · exact .inl g2
          · exact .inr ⟨v', k1, k2, k + 1, by rw [tr]; simp [k3], by rw [show i + (k + 1) = i + 1 + k from by omega]; exact k4⟩
        · rw [g4 j (by omega), look_push, if_neg (by omega)]
        · rw [tr] at ht
          cases t with
          | zero =>
            simp at ht
            obtain ⟨rfl, rfl⟩ := ht
            rw [Nat.add_zero] at hf ⊢
            exact ⟨e, rfl, by rw [g4 i (by omega), look_push, if_pos ⟨hf, rfl⟩]⟩
          | succ t =>
            rw [show i + (t + 1) = i + 1 + t from by omega] at hf ⊢
            exact g5 t T S (by simpa using ht) hf
      · rename_i v σ2 hc
        injection hv with hv
        injection hv with h3 h4
        injection h4 with h4 h5
        subst h3 h5
        simp only at hk
        obtain ⟨hW, hx, hee, hss⟩ := hk
        subst hx hee hss
        have tr : vtrace P pr (n + 1) ops (o :: l) (env N e) σ = [(env N e, σ)] := by rw [vtrace, hc]
        rcases hts with ⟨h9, _⟩ | ⟨v', k1, k2, k, k3, k4⟩
        · cases h9
        have k3' : k = 0 := by
          rw [vtrace, hc] at k3
          simpa using k3.symm
        subst k3'
        refine ⟨n + 1, env N e, _, by rw [Q.vops, hc], .inr ⟨v, rfl, by rw [h4, k2], 0, by rw [tr]; rfl, by simpa using k4⟩, hW, fun j hj => ?_, fun t T S ht hf => ?_⟩
        · rw [look_push, if_neg (by omega)]
        · rw [tr] at ht
          cases t with
          | zero =>
            simp at ht
            obtain ⟨rfl, rfl⟩ := ht
            rw [Nat.add_zero] at hf ⊢
            exact ⟨e, rfl, by rw [look_push, if_pos ⟨hf, rfl⟩]⟩
          | succ t => simp at ht
      · cases hv
    · cases h

theorem WJ_ok {e : Nat → V} {o : COp} {v : V} {acc : List (Nat × (Nat → V) × St)} : ∀ {js : List Nat}, WJ P N e o v acc js → ∀ j, j ∈ js → ∀ e1 σ, look acc j = some (e1, σ) → ∃ s, vop P (env N e) σ o.op = some (v, s)
  | [], _, j, hj, _, _, _ => by cases hj
  | j' :: js, h, j, hj, e1, σ, hl => by
    rcases List.mem_cons.1 hj with e2 | hj
    · subst e2
      have := h.1
      rw [hl] at this
      exact this
    · exact WJ_ok h.2 j hj e1 σ hl

/-- What was noted says that the loads that may move find the same. -/
theorem stable_of {ops : Array Oper} {cl : List COp} (hc : cops N ops true ops.toList 0 = some cl) {tr : List (List V × St)} {A : List (Nat × (Nat → V) × St)} (hA : ∀ t T S, tr[t]? = some (T, S) → flagged ops t = true → ∃ e1, T = env N e1 ∧ look A t = some (e1, S)) :
    ∀ {wl : List (Nat × List Nat)} {ws : List (Nat × COp × List Nat)}, (∀ w ∈ wl, w ∈ watch ops) → wchk cl wl = some ws → WOk P N ws A → stable P ops tr wl = true
  | [], ws, _, _, _ => rfl
  | (i, js) :: wl, ws, hm, hw, hok => by
    simp only [wchk] at hw
    split at hw
    · rename_i c r h1 h2
      injection hw with hw; subst hw
      obtain ⟨ok1, ok2⟩ := hok
      have hin := hm (i, js) (List.mem_cons_self ..)
      have ih := stable_of hc hA (fun w hw => hm w (List.mem_cons_of_mem _ hw)) h2 ok2
      simp only [stable, ih, Bool.and_true]
      split
      · rename_i T S o ht ho
        have hfi : flagged ops i = true := List.any_eq_true.2 ⟨_, hin, by simp⟩
        obtain ⟨e1, rfl, hl⟩ := hA i _ _ ht hfi
        have hco : ∃ k, cop N ops true o k = some c ∧ k = i := by
          have key : ∀ (l : List Oper) (b : Nat) (cl : List COp), cops N ops true l b = some cl → ∀ t o c, l[t]? = some o → cl[t]? = some c → cop N ops true o (b + t) = some c := by
            intro l
            induction l with
            | nil => intro b cl _ t o c h; simp at h
            | cons o0 l ihl =>
              intro b cl hcl t o c ho hc
              simp only [cops] at hcl
              split at hcl
              · rename_i c0 cs0 q1 q2
                injection hcl with hcl; subst hcl
                cases t with
                | zero => simp at ho hc; rw [← ho, ← hc]; exact q1
                | succ t =>
                  have := ihl (b + 1) cs0 q2 t o c (by simpa using ho) (by simpa using hc)
                  rwa [show b + 1 + t = b + (t + 1) from by omega] at this
              · cases hcl
          have := key ops.toList 0 cl hc i o c (by simpa using ho) h1
          exact ⟨i, by simpa using this, rfl⟩
        obtain ⟨k, hco, rfl⟩ := hco
        obtain ⟨hw1, hw2, hw3, _⟩ := wantC_ok hco e1
        rw [hl] at ok1
        simp only at ok1
        split
        · rename_i hwt
          have hv := ok1 (by rw [← hw1]; exact hwt)
          unfold WV at hv
          rw [hw3] at hv
          split at hv
          · rename_i v s hvo
            rw [hvo]
            simp only
            rw [List.all_eq_true]
            intro j hj
            split
            · rename_i Tj Sj htj
              have hfj : flagged ops j = true := List.any_eq_true.2 ⟨_, hin, by simp [hj]⟩
              obtain ⟨ej, _, hlj⟩ := hA j _ _ htj hfj
              obtain ⟨s2, hs2⟩ := WJ_ok hv j hj ej Sj hlj
              rw [hw3] at hs2
              unfold loadAgain
              rw [hs2]
              exact vbeq_self v
            · rfl
          · exact hv.elim
        · rfl
      · rfl
    · cases hw

theorem EoH.hops {hot : Oper → Bool} {ops : Array Oper} : ∀ {l : List Oper} {i : Nat} {cl : List COp}, cops N ops false l i = some cl → ∀ {e : Nat → V} {σ : St} {x : VX} {e' : Nat → V} {σ' : St}, (EoH P pr N (hotCl hot l cl) e σ fun x1 e1 σ1 => x1 = x ∧ e1 = e' ∧ σ1 = σ') →
    ∃ n, hopsV P hot (fun o t s => vcore P pr n ops o t s) ops l (env N e) σ = some (x, env N e', σ')
  | [], i, cl, h, e, σ, x, e', σ', he => by
    simp [cops] at h; subst h
    obtain ⟨rfl, rfl, rfl⟩ := he
    exact ⟨1, rfl⟩
  | o :: l, i, cl, h, e, σ, x, e', σ', he => by
    have hone : ∀ {c : COp}, cop N ops false o i = some c → cops N ops false [o] i = some [c] := fun h => by simp [cops, h]
    simp only [cops] at h
    split at h
    · rename_i c cs h1 h2
      injection h with h; subst h
      obtain ⟨hw, hd, hop, _⟩ := wantC_ok h1 e
      simp only [hotCl, EoH] at he
      have mono : ∀ {n m : Nat}, n ≤ m → ∀ {t : List V} {s : St} {r : VX × List V × St}, hopsV P hot (fun o t s => vcore P pr n ops o t s) ops l t s = some r → hopsV P hot (fun o t s => vcore P pr m ops o t s) ops l t s = some r :=
        fun h _ _ _ h2 => hopsV_le (fun o t s r h3 => vcore_mono h h3) h2
      by_cases hh : hot o = true
      · rw [if_pos hh] at he
        split at he
        · rename_i hwt
          obtain ⟨v, σ1, hv, he2⟩ := he
          obtain ⟨n, g1⟩ := EoH.hops h2 he2
          refine ⟨n, ?_⟩
          simp only [hopsV]
          rw [if_pos (by rw [hh, hw, hwt]; rfl), ← hop, hv]
          simp only
          rw [vput_env, ← hd]
          exact g1
        · rename_i hwt
          obtain ⟨n, g1⟩ := EoH.hops h2 he
          refine ⟨max 1 n, ?_⟩
          have hc : vcore P pr (max 1 n) ops o (env N e) σ = some (.val (.tuple []) σ) := by
            refine vcore_mono (Nat.le_max_left 1 n) ?_
            rw [vcore, if_neg (by rw [hw]; exact hwt)]
          simp only [hopsV]
          rw [if_neg (by rw [hh, hw]; simpa using hwt), hc]
          simp only
          rw [vput_env, ← hd]
          exact mono (Nat.le_max_right 1 n) g1
      · rw [if_neg hh] at he
        obtain ⟨x1, e1, σ1, hk, hE⟩ := Eo.split he
        obtain ⟨n, ts, hv, hts⟩ := Eo.vops (hone h1) hE
        cases n with
        | zero => simp [Q.vops] at hv
        | succ n =>
          rw [Q.vops] at hv
          split at hv
          · rename_i v σ2 hc
            cases n with
            | zero => simp [vcore] at hc
            | succ n =>
            rw [Q.vops] at hv
            injection hv with hv
            injection hv with h3 h4
            injection h4 with h4 h5
            subst h3 h5
            rcases hts with ⟨_, hts⟩ | ⟨v', h9, _⟩
            · obtain ⟨m, g1⟩ := EoH.hops h2 hk
              refine ⟨max (n + 1) m, ?_⟩
              simp only [hopsV]
              rw [if_neg (by simp [hh]), vcore_mono (Nat.le_max_left (n + 1) m) hc]
              simp only
              rw [h4, hts]
              exact mono (Nat.le_max_right (n + 1) m) g1
            · cases h9
          · rename_i v σ2 hc
            injection hv with hv
            injection hv with h3 h4
            injection h4 with h4 h5
            subst h3 h5
            simp only at hk
            obtain ⟨hx, hee, hss⟩ := hk
            subst hx hee hss
            rcases hts with ⟨h9, _⟩ | ⟨v', k1, k2, _⟩
            · cases h9
            refine ⟨n, ?_⟩
            simp only [hopsV]
            rw [if_neg (by simp [hh]), hc]
            simp only
            rw [← k2, h4]
          · cases hv
    · cases h

theorem cc_region {i : Nat} {o : Array Oper} {d : Bool} {c : CC} (hc : cc P pr.hot N (.region i o d) = some c) (h1 : ∀ l, c = .region l → False) (h2 : ∀ l la ws, c = .wregion l la ws → False) (h3 : ∀ l, c = .hreg l → False) : False := by
  cases d with
  | false =>
    simp only [cc, Option.map_eq_some_iff] at hc
    obtain ⟨l, _, e⟩ := hc
    split at e
    · exact h3 _ e.symm
    · exact h1 _ e.symm
  | true =>
    simp only [cc] at hc
    split at hc
    · split at hc
      · split at hc
        · injection hc with hc; exact h1 _ hc.symm
        · unfold wreg at hc
          split at hc
          · injection hc with hc; exact h2 _ _ _ hc.symm
          · cases hc
      · cases hc
    · cases hc

/-- Calls and panics. -/
def isCP : Op → Bool
  | .call { callee := .value _, args := _, argTypes := _ } => true
  | .panic _ => true
  | _ => false
/-- No region whose order is open panics. -/
def calm : Code → Bool
  | .region _ ops true => ops.toList.all fun o => !isCP o.op
  | .seq a b => calm a && calm b
  | .cond _ a b => calm a && calm b
  | .block _ c => calm c
  | .loop c => calm c
  | _ => true
theorem vops_calm : ∀ {n : Nat} {ops : Array Oper} {l : List Oper} {tmps : List V} {σ : St} {v : V} {ts : List V} {σ' : St}, (l.all fun o => !isCP o.op) = true → vops P pr n ops l tmps σ = some (.pan v, ts, σ') → False
  | 0, ops, l, tmps, σ, v, ts, σ', hl, h => by simp [Q.vops] at h
  | n + 1, ops, [], tmps, σ, v, ts, σ', hl, h => by simp [Q.vops] at h
  | n + 1, ops, o :: l, tmps, σ, v, ts, σ', hl, h => by
    simp only [List.all_cons, Bool.and_eq_true] at hl
    rw [Q.vops] at h
    split at h
    · exact vops_calm hl.2 h
    · rename_i hc
      cases n with
      | zero => simp [vcore] at hc
      | succ n =>
        rw [vcore] at hc
        split at hc
        · split at hc
          · rename_i ho; simp [ho, isCP] at hl
          · rename_i ho; simp [ho, isCP] at hl
          · split at hc
            · injection hc with hc; cases hc
            · cases hc
        · injection hc with hc; cases hc
    · cases h

theorem Big.vexec {c : CC} {e : Nat → V} {σ : St} {x : VX} {e' : Nat → V} {σ' : St} (h : Big P pr N c e σ x e' σ') : ∀ {c0 : Code}, cc P pr.hot N c0 = some c → ∃ n ts, vexec P pr n c0 (env N e) σ = some (x, ts, σ') ∧ ((∃ v, x = .pan v) ∨ ts = env N e') ∧ (calm c0 = true → ts = env N e') := by
  induction h with
  | skip =>
    intro c0 hc
    cases c0 with
    | skip => exact ⟨1, _, by rw [Q.vexec], .inr rfl, fun _ => rfl⟩
    | label l => exact ⟨1, _, by rw [Q.vexec], .inr rfl, fun _ => rfl⟩
    | region i o d => exact (cc_region hc (fun _ h => by cases h) (fun _ _ _ h => by cases h) (fun _ h => by cases h)).elim
    | _ => simp only [cc] at hc <;> (try split at hc) <;> simp at hc
  | exit =>
    intro c0 hc
    cases c0 with
    | exit id => simp [cc] at hc; subst hc; exact ⟨1, _, by rw [Q.vexec], .inr rfl, fun _ => rfl⟩
    | region i o d => exact (cc_region hc (fun _ h => by cases h) (fun _ _ _ h => by cases h) (fun _ h => by cases h)).elim
    | _ => simp only [cc] at hc <;> (try split at hc) <;> simp at hc
  | ret =>
    intro c0 hc
    cases c0 with
    | ret => exact ⟨1, _, by rw [Q.vexec], .inr rfl, fun _ => rfl⟩
    | region i o d => exact (cc_region hc (fun _ h => by cases h) (fun _ _ _ h => by cases h) (fun _ h => by cases h)).elim
    | _ => simp only [cc] at hc <;> (try split at hc) <;> simp at hc
  | region he =>
    intro c0 hc
    cases c0 with
    | region id ops d =>
      cases d with
      | false =>
        simp only [cc, Option.map_eq_some_iff] at hc
        obtain ⟨l', hc, e1⟩ := hc
        split at e1
        · cases e1
        rename_i hcold
        injection e1 with e1
        subst e1
        obtain ⟨n, ts, h1, h2⟩ := Eo.vops hc he
        refine ⟨n + 1, ts, by rw [Q.vexec, if_neg hcold]; exact h1, ?_⟩
        rcases h2 with ⟨_, h⟩ | ⟨v, h, h', _⟩
        · exact ⟨.inr h, fun _ => h⟩
        · exact ⟨.inl ⟨v, h⟩, fun _ => h'⟩
      | true =>
        simp only [cc] at hc
        split at hc
        · rename_i hcond
          split at hc
          · rename_i cl hcl
            split at hc
            · rename_i hwe
              injection hc with hc
              injection hc with hc
              subst hc
              obtain ⟨n, ts, h1, h2⟩ := Eo.vops hcl he
              simp only [Bool.and_eq_true] at hcond
              have hst : ∀ tr, stable P ops tr (watch ops) = true := by
                intro tr
                rw [List.isEmpty_iff.1 hwe]
                rfl
              rcases h2 with ⟨hx, h⟩ | ⟨v, hx, h, k, h3, h4⟩
              · subst hx
                refine ⟨n + 1, ts, ?_, .inr h, fun _ => h⟩
                rw [Q.vexec, if_pos (by simp [hcond.1, hcond.2, hst]), h1]
              · subst hx
                refine ⟨n + 1, [], ?_, .inl ⟨v, rfl⟩, fun hcalm => (vops_calm (by simpa [calm] using hcalm) h1).elim⟩
                rw [Q.vexec, if_pos (by simp [hcond.1, hcond.2, hst]), h1]
                simp only
                rw [h3, if_pos (by simpa using h4)]
            · unfold wreg at hc
              split at hc
              · simp at hc
              · cases hc
          · cases hc
        · cases hc
    | _ => simp only [cc] at hc <;> (try split at hc) <;> simp at hc
  | wregion he =>
    intro c0 hc
    cases c0 with
    | region id ops d =>
      cases d with
      | false =>
        simp only [cc, Option.map_eq_some_iff] at hc
        obtain ⟨l', hc, e1⟩ := hc
        split at e1 <;> cases e1
      | true =>
        simp only [cc] at hc
        split at hc
        · rename_i hcond
          split at hc
          · rename_i cl hcl
            split at hc
            · simp at hc
            · unfold wreg at hc
              split at hc
              · rename_i ws hws
                injection hc with hc
                injection hc with q1 q2 q3
                subst q1 q2 q3
                obtain ⟨n, ts, A, h1, h2, hW, _, hA⟩ := EoW.vops hcl (by rw [Nat.zero_add]; exact he)
                simp only [Bool.and_eq_true] at hcond
                have hst : stable P ops (vtrace P pr n ops ops.toList (env N _) _) (watch ops) = true := stable_of hcl (fun t T S ht hf => by have := hA t T S ht (by rw [Nat.zero_add]; exact hf); rwa [Nat.zero_add] at this) (fun w hw => hw) hws hW
                rcases h2 with ⟨hx, h⟩ | ⟨v, hx, h, k, h3, h4⟩
                · subst hx
                  refine ⟨n + 1, ts, ?_, .inr h, fun _ => h⟩
                  rw [Q.vexec, if_pos (by simp [hcond.1, hcond.2, hst]), h1]
                · subst hx
                  refine ⟨n + 1, [], ?_, .inl ⟨v, rfl⟩, fun hcalm => (vops_calm (by simpa [calm] using hcalm) h1).elim⟩
                  rw [Q.vexec, if_pos (by simp [hcond.1, hcond.2, hst]), h1]
                  simp only
                  rw [h3, if_pos (by simpa using h4)]
              · cases hc
          · cases hc
        · cases hc
    | _ => simp only [cc] at hc <;> (try split at hc) <;> simp at hc
  | hreg he =>
    intro c0 hc
    cases c0 with
    | region id ops d =>
      cases d with
      | false =>
        simp only [cc, Option.map_eq_some_iff] at hc
        obtain ⟨l', hc, e1⟩ := hc
        split at e1
        · rename_i hh
          injection e1 with e1
          subst e1
          obtain ⟨n, h1⟩ := EoH.hops hc he
          exact ⟨n + 1, _, by rw [Q.vexec, if_pos hh]; exact h1, .inr rfl, fun _ => rfl⟩
        · cases e1
      | true =>
        simp only [cc] at hc
        split at hc
        · split at hc
          · split at hc
            · cases hc
            · unfold wreg at hc
              split at hc
              · cases hc
              · cases hc
          · cases hc
        · cases hc
    | _ => simp only [cc] at hc <;> (try split at hc) <;> simp at hc
  | seq h1 h2 ih1 ih2 =>
    intro c0 hc
    cases c0 with
    | seq a b =>
      simp only [cc] at hc
      split at hc
      · rename_i a' b' ha hb
        simp at hc
        obtain ⟨rfl, rfl⟩ := hc
        obtain ⟨n, ts, g1, g2, g5⟩ := ih1 ha
        obtain ⟨m, ts', g3, g4, g6⟩ := ih2 hb
        have g2 := g2.resolve_left (fun ⟨_, h⟩ => by cases h)
        subst g2
        refine ⟨max n m + 1, ts', ?_, g4, fun h => g6 (by simp only [calm, Bool.and_eq_true] at h; exact h.2)⟩
        rw [Q.vexec, vexec_mono (Nat.le_max_left n m) g1]
        exact vexec_mono (Nat.le_max_right n m) g3
      · cases hc
    | region i o d => exact (cc_region hc (fun _ h => by cases h) (fun _ _ _ h => by cases h) (fun _ h => by cases h)).elim
    | _ => simp only [cc] at hc <;> (try split at hc) <;> simp at hc
  | seqX h1 hx ih1 =>
    intro c0 hc
    cases c0 with
    | seq a b =>
      simp only [cc] at hc
      split at hc
      · rename_i a' b' ha hb
        simp at hc
        obtain ⟨rfl, rfl⟩ := hc
        obtain ⟨n, ts, g1, g2, g5⟩ := ih1 ha
        refine ⟨n + 1, ts, ?_, g2, fun h => g5 (by simp only [calm, Bool.and_eq_true] at h; exact h.1)⟩
        rw [Q.vexec, g1]
        split
        · rename_i h9; injection h9 with h9; injection h9 with h9; exact absurd h9 hx
        · rfl
      · cases hc
    | region i o d => exact (cc_region hc (fun _ h => by cases h) (fun _ _ _ h => by cases h) (fun _ h => by cases h)).elim
    | _ => simp only [cc] at hc <;> (try split at hc) <;> simp at hc
  | cond hcv h ih =>
    rename_i c a b e σ t x e' σ'
    intro c0 hc
    cases c0 with
    | cond c1 a1 b1 =>
      simp only [cc] at hc
      split at hc
      · rename_i a' b' ha hb
        simp at hc
        obtain ⟨rfl, rfl, rfl⟩ := hc
        obtain ⟨n, ts, g1, g2, g5⟩ := ih (c0 := if t then a1 else b1) (by cases t <;> simpa)
        exact ⟨n + 1, ts, by rw [Q.vexec, hcv]; exact g1, g2, fun hh => g5 (by simp only [calm, Bool.and_eq_true] at hh; cases t; exact hh.2; exact hh.1)⟩
      · cases hc
    | region i o d => exact (cc_region hc (fun _ h => by cases h) (fun _ _ _ h => by cases h) (fun _ h => by cases h)).elim
    | _ => simp only [cc] at hc <;> (try split at hc) <;> simp at hc
  | block h ih =>
    intro c0 hc
    cases c0 with
    | block id c1 =>
      simp only [cc] at hc
      split at hc
      · rename_i c' hc1
        simp at hc
        obtain ⟨rfl, rfl⟩ := hc
        obtain ⟨n, ts, g1, g2, g5⟩ := ih hc1
        have g2 := g2.resolve_left (fun ⟨_, h⟩ => by cases h)
        exact ⟨n + 1, ts, by rw [Q.vexec, g1]; simp, .inr g2, fun _ => g2⟩
      · cases hc
    | region i o d => exact (cc_region hc (fun _ h => by cases h) (fun _ _ _ h => by cases h) (fun _ h => by cases h)).elim
    | _ => simp only [cc] at hc <;> (try split at hc) <;> simp at hc
  | blockX h hx ih =>
    intro c0 hc
    cases c0 with
    | block id c1 =>
      simp only [cc] at hc
      split at hc
      · rename_i c' hc1
        simp at hc
        obtain ⟨rfl, rfl⟩ := hc
        obtain ⟨n, ts, g1, g2, g5⟩ := ih hc1
        refine ⟨n + 1, ts, ?_, g2, fun h => g5 (by simpa only [calm] using h)⟩
        rw [Q.vexec, g1]
        split
        · rename_i id' tm' σ'' h9
          injection h9 with h9
          injection h9 with h9 h10
          injection h10 with h10 h11
          subst h9 h10 h11
          rw [if_neg (fun e => hx (by rw [e]))]
        · rfl
      · cases hc
    | region i o d => exact (cc_region hc (fun _ h => by cases h) (fun _ _ _ h => by cases h) (fun _ h => by cases h)).elim
    | _ => simp only [cc] at hc <;> (try split at hc) <;> simp at hc
  | loop h1 h2 ih1 ih2 =>
    intro c0 hc
    cases c0 with
    | loop c1 =>
      have hc2 := hc
      simp only [cc] at hc
      split at hc
      · rename_i c' hc1
        simp at hc
        subst hc
        obtain ⟨n, ts, g1, g2, g5⟩ := ih1 hc1
        obtain ⟨m, ts', g3, g4, g6⟩ := ih2 hc2
        have g2 := g2.resolve_left (fun ⟨_, h⟩ => by cases h)
        subst g2
        refine ⟨max n m + 1, ts', ?_, g4, g6⟩
        rw [Q.vexec, vexec_mono (Nat.le_max_left n m) g1]
        exact vexec_mono (Nat.le_max_right n m) g3
      · cases hc
    | region i o d => exact (cc_region hc (fun _ h => by cases h) (fun _ _ _ h => by cases h) (fun _ h => by cases h)).elim
    | _ => simp only [cc] at hc <;> (try split at hc) <;> simp at hc
  | loopX h1 hx ih1 =>
    intro c0 hc
    cases c0 with
    | loop c1 =>
      simp only [cc] at hc
      split at hc
      · rename_i c' hc1
        simp at hc
        subst hc
        obtain ⟨n, ts, g1, g2, g5⟩ := ih1 hc1
        refine ⟨n + 1, ts, ?_, g2, fun h => g5 (by simpa only [calm] using h)⟩
        rw [Q.vexec, g1]
        split
        · rename_i h9; injection h9 with h9; injection h9 with h9; exact absurd h9 hx
        · rfl
      · cases hc
    | region i o d => exact (cc_region hc (fun _ h => by cases h) (fun _ _ _ h => by cases h) (fun _ h => by cases h)).elim
    | _ => simp only [cc] at hc <;> (try split at hc) <;> simp at hc
  | rf hf hd ho =>
    intro c0 hc
    cases c0 with
    | rangeFunc f ps asg body =>
      simp only [cc] at hc
      injection hc with hc
      injection hc with h1 h2 h3 h4
      subst h1 h2 h3 h4
      obtain ⟨n, hd⟩ := hd
      refine ⟨n + 1, _, ?_, .inr rfl, fun _ => rfl⟩
      rw [Q.vexec, hf]
      simp only [hd]
      exact ho
    | region i o d => exact (cc_region hc (fun _ h => by cases h) (fun _ _ _ h => by cases h) (fun _ h => by cases h)).elim
    | _ => simp only [cc] at hc <;> (try split at hc) <;> simp at hc
end

/-- Code comes to an end with this. -/
def Ev (P : Program) (pr : Prim) (N : Nat) (c : CC) (e : Nat → V) (σ : St) (Q : VX → (Nat → V) → St → Prop) : Prop := ∃ x e' σ', Big P pr N c e σ x e' σ' ∧ Q x e' σ'

def seqK (K : (Nat → V) → St → Prop) (Q : VX → (Nat → V) → St → Prop) : VX → (Nat → V) → St → Prop := fun x e σ => match x with
  | .normal => K e σ
  | x => Q x e σ

def blockK (id : Nat) (Q : VX → (Nat → V) → St → Prop) : VX → (Nat → V) → St → Prop := fun x e σ => match x with
  | .exit i => if i = id then Q .normal e σ else Q (.exit i) e σ
  | x => Q x e σ

section
variable {P : Program} {pr : Prim} {N : Nat} {e : Nat → V} {σ : St} {Q : VX → (Nat → V) → St → Prop}

theorem Ev_skip : Ev P pr N .skip e σ Q ↔ Q .normal e σ := ⟨fun ⟨_, _, _, h, q⟩ => by cases h; exact q, fun h => ⟨_, _, _, .skip, h⟩⟩
theorem Ev_exit {id : Nat} : Ev P pr N (.exit id) e σ Q ↔ Q (.exit id) e σ := ⟨fun ⟨_, _, _, h, q⟩ => by cases h; exact q, fun h => ⟨_, _, _, .exit, h⟩⟩
theorem Ev_ret : Ev P pr N .ret e σ Q ↔ Q .ret e σ := ⟨fun ⟨_, _, _, h, q⟩ => by cases h; exact q, fun h => ⟨_, _, _, .ret, h⟩⟩
theorem EoH.mono : ∀ {l : List (Bool × COp)} {e : Nat → V} {σ : St} {K K' : VX → (Nat → V) → St → Prop}, EoH P pr N l e σ K → (∀ x e σ, K x e σ → K' x e σ) → (∀ {l : List COp} {e : Nat → V} {σ : St} {K K' : VX → (Nat → V) → St → Prop}, Eo P pr N l e σ K → (∀ x e σ, K x e σ → K' x e σ) → Eo P pr N l e σ K') → EoH P pr N l e σ K'
  | [], e, σ, K, K', h, hk, _ => hk _ _ _ h
  | (b, o) :: l, e, σ, K, K', h, hk, mo => by
    rw [EoH] at h ⊢
    split
    · rename_i hb
      rw [if_pos hb] at h
      split
      · rename_i hw
        rw [if_pos hw] at h
        obtain ⟨v, σ', h1, h2⟩ := h
        exact ⟨v, σ', h1, EoH.mono h2 hk mo⟩
      · rename_i hw
        rw [if_neg hw] at h
        exact EoH.mono h hk mo
    · rename_i hb
      rw [if_neg hb] at h
      refine mo h fun x e σ hx => ?_
      cases x with
      | normal => exact EoH.mono hx hk mo
      | pan v => exact hk _ _ _ hx
      | _ => exact hx
theorem EoH.split (mo : ∀ {l : List COp} {e : Nat → V} {σ : St} {K K' : VX → (Nat → V) → St → Prop}, Eo P pr N l e σ K → (∀ x e σ, K x e σ → K' x e σ) → Eo P pr N l e σ K') : ∀ {l : List (Bool × COp)} {e : Nat → V} {σ : St} {K : VX → (Nat → V) → St → Prop}, EoH P pr N l e σ K → ∃ x e' σ', K x e' σ' ∧ EoH P pr N l e σ fun x1 e1 σ1 => x1 = x ∧ e1 = e' ∧ σ1 = σ'
  | [], e, σ, K, h => ⟨_, _, _, h, rfl, rfl, rfl⟩
  | (b, o) :: l, e, σ, K, h => by
    rw [EoH] at h
    split at h
    · rename_i hb
      split at h
      · rename_i hw
        obtain ⟨v, σ', h1, h2⟩ := h
        obtain ⟨x, e', σ2, hk, he⟩ := EoH.split mo h2
        refine ⟨x, e', σ2, hk, ?_⟩
        rw [EoH, if_pos hb, if_pos hw]
        exact ⟨v, σ', h1, he⟩
      · rename_i hw
        obtain ⟨x, e', σ2, hk, he⟩ := EoH.split mo h
        refine ⟨x, e', σ2, hk, ?_⟩
        rw [EoH, if_pos hb, if_neg hw]
        exact he
    · rename_i hb
      obtain ⟨x, e1, σ1, hx, hE⟩ := Eo.split h
      cases x with
      | normal =>
        obtain ⟨x2, e2, σ2, hk, hW⟩ := EoH.split mo hx
        refine ⟨x2, e2, σ2, hk, ?_⟩
        rw [EoH, if_neg hb]
        exact mo hE fun x e σ ⟨q1, q2, q3⟩ => by subst q1 q2 q3; exact hW
      | pan v =>
        refine ⟨_, _, _, hx, ?_⟩
        rw [EoH, if_neg hb]
        exact mo hE fun x e σ ⟨q1, q2, q3⟩ => by subst q1 q2 q3; exact ⟨rfl, rfl, rfl⟩
      | _ => exact hx.elim

theorem Ev.region {l : List COp} (h : Eo P pr N l e σ Q) : Ev P pr N (.region l) e σ Q := by
  obtain ⟨x, e', σ', h1, h2⟩ := h.split
  exact ⟨x, e', σ', .region h2, h1⟩
theorem Ev_seq {a b : CC} : Ev P pr N (.seq a b) e σ Q ↔ Ev P pr N a e σ (seqK (fun e' σ' => Ev P pr N b e' σ' Q) Q) := by
  constructor
  · rintro ⟨x, e', σ', h, q⟩
    cases h with
    | seq h1 h2 => exact ⟨_, _, _, h1, _, _, _, h2, q⟩
    | seqX h1 hx => exact ⟨x, _, _, h1, by cases x <;> first | exact absurd rfl hx | exact q⟩
  · rintro ⟨x, e', σ', h, q⟩
    cases x with
    | normal => obtain ⟨x2, e2, σ2, h2, q2⟩ := q; exact ⟨_, _, _, .seq h h2, q2⟩
    | _ => exact ⟨_, _, _, .seqX h (by simp), q⟩
theorem Ev_cond {c : Operand} {a b : CC} {t : Bool} (hc : evs (env N e) c = some (.bool t)) : Ev P pr N (.cond c a b) e σ Q ↔ Ev P pr N (if t then a else b) e σ Q := by
  constructor
  · rintro ⟨x, e', σ', h, q⟩
    cases h with
    | cond hc2 h => rw [hc] at hc2; injection hc2 with hc2; injection hc2 with hc2; subst hc2; exact ⟨_, _, _, h, q⟩
  · rintro ⟨x, e', σ', h, q⟩
    exact ⟨_, _, _, .cond hc h, q⟩
theorem Ev_block {id : Nat} {c : CC} : Ev P pr N (.block id c) e σ Q ↔ Ev P pr N c e σ (blockK id Q) := by
  constructor
  · rintro ⟨x, e', σ', h, q⟩
    cases h with
    | block h => exact ⟨_, _, _, h, by simp only [blockK, if_true]; exact q⟩
    | blockX h hx =>
      refine ⟨_, _, _, h, ?_⟩
      cases x with
      | exit i => simp only [blockK]; rw [if_neg (fun e => hx (by rw [e]))]; exact q
      | _ => exact q
  · rintro ⟨x, e', σ', h, q⟩
    cases x with
    | exit i =>
      simp only [blockK] at q
      split at q
      · rename_i hi; subst hi; exact ⟨_, _, _, .block h, q⟩
      · rename_i hi; exact ⟨_, _, _, .blockX h (fun e => hi (by injection e)), q⟩
    | _ => exact ⟨_, _, _, .blockX h (by simp), q⟩
theorem Ev_loop {c : CC} : Ev P pr N (.loop c) e σ Q ↔ Ev P pr N c e σ (seqK (fun e' σ' => Ev P pr N (.loop c) e' σ' Q) Q) := by
  constructor
  · rintro ⟨x, e', σ', h, q⟩
    cases h with
    | loop h1 h2 => exact ⟨_, _, _, h1, _, _, _, h2, q⟩
    | loopX h1 hx => exact ⟨x, _, _, h1, by cases x <;> first | exact absurd rfl hx | exact q⟩
  · rintro ⟨x, e', σ', h, q⟩
    cases x with
    | normal => obtain ⟨x2, e2, σ2, h2, q2⟩ := q; exact ⟨_, _, _, .loop h h2, q2⟩
    | _ => exact ⟨_, _, _, .loopX h (by simp), q⟩

theorem Ev.mono {c : CC} {Q' : VX → (Nat → V) → St → Prop} (h : Ev P pr N c e σ Q) (hq : ∀ x e σ, Q x e σ → Q' x e σ) : Ev P pr N c e σ Q' := by
  obtain ⟨x, e', σ', h1, h2⟩ := h
  exact ⟨x, e', σ', h1, hq _ _ _ h2⟩

/-- A loop with what holds at its head, and a measure that falls. -/
theorem Ev.loop {ι : Type} {c : CC} (I : ι → (Nat → V) → St → Prop) (m : ι → Nat) (h : ∀ i e σ, I i e σ → Ev P pr N c e σ (seqK (fun e' σ' => ∃ j, I j e' σ' ∧ m j < m i) Q)) (i : ι) (hi : I i e σ) : Ev P pr N (.loop c) e σ Q := by
  generalize hk : m i = k
  induction k using Nat.strongRecOn generalizing i e σ with
  | _ k ih =>
    rw [Ev_loop]
    refine (h i e σ hi).mono fun x e' σ' hx => ?_
    cases x with
    | normal => obtain ⟨j, hj, hlt⟩ := hx; exact ih (m j) (by omega) j hj rfl
    | _ => exact hx

/-- What a function's code gives the caller. -/
def fnK (P : Program) (N : Nat) (rs : List ResultVar) (R : VRes → St → Prop) : VX → (Nat → V) → St → Prop := fun x e σ => match x with
  | .normal => ∃ vs, vresults P σ (env N e) rs = some vs ∧ R (.ret (vtuple vs)) σ
  | .ret => ∃ vs, vresults P σ (env N e) rs = some vs ∧ R (.ret (vtuple vs)) σ
  | .pan v => R (.pan v) σ
  | .exit _ => False

/-- What is to be known of a function. -/
structure FnIs (P : Program) (pr : Prim) (f : FuncId) (N : Nat) (rs : List ResultVar) (c : CC) : Prop where
  h : ∃ fn c0, P.funcs[f]? = some fn ∧ fn.body = some c0 ∧ (fnOk fn && !hasDefer c0) = true ∧ fn.ntmps = N ∧ fn.results.toList = rs ∧ cc P pr.hot N c0 = some c
  prim : pr.is f = false

/-- A function's frame and code. -/
def fnCC (P : Program) (pr : Prim) (fn : Func) : Option (Nat × List ResultVar × CC) := match fn.body with
  | some c0 => if (fnOk fn && !hasDefer c0) = true then (cc P pr.hot fn.ntmps c0).map fun c => (fn.ntmps, fn.results.toList, c) else none
  | none => none

theorem FnIs.of_fn {f : FuncId} {fn : Func} {N : Nat} {rs : List ResultVar} {c : CC} (hf : P.funcs[f]? = some fn) (h : fnCC P pr fn = some (N, rs, c)) (hpr : pr.is f = false) : FnIs P pr f N rs c := by
  unfold fnCC at h
  split at h
  · rename_i c0 hb
    split at h
    · rename_i hk
      rw [Option.map_eq_some_iff] at h
      obtain ⟨c1, h1, h2⟩ := h
      injection h2 with h2 h3
      injection h3 with h3 h4
      subst h2 h3 h4
      exact ⟨⟨fn, c0, hf, hb, hk, rfl, rfl, h1⟩, hpr⟩
    · cases h
  · cases h

theorem FnIs.does {f : FuncId} {N : Nat} {rs : List ResultVar} {c : CC} (hf : FnIs P pr f N rs c) {vs : List V} {σ : St} {R : VRes → St → Prop} (hl : vs.length ≤ N) (h : Ev P pr N c (fun i => vs.getD i (.tuple [])) σ (fnK P N rs R)) : ∃ r σ', Does P pr f vs σ r σ' ∧ R r σ' := by
  obtain ⟨⟨fn, c0, h1, h2, h3, h4, h5, h6⟩, hpr⟩ := hf
  obtain ⟨x, e', σ', hb, hk⟩ := h
  obtain ⟨n, ts, hv, hts, _⟩ := hb.vexec h6
  simp only [Bool.and_eq_true, Bool.not_eq_true'] at h3
  have call : ∀ {r : VRes}, (match (some (x, ts, σ') : Option (VX × List V × St)) with
          | some (.normal, tmps, σ') => (vresults P σ' tmps fn.results.toList).map fun rs => (VRes.ret (vtuple rs), σ')
          | some (.ret, tmps, σ') => (vresults P σ' tmps fn.results.toList).map fun rs => (VRes.ret (vtuple rs), σ')
          | some (.pan v, _, σ') => some (.pan v, σ')
          | _ => none) = some (r, σ') → Does P pr f vs σ r σ' := by
    intro r hr
    refine ⟨n + 1, ?_⟩
    rw [vcall, if_neg (by simp [hpr])]
    simp only [h1, h2, h3.1, if_true, h4, if_neg (show ¬ hasDefer c0 = true by rw [h3.2]; decide)]
    rw [env_start vs hl, hv]
    exact hr
  cases x with
  | normal =>
    have hts := hts.resolve_left (fun ⟨_, h⟩ => by cases h)
    obtain ⟨rv, hrv, hR⟩ := hk
    exact ⟨_, _, call (by simp only [hts, h5, hrv]; rfl), hR⟩
  | ret =>
    have hts := hts.resolve_left (fun ⟨_, h⟩ => by cases h)
    obtain ⟨rv, hrv, hR⟩ := hk
    exact ⟨_, _, call (by simp only [hts, h5, hrv]; rfl), hR⟩
  | pan v => exact ⟨_, _, call rfl, hk⟩
  | exit id => exact hk.elim

theorem FnIs.ret {f : FuncId} {N : Nat} {rs : List ResultVar} {c : CC} (hf : FnIs P pr f N rs c) {vs : List V} {σ σ' : St} {r : VRes} (hl : vs.length ≤ N) (h : Ev P pr N c (fun i => vs.getD i (.tuple [])) σ (fnK P N rs fun r1 σ1 => r1 = r ∧ σ1 = σ')) : Does P pr f vs σ r σ' := by
  obtain ⟨r1, σ1, h1, rfl, rfl⟩ := hf.does hl h
  exact h1

theorem Does.iff {f : FuncId} {vs : List V} {σ : St} {r r2 : VRes} {σ' σ2 : St} (h : Does P pr f vs σ r σ') : Does P pr f vs σ r2 σ2 ↔ r2 = r ∧ σ2 = σ' :=
  ⟨fun h2 => h2.det h, fun ⟨e1, e2⟩ => by rw [e1, e2]; exact h⟩
end
end Go.Proofs.Ytmcadfejkcpblaa.Q
