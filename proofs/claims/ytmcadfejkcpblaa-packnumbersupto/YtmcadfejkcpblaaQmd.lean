/- Functions that put calls off, and those that recover: rules to walk through them. -/
import Derived.Test.YtmcadfejkcpblaaQn
set_option linter.unusedVariables false
set_option linter.unusedSimpArgs false
namespace Go.Proofs.Ytmcadfejkcpblaa.Q
open Go Go.RowKit

inductive CD where
  | code (c : CC)
  | reg (l : List COp) (f : Operand) (as_ : List Operand)
  | seq (a b : CD)
  | cond (c : Operand) (a b : CD)

/-- Without loops over functions. -/
def ccN (P : Program) (hot : Oper → Bool) (N : Nat) (c : Code) : Option CC := if hasRF c then none else cc P hot N c
def ccD (P : Program) (hot : Oper → Bool) (N : Nat) : Code → Option CD
  | .region i ops false => match ops.toList.getLast?.bind deferOf with
    | some (f, as_) => (cops N ops false ops.toList.dropLast 0).map fun l => .reg l f as_
    | none => (ccN P hot N (.region i ops false)).map .code
  | .seq a b => match ccD P hot N a, ccD P hot N b with
    | some a, some b => some (.seq a b)
    | _, _ => none
  | .cond c a b => match ccD P hot N a, ccD P hot N b with
    | some a, some b => some (.cond c a b)
    | _, _ => none
  | c => (ccN P hot N c).map .code

abbrev QD := VX → (Nat → V) → St → Ds → Prop
/-- What stands behind a call that was put off. -/
def regK (N : Nat) (f : Operand) (as_ : List Operand) (Q : QD) : VX → (Nat → V) → St → Prop := fun x e σ => match x with
  | .normal => ∃ fid caps vs, evs (env N e) f = some (.func fid caps) ∧ evAll (env N e) as_ = some vs ∧ Q .normal e σ [(fid, vs ++ caps)]
  | .pan v => Q (.pan v) e σ []
  | _ => False
def plainK (Q : QD) : VX → (Nat → V) → St → Prop := fun x e σ => Q x e σ []
def seqD (K : (Nat → V) → St → Ds → Prop) (Q : QD) : QD := fun x e σ ds => match x with
  | .normal => K e σ ds
  | x => Q x e σ ds
def moreD (ds : Ds) (Q : QD) : QD := fun x e σ ds' => Q x e σ (ds' ++ ds)

def EvD (P : Program) (pr : Prim) (N : Nat) : CD → (Nat → V) → St → QD → Prop
  | .code c, e, σ, Q => Ev P pr N c e σ (plainK Q)
  | .reg l f as_, e, σ, Q => Eo P pr N l e σ (regK N f as_ Q)
  | .seq a b, e, σ, Q => EvD P pr N a e σ (seqD (fun e' σ' ds => EvD P pr N b e' σ' (moreD ds Q)) Q)
  | .cond c a b, e, σ, Q => match evs (env N e) c with
    | some (.bool true) => EvD P pr N a e σ Q
    | some (.bool false) => EvD P pr N b e σ Q
    | _ => False

section
variable {P : Program} {pr : Prim} {N : Nat}

abbrev Rn (P : Program) (pr : Prim) (n : Nat) : RunC := fun c t s => if hasRF c then none else vexec P pr n c t s
abbrev Ro (P : Program) (pr : Prim) (n : Nat) : RunO := fun o l t s => vops P pr n o l t s
theorem Rn_le {n m : Nat} (h : n ≤ m) : LeE (Rn P pr n) (Rn P pr m) := fun c t s r hr => by
  simp only [Rn] at hr ⊢
  split at hr
  · cases hr
  · rename_i h9; rw [if_neg h9]; exact vexec_mono h hr
theorem Ro_le {n m : Nat} (h : n ≤ m) : LeO (Ro P pr n) (Ro P pr m) := fun o l t s r hr => vops_mono h hr

theorem ccD_code {c0 : Code} {c : CD} {σ : St} (h : (ccN P pr.hot N c0).map CD.code = some c) (hD : ∀ (E : RunC) (O : RunO) tmps σ, codeD E O c0 tmps σ = (E c0 tmps σ).map fun r => (r.1, r.2.1, r.2.2, [])) {e : Nat → V} {Q : QD} (hE : EvD P pr N c e σ Q) (hc : calm c0 = true) :
    ∃ n x e' σ' ds, codeD (Rn P pr n) (Ro P pr n) c0 (env N e) σ = some (x, env N e', σ', ds) ∧ Q x e' σ' ds := by
  rw [Option.map_eq_some_iff] at h
  obtain ⟨c1, h1, rfl⟩ := h
  unfold ccN at h1
  split at h1
  · cases h1
  rename_i hrf
  obtain ⟨x, e', σ', hb, hq⟩ := hE
  obtain ⟨n, ts, hv, _, hcalm⟩ := hb.vexec h1
  have := hcalm hc
  subst this
  refine ⟨n, x, e', σ', [], ?_, hq⟩
  rw [hD, show (Rn P pr n) c0 (env N e) σ = _ from (if_neg hrf).trans hv]
  rfl

/-- The walk shows what the run does. -/
theorem EvD.run : ∀ (c0 : Code) {c : CD}, ccD P pr.hot N c0 = some c → calm c0 = true → ∀ {e : Nat → V} {σ : St} {Q : QD}, EvD P pr N c e σ Q → ∃ n x e' σ' ds, codeD (Rn P pr n) (Ro P pr n) c0 (env N e) σ = some (x, env N e', σ', ds) ∧ Q x e' σ' ds
  | .region i ops true, c, h, hc, e, σ, Q, hE => ccD_code (by simpa only [ccD] using h) (fun _ _ _ _ => by simp only [codeD]) hE hc
  | .region i ops false, c, h, hc, e, σ, Q, hE => by
    rw [ccD] at h
    split at h
    · rename_i f as_ hl
      rw [Option.map_eq_some_iff] at h
      obtain ⟨l, h1, rfl⟩ := h
      obtain ⟨x, e', σ', hk, hr⟩ := Eo.split hE
      obtain ⟨n, ts, hv, hts⟩ := Eo.vops h1 hr
      cases x with
      | normal =>
        obtain ⟨fid, caps, vs, k1, k2, k3⟩ := hk
        rcases hts with ⟨_, hts⟩ | ⟨v, hx, _⟩
        · subst hts
          refine ⟨n, .normal, e', σ', _, ?_, k3⟩
          rw [codeD, hl]
          simp only [show (Ro P pr n) ops ops.toList.dropLast (env N e) σ = _ from hv, k1, k2]
        · cases hx
      | pan v =>
        rcases hts with ⟨hx, _⟩ | ⟨v', hx, hts, _⟩
        · cases hx
        · subst hts
          refine ⟨n, .pan v, e', σ', [], ?_, hk⟩
          rw [codeD, hl]
          simp only [show (Ro P pr n) ops ops.toList.dropLast (env N e) σ = _ from hv]
      | ret => exact hk.elim
      | exit i => exact hk.elim
    · rename_i hl
      exact ccD_code h (fun _ _ _ _ => by rw [codeD, hl]) hE hc
  | .seq a b, c, h, hc, e, σ, Q, hE => by
    rw [ccD] at h
    simp only [calm, Bool.and_eq_true] at hc
    split at h
    · rename_i a' b' ha hb
      injection h with h
      subst h
      obtain ⟨n, x, e1, σ1, ds, hr, hk⟩ := EvD.run a ha hc.1 hE
      cases x with
      | normal =>
        obtain ⟨m, x2, e2, σ2, ds2, hr2, hk2⟩ := EvD.run b hb hc.2 hk
        refine ⟨max n m, x2, e2, σ2, ds2 ++ ds, ?_, hk2⟩
        rw [codeD, codeD_le (Rn_le (Nat.le_max_left n m)) (Ro_le (Nat.le_max_left n m)) a hr]
        simp only [codeD_le (Rn_le (Nat.le_max_right n m)) (Ro_le (Nat.le_max_right n m)) b hr2]
        rfl
      | exit i => exact ⟨n, _, e1, σ1, ds, by rw [codeD, hr], hk⟩
      | ret => exact ⟨n, _, e1, σ1, ds, by rw [codeD, hr], hk⟩
      | pan v => exact ⟨n, _, e1, σ1, ds, by rw [codeD, hr], hk⟩
    · cases h
  | .cond o a b, c, h, hc, e, σ, Q, hE => by
    rw [ccD] at h
    simp only [calm, Bool.and_eq_true] at hc
    split at h
    · rename_i a' b' ha hb
      injection h with h
      subst h
      rw [EvD] at hE
      split at hE
      · rename_i ho
        obtain ⟨n, x, e1, σ1, ds, hr, hk⟩ := EvD.run a ha hc.1 hE
        exact ⟨n, x, e1, σ1, ds, by rw [codeD, ho]; exact hr, hk⟩
      · rename_i ho
        obtain ⟨n, x, e1, σ1, ds, hr, hk⟩ := EvD.run b hb hc.2 hE
        exact ⟨n, x, e1, σ1, ds, by rw [codeD, ho]; exact hr, hk⟩
      · exact hE.elim
    · cases h
  | .skip, c, h, hc, e, σ, Q, hE => ccD_code (by simpa only [ccD] using h) (fun _ _ _ _ => by simp only [codeD]) hE hc
  | .label l, c, h, hc, e, σ, Q, hE => ccD_code (by simpa only [ccD] using h) (fun _ _ _ _ => by simp only [codeD]) hE hc
  | .exit i, c, h, hc, e, σ, Q, hE => ccD_code (by simpa only [ccD] using h) (fun _ _ _ _ => by simp only [codeD]) hE hc
  | .ret, c, h, hc, e, σ, Q, hE => ccD_code (by simpa only [ccD] using h) (fun _ _ _ _ => by simp only [codeD]) hE hc
  | .block i b, c, h, hc, e, σ, Q, hE => ccD_code (by simpa only [ccD] using h) (fun _ _ _ _ => by simp only [codeD]) hE hc
  | .loop b, c, h, hc, e, σ, Q, hE => ccD_code (by simpa only [ccD] using h) (fun _ _ _ _ => by simp only [codeD]) hE hc
  | .rangeFunc f ps as_ b, c, h, hc, e, σ, Q, hE => ccD_code (by simpa only [ccD] using h) (fun _ _ _ _ => by simp only [codeD]) hE hc
  | .scope b, c, h, hc, e, σ, Q, hE => ccD_code (by simpa only [ccD] using h) (fun _ _ _ _ => by simp only [codeD]) hE hc
  | .goto l, c, h, hc, e, σ, Q, hE => ccD_code (by simpa only [ccD] using h) (fun _ _ _ _ => by simp only [codeD]) hE hc
  | .refuse y, c, h, hc, e, σ, Q, hE => ccD_code (by simpa only [ccD] using h) (fun _ _ _ _ => by simp only [codeD]) hE hc

/-! ### The function whose call was put off -/
inductive CS where
  | code (c : CC)
  | reg (d : Option Nat) (l : List COp)
  | seq (a b : CS)
  | cond (c : Operand) (a b : CS)

def ccS (P : Program) (hot : Oper → Bool) (N : Nat) : Code → Option CS
  | .region i ops false => match ops.toList with
    | o :: rest => if isRec o = true then (cops N ops false rest 1).map fun l => .reg o.dst l else (ccN P hot N (.region i ops false)).map .code
    | [] => none
  | .seq a b => match ccS P hot N a, ccS P hot N b with
    | some a, some b => some (.seq a b)
    | _, _ => none
  | .cond c a b => match ccS P hot N a, ccS P hot N b with
    | some a, some b => some (.cond c a b)
    | _, _ => none
  | c => (ccN P hot N c).map .code

abbrev QS := VX → (Nat → V) → Pn → St → Prop
def plainS' (m : Pn) (Q : QS) : VX → (Nat → V) → St → Prop := fun x e σ => Q x e m σ
def seqS (K : (Nat → V) → Pn → St → Prop) (Q : QS) : QS := fun x e m σ => match x with
  | .normal => K e m σ
  | x => Q x e m σ
def EvS (P : Program) (pr : Prim) (N : Nat) : CS → (Nat → V) → Pn → St → QS → Prop
  | .code c, e, m, σ, Q => Ev P pr N c e σ (plainS' m Q)
  | .reg d l, e, m, σ, Q => Eo P pr N l (upd e d (recV m).1) σ (plainS' (recV m).2 Q)
  | .seq a b, e, m, σ, Q => EvS P pr N a e m σ (seqS (fun e' m' σ' => EvS P pr N b e' m' σ' Q) Q)
  | .cond c a b, e, m, σ, Q => match evs (env N e) c with
    | some (.bool true) => EvS P pr N a e m σ Q
    | some (.bool false) => EvS P pr N b e m σ Q
    | _ => False

theorem ccS_code {c0 : Code} {c : CS} {m : Pn} {σ : St} (h : (ccN P pr.hot N c0).map CS.code = some c) (hD : ∀ (E : RunC) (O : RunO) tmps m σ, codeS E O c0 tmps m σ = (E c0 tmps σ).map fun r => (r.1, r.2.1, m, r.2.2)) {e : Nat → V} {Q : QS} (hE : EvS P pr N c e m σ Q) (hc : calm c0 = true) :
    ∃ n x e' m' σ', codeS (Rn P pr n) (Ro P pr n) c0 (env N e) m σ = some (x, env N e', m', σ') ∧ Q x e' m' σ' := by
  rw [Option.map_eq_some_iff] at h
  obtain ⟨c1, h1, rfl⟩ := h
  unfold ccN at h1
  split at h1
  · cases h1
  rename_i hrf
  obtain ⟨x, e', σ', hb, hq⟩ := hE
  obtain ⟨n, ts, hv, _, hcalm⟩ := hb.vexec h1
  have := hcalm hc
  subst this
  refine ⟨n, x, e', m, σ', ?_, hq⟩
  rw [hD, show (Rn P pr n) c0 (env N e) σ = _ from (if_neg hrf).trans hv]
  rfl

theorem EvS.run : ∀ (c0 : Code) {c : CS}, ccS P pr.hot N c0 = some c → calm c0 = true → ∀ {e : Nat → V} {m : Pn} {σ : St} {Q : QS}, EvS P pr N c e m σ Q → ∃ n x e' m' σ', codeS (Rn P pr n) (Ro P pr n) c0 (env N e) m σ = some (x, env N e', m', σ') ∧ Q x e' m' σ'
  | .region i ops true, c, h, hc, e, m, σ, Q, hE => ccS_code (by simpa only [ccS] using h) (fun _ _ _ _ _ => by simp only [codeS]) hE hc
  | .region i ops false, c, h, hc, e, m, σ, Q, hE => by
    rw [ccS] at h
    split at h
    · rename_i o rest ho
      split at h
      · rename_i hr
        rw [Option.map_eq_some_iff] at h
        obtain ⟨l, h1, rfl⟩ := h
        obtain ⟨x, e', σ', hk, hrun⟩ := Eo.split hE
        obtain ⟨n, ts, hv, hts⟩ := Eo.vops h1 hrun
        have hte : ts = env N e' := by
          rcases hts with ⟨_, h⟩ | ⟨_, _, h, _⟩
          · exact h
          · exact h
        subst hte
        refine ⟨n, x, e', (recV m).2, σ', ?_, hk⟩
        rw [codeS, ho]
        simp only [hr, if_true, vput_env]
        rw [show (Ro P pr n) ops rest (env N (upd e o.dst (recV m).1)) σ = _ from hv]
        rfl
      · rename_i hr
        exact ccS_code h (fun _ _ _ _ _ => by rw [codeS, ho]; simp only [hr]; rfl) hE hc
    · cases h
  | .seq a b, c, h, hc, e, m, σ, Q, hE => by
    rw [ccS] at h
    simp only [calm, Bool.and_eq_true] at hc
    split at h
    · rename_i a' b' ha hb
      injection h with h
      subst h
      obtain ⟨n, x, e1, m1, σ1, hr, hk⟩ := EvS.run a ha hc.1 hE
      cases x with
      | normal =>
        obtain ⟨k, x2, e2, m2, σ2, hr2, hk2⟩ := EvS.run b hb hc.2 hk
        refine ⟨max n k, x2, e2, m2, σ2, ?_, hk2⟩
        rw [codeS, codeS_le (Rn_le (Nat.le_max_left n k)) (Ro_le (Nat.le_max_left n k)) a hr]
        simp only [codeS_le (Rn_le (Nat.le_max_right n k)) (Ro_le (Nat.le_max_right n k)) b hr2]
      | exit i => exact ⟨n, _, e1, m1, σ1, by rw [codeS, hr], hk⟩
      | ret => exact ⟨n, _, e1, m1, σ1, by rw [codeS, hr], hk⟩
      | pan v => exact ⟨n, _, e1, m1, σ1, by rw [codeS, hr], hk⟩
    · cases h
  | .cond o a b, c, h, hc, e, m, σ, Q, hE => by
    rw [ccS] at h
    simp only [calm, Bool.and_eq_true] at hc
    split at h
    · rename_i a' b' ha hb
      injection h with h
      subst h
      rw [EvS] at hE
      split at hE
      · rename_i ho
        obtain ⟨n, x, e1, m1, σ1, hr, hk⟩ := EvS.run a ha hc.1 hE
        exact ⟨n, x, e1, m1, σ1, by rw [codeS, ho]; exact hr, hk⟩
      · rename_i ho
        obtain ⟨n, x, e1, m1, σ1, hr, hk⟩ := EvS.run b hb hc.2 hE
        exact ⟨n, x, e1, m1, σ1, by rw [codeS, ho]; exact hr, hk⟩
      · exact hE.elim
    · cases h
  | .skip, c, h, hc, e, m, σ, Q, hE => ccS_code (by simpa only [ccS] using h) (fun _ _ _ _ _ => by simp only [codeS]) hE hc
  | .label l, c, h, hc, e, m, σ, Q, hE => ccS_code (by simpa only [ccS] using h) (fun _ _ _ _ _ => by simp only [codeS]) hE hc
  | .exit i, c, h, hc, e, m, σ, Q, hE => ccS_code (by simpa only [ccS] using h) (fun _ _ _ _ _ => by simp only [codeS]) hE hc
  | .ret, c, h, hc, e, m, σ, Q, hE => ccS_code (by simpa only [ccS] using h) (fun _ _ _ _ _ => by simp only [codeS]) hE hc
  | .block i b, c, h, hc, e, m, σ, Q, hE => ccS_code (by simpa only [ccS] using h) (fun _ _ _ _ _ => by simp only [codeS]) hE hc
  | .loop b, c, h, hc, e, m, σ, Q, hE => ccS_code (by simpa only [ccS] using h) (fun _ _ _ _ _ => by simp only [codeS]) hE hc
  | .rangeFunc f ps as_ b, c, h, hc, e, m, σ, Q, hE => ccS_code (by simpa only [ccS] using h) (fun _ _ _ _ _ => by simp only [codeS]) hE hc
  | .scope b, c, h, hc, e, m, σ, Q, hE => ccS_code (by simpa only [ccS] using h) (fun _ _ _ _ _ => by simp only [codeS]) hE hc
  | .goto l, c, h, hc, e, m, σ, Q, hE => ccS_code (by simpa only [ccS] using h) (fun _ _ _ _ _ => by simp only [codeS]) hE hc
  | .refuse y, c, h, hc, e, m, σ, Q, hE => ccS_code (by simpa only [ccS] using h) (fun _ _ _ _ _ => by simp only [codeS]) hE hc

/-- The calls that were put off, one behind the other. -/
def Leave (P : Program) (pr : Prim) (ds : Ds) (m : Pn) (σ : St) (m' : Pn) (σ' : St) : Prop := ∃ n, leaveD P (Rn P pr n) (Ro P pr n) ds m σ = some (m', σ')
theorem Leave.nil {m : Pn} {σ : St} : Leave P pr [] m σ m σ := ⟨0, rfl⟩
/-- One call that was put off. -/
def DoesS (P : Program) (pr : Prim) (f : FuncId) (vs : List V) (m : Pn) (σ : St) (m' : Pn) (σ' : St) : Prop := ∃ n, defOne P (Rn P pr n) (Ro P pr n) f vs m σ = some (m', σ')
theorem Leave.cons {f : FuncId} {vs : List V} {ds : Ds} {m m1 m' : Pn} {σ σ1 σ' : St} (h : DoesS P pr f vs m σ m1 σ1) (h2 : Leave P pr ds (settleV m1) σ1 m' σ') : Leave P pr ((f, vs) :: ds) m σ m' σ' := by
  obtain ⟨n, h⟩ := h
  obtain ⟨k, h2⟩ := h2
  refine ⟨max n k, ?_⟩
  rw [leaveD, defOne_le (Rn_le (Nat.le_max_left n k)) (Ro_le (Nat.le_max_left n k)) h]
  exact leaveD_le (Rn_le (Nat.le_max_right n k)) (Ro_le (Nat.le_max_right n k)) h2

structure FnS (P : Program) (pr : Prim) (f : FuncId) (N : Nat) (rs : List ResultVar) (c : CS) : Prop where
  h : ∃ fn c0, P.funcs[f]? = some fn ∧ fn.body = some c0 ∧ (fnOk fn && calm c0) = true ∧ fn.ntmps = N ∧ fn.results.toList = rs ∧ ccS P pr.hot N c0 = some c
def fnCS (P : Program) (pr : Prim) (fn : Func) : Option (Nat × List ResultVar × CS) := match fn.body with
  | some c0 => if (fnOk fn && calm c0) = true then (ccS P pr.hot fn.ntmps c0).map fun c => (fn.ntmps, fn.results.toList, c) else none
  | none => none
theorem FnS.of_fn {f : FuncId} {fn : Func} {N : Nat} {rs : List ResultVar} {c : CS} (hf : P.funcs[f]? = some fn) (h : fnCS P pr fn = some (N, rs, c)) : FnS P pr f N rs c := by
  unfold fnCS at h
  split at h
  · rename_i c0 hb
    split at h
    · rename_i hk
      rw [Option.map_eq_some_iff] at h
      obtain ⟨c1, h1, h2⟩ := h
      injection h2 with h2 h3
      injection h3 with h3 h4
      subst h2 h3 h4
      exact ⟨⟨fn, c0, hf, hb, hk, rfl, rfl, h1⟩⟩
    · cases h
  · cases h
def fnSK (P : Program) (N : Nat) (rs : List ResultVar) (R : Pn → St → Prop) : QS := fun x e m σ => ends x = true ∧ (∃ vs, vresults P σ (env N e) rs = some vs) ∧ R m σ
theorem FnS.does {f : FuncId} {N : Nat} {rs : List ResultVar} {c : CS} (hf : FnS P pr f N rs c) {vs : List V} {m : Pn} {σ : St} {R : Pn → St → Prop} (hl : vs.length ≤ N) (h : EvS P pr N c (fun i => vs.getD i (.tuple [])) m σ (fnSK P N rs R)) : ∃ m' σ', DoesS P pr f vs m σ m' σ' ∧ R m' σ' := by
  obtain ⟨fn, c0, h1, h2, h3, h4, h5, h6⟩ := hf.h
  simp only [Bool.and_eq_true] at h3
  obtain ⟨n, x, e', m', σ', hr, hx, ⟨rv, hrv⟩, hR⟩ := EvS.run c0 h6 h3.2 h
  refine ⟨m', σ', ⟨n, ?_⟩, hR⟩
  unfold defOne
  simp only [h1, h2, h3.1, if_true, h4, h5]
  rw [env_start vs hl, hr]
  simp only [hx, if_true, hrv]
  rfl

/-! ### Functions that put calls off -/
structure FnD (P : Program) (pr : Prim) (f : FuncId) (N : Nat) (rs : List ResultVar) (c : CD) : Prop where
  h : ∃ fn c0, P.funcs[f]? = some fn ∧ fn.body = some c0 ∧ (fnOk fn && (hasDefer c0 && (calm c0 && decide (0 < N)))) = true ∧ fn.ntmps = N ∧ fn.results.toList = rs ∧ ccD P pr.hot N c0 = some c
  prim : pr.is f = false
def fnCD (P : Program) (pr : Prim) (fn : Func) : Option (Nat × List ResultVar × CD) := match fn.body with
  | some c0 => if (fnOk fn && (hasDefer c0 && (calm c0 && decide (0 < fn.ntmps)))) = true then (ccD P pr.hot fn.ntmps c0).map fun c => (fn.ntmps, fn.results.toList, c) else none
  | none => none
theorem FnD.of_fn {f : FuncId} {fn : Func} {N : Nat} {rs : List ResultVar} {c : CD} (hf : P.funcs[f]? = some fn) (h : fnCD P pr fn = some (N, rs, c)) (hpr : pr.is f = false) : FnD P pr f N rs c := by
  unfold fnCD at h
  split at h
  · rename_i c0 hb
    split at h
    · rename_i hk
      rw [Option.map_eq_some_iff] at h
      obtain ⟨c1, h1, h2⟩ := h
      injection h2 with h2 h3
      injection h3 with h3 h4
      subst h2 h3 h4
      exact ⟨⟨fn, c0, hf, hb, hk, rfl, rfl, h1⟩, hpr⟩
    · cases h
  · cases h
/-- Where such a function ends. -/
def fnDK (P : Program) (pr : Prim) (N : Nat) (rs : List ResultVar) (R : VRes → St → Prop) : QD := fun x e σ ds => match x with
  | .normal => ∃ σ', Leave P pr ds none σ none σ' ∧ ∃ vs, vresults P σ' (env N e) rs = some vs ∧ R (.ret (vtuple vs)) σ'
  | .ret => ∃ σ', Leave P pr ds none σ none σ' ∧ ∃ vs, vresults P σ' (env N e) rs = some vs ∧ R (.ret (vtuple vs)) σ'
  | .pan v => ∃ σ', Leave P pr ds (some (v, false)) σ none σ' ∧ ∃ vs, vresults P σ' (env N e) rs = some vs ∧ R (.ret (vtuple vs)) σ'
  | .exit _ => False
theorem FnD.does {f : FuncId} {N : Nat} {rs : List ResultVar} {c : CD} (hf : FnD P pr f N rs c) {vs : List V} {σ : St} {R : VRes → St → Prop} (hl : vs.length ≤ N) (h : EvD P pr N c (fun i => vs.getD i (.tuple [])) σ (fnDK P pr N rs R)) : ∃ r σ', Does P pr f vs σ r σ' ∧ R r σ' := by
  obtain ⟨⟨fn, c0, h1, h2, h3, h4, h5, h6⟩, hpr⟩ := hf
  simp only [Bool.and_eq_true, decide_eq_true_eq] at h3
  obtain ⟨n, x, e', σ1, ds, hr, hk⟩ := EvD.run c0 h6 h3.2.2.1 h
  have fin : ∀ {m : Pn} {σ' : St} {rv : List V}, startD x (env N e') = some m → Leave P pr ds m σ1 none σ' → vresults P σ' (env N e') rs = some rv → R (.ret (vtuple rv)) σ' → ∃ r σ', Does P pr f vs σ r σ' ∧ R r σ' := by
    intro m σ' rv hm hlv hrv hR
    obtain ⟨k, hlv⟩ := hlv
    refine ⟨_, _, ⟨max n k + 1, ?_⟩, hR⟩
    rw [vcall, if_neg (by simp [hpr])]
    simp only [h1, h2, h3.1, if_true, h3.2.1, h4]
    rw [env_start vs hl]
    unfold callD
    rw [codeD_le (Rn_le (Nat.le_max_left n k)) (Ro_le (Nat.le_max_left n k)) c0 hr]
    simp only [hm]
    rw [leaveD_le (Rn_le (Nat.le_max_right n k)) (Ro_le (Nat.le_max_right n k)) hlv]
    simp only [h5, hrv]
    rfl
  have hne : (env N e').isEmpty = false := by
    have hN := h3.2.2.2
    simp only [env, List.isEmpty_eq_false_iff, ne_eq, List.map_eq_nil_iff, List.range_eq_nil]
    omega
  cases x with
  | normal =>
    obtain ⟨σ', k1, rv, k2, k3⟩ := hk
    exact fin rfl k1 k2 k3
  | ret =>
    obtain ⟨σ', k1, rv, k2, k3⟩ := hk
    exact fin rfl k1 k2 k3
  | pan v =>
    obtain ⟨σ', k1, rv, k2, k3⟩ := hk
    exact fin (by simp only [startD, hne]; rfl) k1 k2 k3
  | exit i => exact hk.elim

/-! ### Rules -/
def seqDC (P : Program) (pr : Prim) (N : Nat) (b : CD) (Q : QD) : QD := fun x e σ ds => match x with
  | .normal => EvD P pr N b e σ (moreD ds Q)
  | x => Q x e σ ds
def seqSC (P : Program) (pr : Prim) (N : Nat) (b : CS) (Q : QS) : QS := fun x e m σ => match x with
  | .normal => EvS P pr N b e m σ Q
  | x => Q x e m σ
def KDs (o : Option V) (vs : Option (List V)) (Q : QD) (e : Nat → V) (σ : St) : Prop := match o, vs with
  | some (.func fid caps), some vs => Q .normal e σ [(fid, vs ++ caps)]
  | _, _ => False
def KDr (P : Program) (pr : Prim) (rs : Option (List V)) (R : VRes → St → Prop) (σ : St) : Prop := match rs with
  | some vs => R (.ret (vtuple vs)) σ
  | none => False
def KDI (P : Program) (pr : Prim) (N : Nat) (v : Option V) (a b : CD) (e : Nat → V) (σ : St) (Q : QD) : Prop := match v with
  | some (.bool true) => EvD P pr N a e σ Q
  | some (.bool false) => EvD P pr N b e σ Q
  | _ => False
def KSI (P : Program) (pr : Prim) (N : Nat) (v : Option V) (a b : CS) (e : Nat → V) (m : Pn) (σ : St) (Q : QS) : Prop := match v with
  | some (.bool true) => EvS P pr N a e m σ Q
  | some (.bool false) => EvS P pr N b e m σ Q
  | _ => False
section
variable {e : Nat → V} {σ : St} {Q : QD} {S : QS} {m : Pn} {R : VRes → St → Prop} {R' : Pn → St → Prop} {rs : List ResultVar}
theorem EvD_code {c : CC} : EvD P pr N (.code c) e σ Q = Ev P pr N c e σ (plainK Q) := propext ⟨fun h => h, fun h => h⟩
theorem EvD_reg {l : List COp} {f : Operand} {as_ : List Operand} : EvD P pr N (.reg l f as_) e σ Q = Eo P pr N l e σ (regK N f as_ Q) := propext ⟨fun h => h, fun h => h⟩
theorem EvD_seq {a b : CD} : EvD P pr N (.seq a b) e σ Q = EvD P pr N a e σ (seqDC P pr N b Q) := propext ⟨fun h => h, fun h => h⟩
theorem EvD_cond {c : Operand} {a b : CD} : EvD P pr N (.cond c a b) e σ Q = KDI P pr N (evs (env N e) c) a b e σ Q := propext ⟨fun h => h, fun h => h⟩
theorem KDI_true {a b : CD} : KDI P pr N (some (.bool true)) a b e σ Q = EvD P pr N a e σ Q := propext ⟨fun h => h, fun h => h⟩
theorem KDI_false {a b : CD} : KDI P pr N (some (.bool false)) a b e σ Q = EvD P pr N b e σ Q := propext ⟨fun h => h, fun h => h⟩
theorem seqDC_normal {b : CD} {ds : Ds} : seqDC P pr N b Q .normal e σ ds = EvD P pr N b e σ (moreD ds Q) := propext ⟨fun h => h, fun h => h⟩
theorem seqDC_ret {b : CD} {ds : Ds} : seqDC P pr N b Q .ret e σ ds = Q .ret e σ ds := propext ⟨fun h => h, fun h => h⟩
theorem seqDC_exit {b : CD} {ds : Ds} {i : Nat} : seqDC P pr N b Q (.exit i) e σ ds = Q (.exit i) e σ ds := propext ⟨fun h => h, fun h => h⟩
theorem seqDC_pan {b : CD} {ds : Ds} {v : V} : seqDC P pr N b Q (.pan v) e σ ds = Q (.pan v) e σ ds := propext ⟨fun h => h, fun h => h⟩
theorem moreD_eq {ds ds' : Ds} {x : VX} : moreD ds Q x e σ ds' = Q x e σ (ds' ++ ds) := propext ⟨fun h => h, fun h => h⟩
theorem plainK_eq {x : VX} : plainK Q x e σ = Q x e σ [] := propext ⟨fun h => h, fun h => h⟩
theorem regK_normal {f : Operand} {as_ : List Operand} : regK N f as_ Q .normal e σ = KDs (evs (env N e) f) (evAll (env N e) as_) Q e σ := by
  apply propext
  constructor
  · rintro ⟨fid, caps, vs, h1, h2, h3⟩
    rw [h1, h2]; exact h3
  · intro h
    unfold KDs at h
    split at h
    · rename_i h1 h2; exact ⟨_, _, _, h1, h2, h⟩
    · exact h.elim
theorem regK_pan {f : Operand} {as_ : List Operand} {v : V} : regK N f as_ Q (.pan v) e σ = Q (.pan v) e σ [] := propext ⟨fun h => h, fun h => h⟩
theorem KDs_some {fid : FuncId} {caps vs : List V} : KDs (some (.func fid caps)) (some vs) Q e σ = Q .normal e σ [(fid, vs ++ caps)] := propext ⟨fun h => h, fun h => h⟩
theorem fnDK_nil_ret : fnDK P pr N rs R .ret e σ [] = KR (vresults P σ (env N e) rs) σ R := by
  apply propext
  constructor
  · rintro ⟨σ', ⟨n, h1⟩, vs, h2, h3⟩
    simp only [leaveD] at h1
    injection h1 with h1
    injection h1 with h1 h4
    subst h4
    rw [h2]; exact h3
  · intro h
    cases hv : vresults P σ (env N e) rs with
    | none => rw [hv] at h; exact h.elim
    | some vs => rw [hv] at h; exact ⟨σ, Leave.nil, vs, hv, h⟩
theorem EvS_code {c : CC} : EvS P pr N (.code c) e m σ S = Ev P pr N c e σ (plainS' m S) := propext ⟨fun h => h, fun h => h⟩
theorem EvS_reg {d : Option Nat} {l : List COp} : EvS P pr N (.reg d l) e m σ S = Eo P pr N l (upd e d (recV m).1) σ (plainS' (recV m).2 S) := propext ⟨fun h => h, fun h => h⟩
theorem EvS_seq {a b : CS} : EvS P pr N (.seq a b) e m σ S = EvS P pr N a e m σ (seqSC P pr N b S) := propext ⟨fun h => h, fun h => h⟩
theorem EvS_cond {c : Operand} {a b : CS} : EvS P pr N (.cond c a b) e m σ S = KSI P pr N (evs (env N e) c) a b e m σ S := propext ⟨fun h => h, fun h => h⟩
theorem KSI_true {a b : CS} : KSI P pr N (some (.bool true)) a b e m σ S = EvS P pr N a e m σ S := propext ⟨fun h => h, fun h => h⟩
theorem KSI_false {a b : CS} : KSI P pr N (some (.bool false)) a b e m σ S = EvS P pr N b e m σ S := propext ⟨fun h => h, fun h => h⟩
theorem seqSC_normal {b : CS} : seqSC P pr N b S .normal e m σ = EvS P pr N b e m σ S := propext ⟨fun h => h, fun h => h⟩
theorem seqSC_ret {b : CS} : seqSC P pr N b S .ret e m σ = S .ret e m σ := propext ⟨fun h => h, fun h => h⟩
theorem seqSC_exit {b : CS} {i : Nat} : seqSC P pr N b S (.exit i) e m σ = S (.exit i) e m σ := propext ⟨fun h => h, fun h => h⟩
theorem seqSC_pan {b : CS} {v : V} : seqSC P pr N b S (.pan v) e m σ = S (.pan v) e m σ := propext ⟨fun h => h, fun h => h⟩
theorem plainS_eq {x : VX} : plainS' m S x e σ = S x e m σ := propext ⟨fun h => h, fun h => h⟩
theorem recV_some {v : V} : recV (some (v, false)) = (v, some (v, true)) := rfl
theorem recV_none : recV none = (.nili, none) := rfl
theorem fnSK_normal : fnSK P N rs R' .normal e m σ = ((∃ vs, vresults P σ (env N e) rs = some vs) ∧ R' m σ) := by simp [fnSK, ends]
theorem fnSK_ret : fnSK P N rs R' .ret e m σ = ((∃ vs, vresults P σ (env N e) rs = some vs) ∧ R' m σ) := by simp [fnSK, ends]
end
end
theorem EvD_of {P : Program} {pr : Prim} {N : Nat} {e : Nat → V} {σ : St} {Q : QD} {a b : CD} (h : a = b) : EvD P pr N a e σ Q = EvD P pr N b e σ Q := by rw [h]
theorem EvS_of {P : Program} {pr : Prim} {N : Nat} {e : Nat → V} {m : Pn} {σ : St} {Q : QS} {a b : CS} (h : a = b) : EvS P pr N a e m σ Q = EvS P pr N b e m σ Q := by rw [h]
theorem WD0 : type_of% @EvD_code ∧ type_of% @EvD_reg ∧ type_of% @EvD_seq ∧ type_of% @EvD_cond ∧ type_of% @KDI_true ∧ type_of% @KDI_false ∧ type_of% @seqDC_normal ∧ type_of% @seqDC_ret ∧ type_of% @seqDC_exit ∧ type_of% @seqDC_pan ∧ type_of% @moreD_eq ∧ type_of% @plainK_eq ∧ type_of% @regK_normal ∧ type_of% @regK_pan ∧ type_of% @KDs_some ∧ type_of% @fnDK_nil_ret := ⟨@EvD_code, @EvD_reg, @EvD_seq, @EvD_cond, @KDI_true, @KDI_false, @seqDC_normal, @seqDC_ret, @seqDC_exit, @seqDC_pan, @moreD_eq, @plainK_eq, @regK_normal, @regK_pan, @KDs_some, @fnDK_nil_ret⟩
theorem WD1 : type_of% @EvS_code ∧ type_of% @EvS_reg ∧ type_of% @EvS_seq ∧ type_of% @EvS_cond ∧ type_of% @KSI_true ∧ type_of% @KSI_false ∧ type_of% @seqSC_normal ∧ type_of% @seqSC_ret ∧ type_of% @seqSC_exit ∧ type_of% @seqSC_pan ∧ type_of% @plainS_eq ∧ type_of% @recV_some ∧ type_of% @recV_none ∧ type_of% @fnSK_normal ∧ type_of% @fnSK_ret := ⟨@EvS_code, @EvS_reg, @EvS_seq, @EvS_cond, @KSI_true, @KSI_false, @seqSC_normal, @seqSC_ret, @seqSC_exit, @seqSC_pan, @plainS_eq, @recV_some, @recV_none, @fnSK_normal, @fnSK_ret⟩
theorem WD : type_of% WD0 ∧ type_of% WD1 := ⟨WD0, WD1⟩
end Go.Proofs.Ytmcadfejkcpblaa.Q
