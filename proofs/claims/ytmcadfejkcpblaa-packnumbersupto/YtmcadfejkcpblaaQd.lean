/- More pure operations: equality, conversions, parts, cuts, types. -/
import Derived.Test.YtmcadfejkcpblaaQc
import Derived.Laws.StructEq
set_option linter.unusedVariables false
set_option linter.unusedSimpArgs false
namespace Go.Proofs.Ytmcadfejkcpblaa.Q
open Go Go.RowKit

section
variable {P : Program} {g : Gh} {s : List Bool} {w : World}

theorem VR_nili {x : V} (h : VR g s w x .nilIface) : x = .nili := by cases x <;> simp [VR] at h ⊢
theorem VR_agg {x : V} {us : Array Value} (h : VR g s w x (.agg us)) : ∃ cs, x = .agg cs := by cases x <;> simp [VR] at h ⊢
theorem VR_intV {x : V} {k : IntKind} {n : Int} (h : VR g s w x (.int k n)) : x = .int k n := by cases x <;> simp [VR] at h ⊢; exact ⟨h.1.symm, h.2.symm⟩
theorem VR_strV {x : V} {z : ByteArray} (h : VR g s w x (.string z)) : ∃ l, x = .str l := by cases x <;> simp [VR] at h ⊢

set_option maxHeartbeats 4000000 in
mutual
theorem aggEq_ok : ∀ (d : Nat) {t : TypeId} {x y : V} {a b : Value} {r : Bool}, VR g s w x a → VR g s w y b → aggEq P d t x y = some r → (Op.equalIn d t a b).run P w = .ok r w
  | 0, t, x, y, a, b, r, hx, hy, h => by simp [aggEq] at h
  | d + 1, t, x, y, a, b, r, hx, hy, h => by
    unfold aggEq at h
    split at h
    case h_1 hu => simp only [VR] at hx hy; subst hx hy; injection h with h; subst h; rw [Op.equalIn]; simp only [Sem.run_bind, run_underlying hu, Result.andThen_ok]; rfl
    case h_2 hu =>
      simp only [VR] at hx hy; subst hx hy
      split at h
      · rename_i e; injection h with h; subst h; subst e; rw [Op.equalIn]; simp only [Sem.run_bind, run_underlying hu, Result.andThen_ok]; simp; rw [Bool.eq_iff_iff]; simp
      · cases h
    case h_3 p q hu =>
      simp only [VR] at hx hy; subst hx hy; injection h with h; subst h
      rw [run_equalIn_string (h := hu), toList_mk, toList_mk]
      congr 1
      rw [Bool.eq_iff_iff]; simp
    case h_4 hu => simp only [VR] at hx hy; subst hx hy; injection h with h; subst h; rw [Op.equalIn]; simp only [Sem.run_bind, run_underlying hu, Result.andThen_ok]; rfl
    case h_5 hu => simp only [VR] at hx hy; obtain ⟨_, hy⟩ := hy; subst hx hy; injection h with h; subst h; rw [Op.equalIn]; simp only [Sem.run_bind, run_underlying hu, Result.andThen_ok]; rfl
    case h_6 hu => simp only [VR] at hx hy; obtain ⟨_, hx⟩ := hx; subst hx hy; injection h with h; subst h; rw [Op.equalIn]; simp only [Sem.run_bind, run_underlying hu, Result.andThen_ok]; rfl
    case h_7 hu => simp only [VR] at hx hy; obtain ⟨_, _, _, hy, _⟩ := hy; subst hx hy; injection h with h; subst h; rw [Op.equalIn]; simp only [Sem.run_bind, run_underlying hu, Result.andThen_ok]; rfl
    case h_8 hu => simp only [VR] at hx hy; obtain ⟨_, _, _, hx, _⟩ := hx; subst hx hy; injection h with h; subst h; rw [Op.equalIn]; simp only [Sem.run_bind, run_underlying hu, Result.andThen_ok]; rfl
    case h_9 hu => simp only [VR] at hx hy; subst hx hy; injection h with h; subst h; rw [Op.equalIn]; simp only [Sem.run_bind, run_underlying hu, Result.andThen_ok]; rfl
    case h_10 hu => simp only [VR] at hx hy; obtain ⟨_, _, _, hy, _⟩ := hy; subst hx hy; injection h with h; subst h; rw [Op.equalIn]; simp only [Sem.run_bind, run_underlying hu, Result.andThen_ok]; rfl
    case h_11 hu => simp only [VR] at hx hy; obtain ⟨_, _, _, hx, _⟩ := hx; subst hx hy; injection h with h; subst h; rw [Op.equalIn]; simp only [Sem.run_bind, run_underlying hu, Result.andThen_ok]; rfl
    case h_12 hu => simp only [VR] at hx hy; obtain ⟨_, _, hy, _⟩ := hy; subst hx hy; injection h with h; subst h; rw [Op.equalIn]; simp only [Sem.run_bind, run_underlying hu, Result.andThen_ok]; rfl
    case h_13 hu => simp only [VR] at hx hy; obtain ⟨_, _, hx, _⟩ := hx; subst hx hy; injection h with h; subst h; rw [Op.equalIn]; simp only [Sem.run_bind, run_underlying hu, Result.andThen_ok]; rfl
    case h_14 hu => simp only [VR] at hx hy; subst hx hy; injection h with h; subst h; rw [Op.equalIn]; simp only [Sem.run_bind, run_underlying hu, Result.andThen_ok]; rfl
    case h_15 hu => simp only [VR] at hx hy; obtain ⟨_, hy⟩ := hy; subst hx hy; injection h with h; subst h; rw [Op.equalIn]; simp only [Sem.run_bind, run_underlying hu, Result.andThen_ok]; rfl
    case h_16 hu => simp only [VR] at hx hy; obtain ⟨_, hx⟩ := hx; subst hx hy; injection h with h; subst h; rw [Op.equalIn]; simp only [Sem.run_bind, run_underlying hu, Result.andThen_ok]; rfl
    case h_17 hu => simp only [VR] at hx hy; subst hx hy; injection h with h; subst h; rw [Op.equalIn]; simp only [Sem.run_bind, run_underlying hu, Result.andThen_ok]; rfl
    case h_18 hu => simp only [VR] at hx hy; obtain ⟨_, hy, _⟩ := hy; subst hx hy; injection h with h; subst h; rw [Op.equalIn]; simp only [Sem.run_bind, run_underlying hu, Result.andThen_ok]; rfl
    case h_19 hu => simp only [VR] at hx hy; obtain ⟨_, hx, _⟩ := hx; subst hx hy; injection h with h; subst h; rw [Op.equalIn]; simp only [Sem.run_bind, run_underlying hu, Result.andThen_ok]; rfl
    case h_20 hu => simp only [VR] at hx hy; subst hx hy; injection h with h; subst h; rw [Op.equalIn]; simp only [Sem.run_bind, run_underlying hu, Result.andThen_ok]; rfl
    case h_21 hu => simp only [VR] at hx hy; obtain ⟨_, hy, _⟩ := hy; subst hx hy; injection h with h; subst h; rw [Op.equalIn]; simp only [Sem.run_bind, run_underlying hu, Result.andThen_ok]; rfl
    case h_22 hu => simp only [VR] at hx hy; obtain ⟨_, hx, _⟩ := hx; subst hx hy; injection h with h; subst h; rw [Op.equalIn]; simp only [Sem.run_bind, run_underlying hu, Result.andThen_ok]; rfl
    case h_23 tx vx ty vy hu =>
      simp only [VR] at hx hy
      obtain ⟨ux, hx, hvx⟩ := hx
      obtain ⟨uy, hy, hvy⟩ := hy
      subst hx hy
      split at h
      · rename_i e; injection h with h; subst h; rw [Op.equalIn]; simp only [Sem.run_bind, run_underlying hu, Result.andThen_ok]; rw [if_pos e]; rfl
      · rename_i e
        split at h
        · rename_i hc
          rw [Option.map_eq_some_iff] at hc
          obtain ⟨i, hi, hic⟩ := hc
          have e' : tx = ty := Classical.byContradiction e
          have := aggEq_ok d hvx hvy h
          subst e'
          rw [Op.equalIn]
          simp only [Sem.run_bind, run_underlying hu, Result.andThen_ok]
          rw [if_neg e]
          simp [typeInfo, hi, hic, this]
        · cases h
    case h_24 fields xs ys hu =>
      simp only [VR] at hx hy
      obtain ⟨us, hx, hxs⟩ := hx
      obtain ⟨vs, hy, hys⟩ := hy
      subst hx hy
      split at h
      · cases h
      · rename_i hp
        have hf : P.fieldsOf t = fields := by simp [Program.fieldsOf, hu]
        rw [run_equalIn_struct (P := P) w d t _ _ (by rw [hf]; exact hu) (by simpa using hp), hf]
        exact fieldsEq_ok d fields.toList (us := us.toArray) (vs := vs.toArray) (by simpa using hxs) (by simpa using hys) h
    case h_25 => cases h
theorem fieldsEq_ok : ∀ (d : Nat) (fs : List Field) {xs ys : List V} {us vs : Array Value} {r : Bool}, VRs g s w xs us.toList → VRs g s w ys vs.toList → aggEq.fieldsEq P d fs xs ys = some r → (Op.eqFields d us vs fs).run P w = .ok r w
  | d, [], xs, ys, us, vs, r, hx, hy, h => by simp only [fieldsEq_nil] at h; injection h with h; subst h; simp [Op.eqFields]
  | d, f :: fs, xs, ys, us, vs, r, hx, hy, h => by
    rw [fieldsEq_cons] at h
    split at h
    · rename_i hn
      split at h
      · rename_i a b ha hb
        obtain ⟨ua, hua, hra⟩ := vpart_ok hx ha
        obtain ⟨ub, hub, hrb⟩ := vpart_ok hy hb
        split at h
        · rename_i he
          have := aggEq_ok d hra hrb he
          have h2 := fieldsEq_ok d fs hx hy h
          simp only [Op.eqFields]
          rw [if_pos hn]
          simp [hua, hub, this, h2]
        · rename_i he
          injection h with h
          subst h
          have := aggEq_ok d hra hrb he
          simp only [Op.eqFields]
          rw [if_pos hn]
          simp [hua, hub, this]
        · cases h
      · cases h
    · rename_i hn
      simp only [Op.eqFields]
      rw [if_neg hn]
      exact fieldsEq_ok d fs hx hy h
end

def isC : Operand → Bool
  | .const _ => true
  | _ => false

def guardFree (P : Program) (t : TypeId) (xo yo : Operand) : V → V → Bool
  | .nili, .nili => isC xo || isC yo
  | .agg _, .agg _ => !P.eqGuardType P.depth t
  | _, _ => true

def bothSame : V → V → Bool
  | .int _ _, .int _ _ => true
  | .str _, .str _ => true
  | _, _ => false

def vbin (P : Program) (op : BinOp) (t : TypeId) (xo yo : Operand) (x y : V) : Option V :=
  match x, y with
  | .int k a, .int k' b => match op with
    | .shl => shiftBin .shl k a b
    | .shr => shiftBin .shr k a b
    | op => if k = k' then intBin op k a b else none
  | .str a, .str b => strBin op a b
  | x, y =>
    if bothSame x y then none else
    match op with
    | .eql => if guardFree P t xo yo x y then (aggEq P 10000 t x y).map .bool else none
    | .neq => if guardFree P t xo yo x y then (aggEq P 10000 t x y).map fun b => .bool (!b) else none
    | _ => none

theorem guard_ok {op : BinOp} {t : TypeId} {xo yo : Operand} {x y : V} {a b : Value} (hx : VR g s w x a) (hy : VR g s w y b) (h : guardFree P t xo yo x y = true) : (eqGuard op t xo yo a b).run P w = .ok () w := by
  cases op <;> (try (simp [eqGuard]; done))
  all_goals
    unfold eqGuard
    simp only [Bool.not_true, Bool.false_eq_true, if_false]
    split
    · rename_i e1 e2
      have h1 := VR_nili hx
      have h2 := VR_nili hy
      subst h1 h2
      simp only [guardFree, Bool.or_eq_true] at h
      rw [if_pos]
      · simp
      · simp only [Bool.or_eq_true]
        rcases h with h | h
        · left; cases xo <;> simp [isC] at h ⊢
        · right; cases yo <;> simp [isC] at h ⊢
    · rename_i e1 e2
      obtain ⟨c1, h1⟩ := VR_agg hx
      obtain ⟨c2, h2⟩ := VR_agg hy
      subst h1 h2
      simp only [guardFree] at h
      have h' : P.eqGuardType P.depth t = false := by simpa using h
      simp [run_program, h']
    · simp

theorem eql_run {t : TypeId} {a b : Value} {r : Bool} (h : (Op.equalIn 10000 t a b).run P w = .ok r w) (hn : ∀ k x k' y, a = .int k x → b = .int k' y → False) (hs : ∀ x y, a = .string x → b = .string y → False)
    (hf : ∀ k x k' y, a = .float k x → b = .float k' y → False) (hc : ∀ k x z k' y q, a = .complex k x z → b = .complex k' y q → False) :
    (binOp .eql t a b).run P w = .ok (.bool r) w ∧ (binOp .neq t a b).run P w = .ok (.bool (!r)) w := by
  have he : binOp .eql t a b = (do pure (.bool (← Op.equal t a b))) := by
    unfold binOp
    split <;> first | rfl | (exfalso; rename_i h1 h2 h3; cases h1; done) | (exfalso; first | exact hn _ _ _ _ rfl rfl | exact hs _ _ rfl rfl | exact hf _ _ _ _ rfl rfl | exact hc _ _ _ _ _ _ rfl rfl) | simp_all
  have hne : binOp .neq t a b = (do pure (.bool (!(← Op.equal t a b)))) := by
    unfold binOp
    split <;> first | rfl | (exfalso; first | exact hn _ _ _ _ rfl rfl | exact hs _ _ rfl rfl | exact hf _ _ _ _ rfl rfl | exact hc _ _ _ _ _ _ rfl rfl) | simp_all
  rw [he, hne]
  constructor <;> simp [Op.equal, Op.maxDepth, h]
end
end Go.Proofs.Ytmcadfejkcpblaa.Q
