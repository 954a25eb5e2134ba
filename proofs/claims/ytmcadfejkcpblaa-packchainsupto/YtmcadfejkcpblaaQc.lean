/- The pure operations of an abstract run: what they answer, and that the model's operations answer just that. -/
import Derived.Test.YtmcadfejkcpblaaQb
set_option linter.unusedVariables false
set_option linter.unusedSimpArgs false
namespace Go.Proofs.Ytmcadfejkcpblaa.Q
open Go Go.RowKit

/-! ### Constants, operands -/
def ofVal1 : Value → Option V
  | .bool b => some (.bool b)
  | .int k n => some (.int k n)
  | .string s => some (.str s.data.toList)
  | .pointer none => some .nilp
  | .slice none 0 0 => some .nils
  | .map none => some .nilm
  | .nilFunc => some .nilf
  | .nilIface => some .nili
  | .tuple vs => if vs = #[] then some (.tuple []) else none
  | _ => none
def ofVals : List Value → Option (List V)
  | [] => some []
  | x :: xs => match ofVal1 x, ofVals xs with
    | some v, some vs => some (v :: vs)
    | _, _ => none
def ofVal : Value → Option V
  | .agg cs => (ofVals cs.toList).map .agg
  | v => ofVal1 v

def evs (tmps : List V) : Operand → Option V
  | .tmp t => some (tmps.getD t (.tuple []))
  | .const v => ofVal v
  | .global _ => none
  | .func f => some (.func f [])

section
variable {P : Program} {g : Gh} {s : List Bool} {w : World}

theorem ofVal1_ok {x : Value} {v : V} (h : ofVal1 x = some v) : VR g s w v x := by
  unfold ofVal1 at h
  split at h <;> first | (injection h with h; subst h; simp [VR]; done) | (split at h <;> first | (injection h with h; subst h; simp_all [VR, VRs]; done) | cases h) | cases h

theorem ofVals_ok : ∀ {xs : List Value} {vs : List V}, ofVals xs = some vs → VRs g s w vs xs
  | [], vs, h => by simp only [ofVals] at h; injection h with h; subst h; simp [VRs]
  | x :: xs, vs, h => by
    simp only [ofVals] at h
    split at h
    · rename_i v vs' h1 h2
      injection h with h
      subst h
      simp only [VRs]
      exact ⟨x, xs, rfl, ofVal1_ok h1, ofVals_ok h2⟩
    · cases h

theorem ofVal_ok {x : Value} {v : V} (h : ofVal x = some v) : VR g s w v x := by
  unfold ofVal at h
  split at h
  · rename_i cs
    rw [Option.map_eq_some_iff] at h
    obtain ⟨vs, h1, rfl⟩ := h
    simp only [VR]
    exact ⟨cs.toList, by simp, ofVals_ok h1⟩
  · exact ofVal1_ok h

theorem undef_ok : VR g s w (.tuple []) undef := by simp [VR, VRs, undef]

theorem VRs.getD {vs : List V} {us : List Value} (h : VRs g s w vs us) (i : Nat) : VR g s w (vs.getD i (.tuple [])) (us.getD i undef) := by
  rw [List.getD_eq_getElem?_getD, List.getD_eq_getElem?_getD]
  cases hv : vs[i]? with
  | none =>
    have : us[i]? = none := by
      rw [List.getElem?_eq_none_iff] at hv ⊢
      rw [← h.length]; exact hv
    rw [this]
    exact undef_ok
  | some v =>
    obtain ⟨u, hu, hr⟩ := h.get i hv
    rw [hu]
    exact hr

theorem evs_ok {tmps : List V} {a : Act} (h : VRs g s w tmps a.tmps.toList) {x : Operand} {v : V} (hv : evs tmps x = some v) : VR g s w v (a.eval x) := by
  cases x with
  | tmp t =>
    simp only [evs] at hv
    injection hv with hv
    subst hv
    simp only [Act.eval]
    have := h.getD t
    simpa [List.getD_eq_getElem?_getD, Array.getD_eq_getD_getElem?] using this
  | const c => exact ofVal_ok hv
  | global k => cases hv
  | func f =>
    simp only [evs] at hv
    injection hv with hv
    subst hv
    simp [VR, VRs, Act.eval]

/-! ### A value's cells -/
def vcells : V → List V
  | .agg cs => cs
  | v => [v]
def one : V → Bool
  | .agg _ => false
  | .tuple _ => false
  | _ => true

theorem vcells_ok {v : V} {u : Value} (h : VR g s w v u) : VRs g s w (vcells v) u.cells.toList := by
  cases v <;> simp only [VR] at h <;> (try (obtain ⟨hr, rfl⟩ := h)) <;> (try subst h) <;> simp only [vcells]
  case agg cs => obtain ⟨us, rfl, hc⟩ := h; simpa [Value.cells] using hc
  case eptr cs off => obtain ⟨b, o, us, rfl, hr, hc⟩ := h; simp only [Value.cells, VRs]; exact ⟨_, _, rfl, by simp only [VR]; exact ⟨b, o, us, rfl, hr, hc⟩, rfl⟩
  case slice p e cs l => obtain ⟨ad, cap, us, rfl, hh⟩ := h; simp only [Value.cells, VRs]; exact ⟨_, _, rfl, by simp only [VR]; exact ⟨ad, cap, us, rfl, hh⟩, rfl⟩
  case hslice r o e l => obtain ⟨hr, cap, rfl, hh⟩ := h; simp only [Value.cells, VRs]; exact ⟨_, _, rfl, by simp only [VR]; exact ⟨hr, cap, rfl, hh⟩, rfl⟩
  case func f caps => obtain ⟨us, rfl, hh⟩ := h; simp only [Value.cells, VRs]; exact ⟨_, _, rfl, by simp only [VR]; exact ⟨us, rfl, hh⟩, rfl⟩
  case iface t x => obtain ⟨us, rfl, hh⟩ := h; simp only [Value.cells, VRs]; exact ⟨_, _, rfl, by simp only [VR]; exact ⟨us, rfl, hh⟩, rfl⟩
  case tuple cs => obtain ⟨us, rfl, hh⟩ := h; simp only [Value.cells, VRs]; exact ⟨_, _, rfl, by simp only [VR]; exact ⟨us, rfl, hh⟩, rfl⟩
  case optr r off => simp only [Value.cells, VRs]; exact ⟨_, _, rfl, by simp [VR, hr], rfl⟩
  case omap r => simp only [Value.cells, VRs]; exact ⟨_, _, rfl, by simp [VR, hr], rfl⟩
  case yld r => simp only [Value.cells, VRs]; exact ⟨_, _, rfl, by simp [VR, hr], rfl⟩
  all_goals simp only [Value.cells, VRs]; exact ⟨_, _, rfl, by simp only [VR], rfl⟩

theorem one_ok {v : V} {u : Value} (h : VR g s w v u) (h1 : one v = true) : u.oneCell' = true := by
  cases v <;> simp only [one, Bool.false_eq_true] at h1 <;> simp only [VR] at h <;> (try (obtain ⟨_, rfl⟩ := h)) <;> (try subst h) <;> first
    | rfl
    | (obtain ⟨_, _, _, rfl, _⟩ := h; rfl)
    | (obtain ⟨_, _, _, _, rfl, _⟩ := h; rfl)
    | (obtain ⟨_, _, rfl, _⟩ := h; rfl)
    | (obtain ⟨_, rfl, _⟩ := h; rfl)

theorem ones_ok {vs : List V} {us : List Value} (h : VRs g s w vs us) (h1 : vs.all one = true) : ∀ u ∈ us, u.oneCell' = true := by
  induction vs generalizing us with
  | nil => simp only [VRs] at h; subst h; simp
  | cons v vs ih =>
    simp only [VRs] at h
    obtain ⟨u, us', rfl, h2, h3⟩ := h
    simp only [List.all_cons, Bool.and_eq_true] at h1
    intro x hx
    cases hx with
    | head => exact one_ok h2 h1.1
    | tail _ hx => exact ih h3 h1.2 x hx

/-! ### Types -/
def sizeT (P : Program) (t : TypeId) : Option Nat := (P.info? t).map (·.size)
def zeroT (P : Program) (t : TypeId) : Option V := ((P.info? t).bind (·.zero)).bind ofVal
def isAggT (P : Program) (t : TypeId) : Option Bool := (P.underlying t).map fun | .struct _ | .array _ _ => true | _ => false

theorem run_sizeT {t : TypeId} {n : Nat} (h : sizeT P t = some n) (w : World) : (sizeOf t).run P w = .ok n w := by
  unfold sizeT at h
  rw [Option.map_eq_some_iff] at h
  obtain ⟨i, hi, rfl⟩ := h
  simp [sizeOf, typeInfo, hi]

theorem run_zeroT {t : TypeId} {z : V} (h : zeroT P t = some z) : ∃ u, (∀ w, (zeroValue t).run P w = .ok u w) ∧ ofVal u = some z := by
  unfold zeroT at h
  rw [Option.bind_eq_some_iff] at h
  obtain ⟨u, hu, hz⟩ := h
  rw [Option.bind_eq_some_iff] at hu
  obtain ⟨i, hi, hu⟩ := hu
  exact ⟨u, fun w => by simp [zeroValue, typeInfo, hi, hu], hz⟩

theorem run_isAggT {t : TypeId} {b : Bool} (h : isAggT P t = some b) (w : World) : (isAgg t).run P w = .ok b w := by
  unfold isAggT at h
  rw [Option.map_eq_some_iff] at h
  obtain ⟨d, hd, rfl⟩ := h
  simp [isAgg, run_underlying hd]
  cases d <;> simp

/-! ### Parts of structs and arrays by value -/
def vpart (P : Program) (t : TypeId) (cs : List V) (off : Nat) : Option V :=
  match isAggT P t, sizeT P t with
  | some true, some n => if off + n ≤ cs.length then some (.agg ((cs.drop off).take n)) else none
  | some false, _ => cs[off]?
  | _, _ => none

theorem vpart_ok {t : TypeId} {cs : List V} {us : Array Value} {off : Nat} {v : V} (hc : VRs g s w cs us.toList) (h : vpart P t cs off = some v) : ∃ u, (part t us off).run P w = .ok u w ∧ VR g s w v u := by
  unfold vpart at h
  split at h
  · rename_i n ha hn
    split at h
    · injection h with h
      subst h
      refine ⟨.agg (us.extract off (off + n)), by simp [part, run_isAggT ha, run_sizeT hn], ?_⟩
      simp only [VR]
      refine ⟨(us.toList.drop off).take n, congrArg Value.agg (by apply Array.ext'; simp [List.extract_eq_take_drop]), ?_⟩
      exact (hc.drop off).take n
    · cases h
  · rename_i ha
    obtain ⟨u, hu, hr⟩ := hc.get off h
    refine ⟨u, ?_, hr⟩
    rw [Array.getElem?_toList] at hu
    simp [part, run_isAggT ha, hu]
  · cases h

def vfield (P : Program) (t : TypeId) (x : V) (f : Nat) : Option V :=
  match P.underlying t, x with
  | some (.struct fields), .agg cs => match fields[f]? with
    | some fd => vpart P fd.type cs fd.offset
    | none => none
  | _, _ => none

theorem vfield_ok {t : TypeId} {x : V} {u : Value} {f : Nat} {v : V} (hx : VR g s w x u) (h : vfield P t x f = some v) : ∃ y, (Instr.field t u f).run P w = .ok y w ∧ VR g s w v y := by
  unfold vfield at h
  split at h
  · rename_i fields cs hu
    simp only [VR] at hx
    obtain ⟨us, rfl, hc⟩ := hx
    split at h
    · rename_i fd hfd
      obtain ⟨y, hy, hr⟩ := vpart_ok (us := us.toArray) (by simpa using hc) h
      exact ⟨y, by simp [Instr.field, run_underlying hu, hfd, asAgg, hy], hr⟩
    · cases h
  · cases h

/-! ### Integers -/
def bitOp (op : BinOp) (k : IntKind) (x y : Int) : Option Int :=
  let a := BitVec.ofInt k.bits x
  let b := BitVec.ofInt k.bits y
  match op with
  | .and => some (k.wrap ((a &&& b).toNat : Int))
  | .or => some (k.wrap ((a ||| b).toNat : Int))
  | .xor => some (k.wrap ((a ^^^ b).toNat : Int))
  | .andNot => some (k.wrap ((a &&& ~~~b).toNat : Int))
  | _ => none

def intBin (op : BinOp) (k : IntKind) (x y : Int) : Option V :=
  match op with
  | .add => some (.int k (k.wrap (x + y)))
  | .sub => some (.int k (k.wrap (x - y)))
  | .mul => some (.int k (k.wrap (x * y)))
  | .quo => if y = 0 then none else some (.int k (k.wrap (x.tdiv y)))
  | .rem => if y = 0 then none else some (.int k (x.tmod y))
  | .eql => some (.bool (decide (x = y)))
  | .neq => some (.bool (!decide (x = y)))
  | .lss => some (.bool (decide (x < y)))
  | .leq => some (.bool (decide (x ≤ y)))
  | .gtr => some (.bool (decide (y < x)))
  | .geq => some (.bool (decide (y ≤ x)))
  | .shl | .shr => none
  | op => (bitOp op k x y).map (.int k)

def shiftBin (op : BinOp) (k : IntKind) (x y : Int) : Option V :=
  if y < 0 then none else
  match op with
  | .shl => some (.int k (k.wrap (x * 2 ^ (min y.toNat k.bits))))
  | .shr => some (.int k (x / 2 ^ (min y.toNat k.bits)))
  | _ => none

theorem intBin_ok {op : BinOp} {k : IntKind} {x y : Int} {t : TypeId} {v : V} (h : intBin op k x y = some v) : ∃ u, (binOp op t (.int k x) (.int k y)).run P w = .ok u w ∧ VR g s w v u := by
  cases op <;> simp only [intBin, bitOp, Option.map_some, Option.some.injEq] at h <;> (try cases h) <;> (try (split at h; · cases h))
    <;> (try (injection h with h; subst h))
  case eql => exact ⟨.bool (x == y), by simp [binOp, Op.intCmp], by simp only [VR]; exact congrArg _ (by rw [Bool.eq_iff_iff]; simp)⟩
  case neq => exact ⟨.bool (x != y), by simp [binOp, Op.intCmp], by simp only [VR]; exact congrArg _ (by rw [Bool.eq_iff_iff]; simp)⟩
  all_goals first
    | (refine ⟨_, by simp [binOp, Op.intArith]; rfl, ?_⟩; simp [VR]; done)
    | (refine ⟨_, by simp [binOp, Op.intBits]; rfl, ?_⟩; simp [VR]; done)
    | (refine ⟨_, by simp [binOp, Op.intCmp]; rfl, ?_⟩; simp [VR]; done)
    | (rename_i h0; injection h with h; subst h; exact ⟨_, by simp [binOp, Op.intDiv, h0], by simp only [VR]; rfl⟩)
    | (rename_i h0; injection h with h; subst h; exact ⟨_, by simp [binOp, Op.intDiv, h0]; rfl, by simp only [VR]⟩)
    | (rename_i h0; exact ⟨_, by simp [binOp, Op.intDiv, h0]; rfl, by simp only [VR]⟩)
    | (refine ⟨_, by simp [binOp, Op.intCmp]; rfl, ?_⟩; simp only [VR]; congr 1; rw [Bool.eq_iff_iff]; simp; done)

theorem shiftBin_ok {op : BinOp} {k k' : IntKind} {x y : Int} {t : TypeId} {v : V} (h : shiftBin op k x y = some v) : ∃ u, (binOp op t (.int k x) (.int k' y)).run P w = .ok u w ∧ VR g s w v u := by
  unfold shiftBin at h
  split at h
  · cases h
  · rename_i h0
    split at h
    · injection h with h
      subst h
      exact ⟨.int k (k.wrap (x * 2 ^ (min y.toNat k.bits))), by simp [binOp, Op.shift, h0], by simp [VR]⟩
    · injection h with h
      subst h
      refine ⟨.int k (x.fdiv (2 ^ (min y.toNat k.bits))), by simp [binOp, Op.shift, h0], ?_⟩
      simp only [VR]
      rw [Int.fdiv_eq_ediv_of_nonneg _ (Int.le_of_lt (Int.pow_pos (by decide)))]
    · cases h

/-! ### Strings -/
def bytesLt : List UInt8 → List UInt8 → Bool
  | _, [] => false
  | [], _ :: _ => true
  | a :: x, b :: y => decide (a < b) || (a == b && bytesLt x y)

theorem bytesLt_eq : ∀ x y, Op.bytesLess x y = bytesLt x y
  | _, [] => by simp [Op.bytesLess, bytesLt]
  | [], _ :: _ => by simp [Op.bytesLess, bytesLt]
  | a :: x, b :: y => by simp [Op.bytesLess, bytesLt, bytesLt_eq x y]

theorem toList_mk (l : List UInt8) : (⟨l.toArray⟩ : ByteArray).toList = l := by
  have key : ∀ (n i : Nat) (acc : List UInt8), l.length - i = n → ByteArray.toList.loop ⟨l.toArray⟩ i acc = acc.reverse ++ l.drop i := by
    intro n
    induction n with
    | zero =>
      intro i acc hn
      unfold ByteArray.toList.loop
      rw [if_neg (by show ¬ i < l.toArray.size; simp; omega)]
      rw [List.drop_of_length_le (by omega)]
      simp
    | succ n ih =>
      intro i acc hn
      have hi : i < l.length := by omega
      unfold ByteArray.toList.loop
      rw [if_pos (by show i < l.toArray.size; simpa using hi), ih (i + 1) _ (by omega)]
      have hd : l.drop i = l[i] :: l.drop (i + 1) := List.drop_eq_getElem_cons hi
      have hg : (⟨l.toArray⟩ : ByteArray).get! i = l[i] := by
        show l.toArray[i]! = l[i]
        rw [getElem!_pos l.toArray i (by simpa using hi)]
        simp
      rw [hg, hd]
      simp
  have := key l.length 0 [] (by omega)
  simpa [ByteArray.toList] using this

theorem size_mk (l : List UInt8) : (⟨l.toArray⟩ : ByteArray).size = l.length := by show l.toArray.size = _; simp

theorem append_mk (x y : List UInt8) : (⟨x.toArray⟩ : ByteArray) ++ ⟨y.toArray⟩ = ⟨(x ++ y).toArray⟩ := by
  have h : ∀ a b : ByteArray, (a ++ b).data = a.data ++ b.data := fun a b => ByteArray.data_append ..
  have e := h ⟨x.toArray⟩ ⟨y.toArray⟩
  cases hh : (⟨x.toArray⟩ : ByteArray) ++ ⟨y.toArray⟩ with
  | mk d =>
    rw [hh] at e
    simp only at e
    rw [e]
    simp

def strBin (op : BinOp) (x y : List UInt8) : Option V :=
  match op with
  | .add => if x.length + y.length ≤ 9223372036854775807 then some (.str (x ++ y)) else none
  | .eql => some (.bool (decide (x = y)))
  | .neq => some (.bool (!decide (x = y)))
  | .lss => some (.bool (bytesLt x y))
  | .leq => some (.bool (bytesLt x y || decide (x = y)))
  | .gtr => some (.bool (!(bytesLt x y || decide (x = y))))
  | .geq => some (.bool (!bytesLt x y))
  | _ => none

theorem strBin_ok {op : BinOp} {x y : List UInt8} {t : TypeId} {v : V} (h : strBin op x y = some v) : ∃ u, (binOp op t (.string ⟨x.toArray⟩) (.string ⟨y.toArray⟩)).run P w = .ok u w ∧ VR g s w v u := by
  have hb : (x == y) = decide (x = y) := by rw [Bool.eq_iff_iff]; simp
  cases op <;> simp only [strBin] at h <;> (try cases h)
  case add =>
    split at h
    · rename_i h0
      injection h with h
      subst h
      have h1 : ¬ (9223372036854775807 : Int) < (x.length : Int) + (y.length : Int) := by omega
      exact ⟨_, by simp [binOp, Op.stringOp, size_mk, h1]; rfl, by simp [VR, append_mk]⟩
    · cases h
  all_goals exact ⟨_, by simp [binOp, Op.stringOp]; rfl, by simp [VR, toList_mk, bytesLt_eq, hb]⟩

/-! ### Equality of other values -/
def fieldsEqW (P : Program) (f : TypeId → V → V → Option Bool) : List Field → List V → List V → Option Bool
  | [], _, _ => some true
  | fd :: fs, xs, ys =>
    if fd.name ≠ "_" then
      match vpart P fd.type xs fd.offset, vpart P fd.type ys fd.offset with
      | some a, some b => match f fd.type a b with
        | some true => fieldsEqW P f fs xs ys
        | some false => some false
        | none => none
      | _, _ => none
    else fieldsEqW P f fs xs ys
def aggEq (P : Program) : Nat → TypeId → V → V → Option Bool
  | 0, _, _, _ => none
  | d + 1, t, x, y =>
    match P.underlying t, x, y with
    | some .bool, .bool a, .bool b => some (a == b)
    | some (.int _), .int k a, .int k' b => if k = k' then some (decide (a = b)) else none
    | some .string, .str a, .str b => some (decide (a = b))
    | some (.pointer _), .nilp, .nilp => some true
    | some (.pointer _), .nilp, .optr _ _ | some (.pointer _), .optr _ _, .nilp => some false
    | some (.pointer _), .nilp, .eptr _ _ | some (.pointer _), .eptr _ _, .nilp => some false
    | some (.slice _), .nils, .nils => some true
    | some (.slice _), .nils, .slice .. | some (.slice _), .slice .., .nils => some false
    | some (.slice _), .nils, .hslice .. | some (.slice _), .hslice .., .nils => some false
    | some (.map _ _), .nilm, .nilm => some true
    | some (.map _ _), .nilm, .omap _ | some (.map _ _), .omap _, .nilm => some false
    | some (.func ..), .nilf, .nilf => some true
    | some (.func ..), .nilf, .func .. | some (.func ..), .func .., .nilf => some false
    | some (.interface _), .nili, .nili => some true
    | some (.interface _), .nili, .iface _ _ | some (.interface _), .iface _ _, .nili => some false
    | some (.interface _), .iface tx vx, .iface ty vy =>
      if tx ≠ ty then some false else
      match (P.info? tx).map (·.comparable) with
      | some true => aggEq P d tx vx vy
      | _ => none
    | some (.struct fields), .agg xs, .agg ys => if P.stoodInHeld t then none else fieldsEqW P (fun t a b => aggEq P d t a b) fields.toList xs ys
    | _, _, _ => none
def aggEq.fieldsEq (P : Program) (d : Nat) (fs : List Field) (xs ys : List V) : Option Bool := fieldsEqW P (fun t a b => aggEq P d t a b) fs xs ys
theorem fieldsEq_nil {P : Program} {d : Nat} {xs ys : List V} : aggEq.fieldsEq P d [] xs ys = some true := rfl
theorem fieldsEq_cons {P : Program} {d : Nat} {f : Field} {fs : List Field} {xs ys : List V} : aggEq.fieldsEq P d (f :: fs) xs ys =
      if f.name ≠ "_" then
        match vpart P f.type xs f.offset, vpart P f.type ys f.offset with
        | some a, some b => match aggEq P d f.type a b with
          | some true => aggEq.fieldsEq P d fs xs ys
          | some false => some false
          | none => none
        | _, _ => none
      else aggEq.fieldsEq P d fs xs ys := rfl

end
end Go.Proofs.Ytmcadfejkcpblaa.Q
