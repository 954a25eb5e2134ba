/- Structures are compared field by field. -/
import Derived.Test.YtmcadfejkcpblaaQr
set_option linter.unusedVariables false
set_option linter.unusedSimpArgs false
namespace Go.Proofs.Ytmcadfejkcpblaa.Q
open Go Go.RowKit

section
variable {P : Program}
/-- A structure's fields: type and place. -/
def fieldsOf (P : Program) (t : TypeId) : List (TypeId × Nat) := match P.underlying t with
  | some (.struct fs) => if P.stoodInHeld t || fs.toList.any (fun f => decide (f.name = "_")) then [] else fs.toList.map fun f => (f.type, f.offset)
  | _ => []
def allEq (P : Program) (d : Nat) : List (TypeId × Nat) → List V → List V → Option Bool
  | [], _, _ => some true
  | f :: fs, xs, ys => match vpart P f.1 xs f.2, vpart P f.1 ys f.2 with
    | some a, some b => match aggEq P d f.1 a b with
      | some true => allEq P d fs xs ys
      | some false => some false
      | none => none
    | _, _ => none

theorem fieldsEq_all {d : Nat} : ∀ {fs : List Field} {xs ys : List V}, fs.any (fun f => decide (f.name = "_")) = false → aggEq.fieldsEq P d fs xs ys = allEq P d (fs.map fun f => (f.type, f.offset)) xs ys
  | [], xs, ys, _ => by simp [fieldsEq_nil, allEq]
  | f :: fs, xs, ys, h => by
    simp only [List.any_cons, Bool.or_eq_false_iff, decide_eq_false_iff_not] at h
    rw [fieldsEq_cons, if_pos h.1, List.map_cons, allEq]
    cases vpart P f.type xs f.offset <;> cases vpart P f.type ys f.offset <;> try rfl
    rename_i a b
    simp only
    cases aggEq P d f.type a b with
    | none => rfl
    | some r => cases r with
      | true => exact fieldsEq_all h.2
      | false => rfl

theorem aggEq_fields {t : TypeId} {d : Nat} {p : TypeId × Nat} {ps : List (TypeId × Nat)} {xs ys : List V} (h : fieldsOf P t = p :: ps) : aggEq P (d + 1) t (.agg xs) (.agg ys) = allEq P d (p :: ps) xs ys := by
  unfold fieldsOf at h
  split at h
  · rename_i fs hu
    split at h
    · cases h
    · rename_i hn
      cases h1 : P.stoodInHeld t with
      | true => rw [h1] at hn; simp at hn
      | false =>
        cases h2 : fs.toList.any (fun f => decide (f.name = "_")) with
        | true => rw [h1, h2] at hn; simp at hn
        | false =>
          rw [← h, ← fieldsEq_all h2]
          simp [aggEq, hu, h1, aggEq.fieldsEq]
  · cases h

theorem aggEq_int {t : TypeId} {k : IntKind} {d : Nat} {a b : Int} (h : P.underlying t = some (.int k)) : aggEq P (d + 1) t (.int k a) (.int k b) = some (decide (a = b)) := by
  simp [aggEq, h]
theorem aggEq_str {t : TypeId} {d : Nat} {a b : List UInt8} (h : P.underlying t = some .string) : aggEq P (d + 1) t (.str a) (.str b) = some (decide (a = b)) := by
  simp [aggEq, h]
theorem aggEq_bool {t : TypeId} {d : Nat} {a b : Bool} (h : P.underlying t = some .bool) : aggEq P (d + 1) t (.bool a) (.bool b) = some (a == b) := by
  simp [aggEq, h]
theorem vpart_one {t : TypeId} {cs : List V} {i : Nat} (h : isAggT P t = some false) : vpart P t cs i = cs[i]? := by simp [vpart, h]
theorem vpart_agg {t : TypeId} {cs : List V} {i n : Nat} (h : isAggT P t = some true) (hs : sizeT P t = some n) (hl : i + n ≤ cs.length) : vpart P t cs i = some (.agg ((cs.drop i).take n)) := by simp [vpart, h, hs, hl]

theorem vbin_aggneq {t : TypeId} {xo yo : Operand} {a b : List V} {r : Bool} (hg : P.eqGuardType P.depth t = false) (h : aggEq P 10000 t (.agg a) (.agg b) = some r) : vbin P .neq t xo yo (.agg a) (.agg b) = some (.bool (!r)) := by
  simp [vbin, bothSame, guardFree, hg, h]
theorem vbin_aggeql {t : TypeId} {xo yo : Operand} {a b : List V} {r : Bool} (hg : P.eqGuardType P.depth t = false) (h : aggEq P 10000 t (.agg a) (.agg b) = some r) : vbin P .eql t xo yo (.agg a) (.agg b) = some (.bool r) := by
  simp [vbin, bothSame, guardFree, hg, h]
/-- One more field. -/
theorem allEq_cons {d : Nat} {t : TypeId} {i : Nat} {fs : List (TypeId × Nat)} {xs ys : List V} {a b : V} {r : Bool} (h1 : vpart P t xs i = some a) (h2 : vpart P t ys i = some b) (h3 : aggEq P d t a b = some r) : allEq P d ((t, i) :: fs) xs ys = if r then allEq P d fs xs ys else some false := by
  simp only [allEq, h1, h2, h3]
  cases r <;> rfl
end
end Go.Proofs.Ytmcadfejkcpblaa.Q
