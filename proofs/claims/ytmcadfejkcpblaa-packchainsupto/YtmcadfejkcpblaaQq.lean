/- Objects: what pointers read and write. -/
import Derived.Test.YtmcadfejkcpblaaQp
set_option linter.unusedVariables false
set_option linter.unusedSimpArgs false
namespace Go.Proofs.Ytmcadfejkcpblaa.Q
open Go Go.RowKit

theorem vcells_one {v : V} (h : one v = true) : vcells v = [v] := by
  cases v <;> first | rfl | cases h

theorem BtsV.one {v : V} {bs : List UInt8} (h : BtsV v bs) : one v = true := by
  rcases h with ⟨rfl, _⟩ | ⟨p, rfl⟩ <;> rfl

section
variable {P : Program}

theorem vload_obj {objs : List Ob} {r off : Nat} {cs : List V} {t : TypeId} (h : objs[r]? = some (.cells cs)) (ha : isAggT P t = some false) : vload P objs t (.optr r off) = cs[off]? := by
  simp [vload, vcellsAt, h, vpart, ha]

theorem vstore_obj {σ : St} {r off : Nat} {cs : List V} {t : TypeId} {v : V} (h : σ.objs[r]? = some (.cells cs)) (hs : sizeT P t = some 1) (h1 : one v = true) (hl : off < cs.length) : vstore P σ t (.optr r off) v = some ⟨σ.objs.set r (.cells (cs.set off v)), σ.toks⟩ := by
  have h2 : off + 1 ≤ cs.length := hl
  simp [vstore, h, hs, vcells_one h1, h1, h2, setAll]

theorem eql_nilp {t u : TypeId} {xo yo : Operand} (ht : P.underlying t = some (.pointer u)) : vbin P .eql t xo yo .nilp .nilp = some (.bool true) := by
  simp [vbin, bothSame, guardFree, aggEq, ht]
theorem eql_optr {t u : TypeId} {xo yo : Operand} {r o : Nat} (ht : P.underlying t = some (.pointer u)) : vbin P .eql t xo yo (.optr r o) .nilp = some (.bool false) := by
  simp [vbin, bothSame, guardFree, aggEq, ht]
theorem neq_nilp {t u : TypeId} {xo yo : Operand} (ht : P.underlying t = some (.pointer u)) : vbin P .neq t xo yo .nilp .nilp = some (.bool false) := by
  simp [vbin, bothSame, guardFree, aggEq, ht]
theorem neq_optr {t u : TypeId} {xo yo : Operand} {r o : Nat} (ht : P.underlying t = some (.pointer u)) : vbin P .neq t xo yo (.optr r o) .nilp = some (.bool true) := by
  simp [vbin, bothSame, guardFree, aggEq, ht]
end

theorem ofVal_nilp : ofVal (.pointer none) = some .nilp := rfl
theorem vnil_optr {r o : Nat} : vnil (.optr r o) = some (.optr r o) := rfl

/-- All objects but one, and all tokens, stay. -/
def KeepX (r : Nat) (σ σ' : St) : Prop := (∀ (q : Nat) (o : Ob), q ≠ r → σ.objs[q]? = some o → σ'.objs[q]? = some o) ∧ σ.toks.length ≤ σ'.toks.length ∧ ∀ k, tokLive σ.toks k = true → tokLive σ'.toks k = true

theorem Keep.x {σ σ' : St} (h : Keep σ σ') (r : Nat) : KeepX r σ σ' := ⟨fun q o _ ho => h.1 q o ho, h.2⟩
theorem KeepX.refl (r : Nat) (σ : St) : KeepX r σ σ := (Keep.refl σ).x r
theorem KeepX.trans {r : Nat} {a b c : St} (h : KeepX r a b) (h2 : KeepX r b c) : KeepX r a c := ⟨fun q o hq ho => h2.1 q o hq (h.1 q o hq ho), Nat.le_trans h.2.1 h2.2.1, fun k hk => h2.2.2 k (h.2.2 k hk)⟩
theorem KeepX.set (r : Nat) (o : Ob) (σ : St) : KeepX r σ ⟨σ.objs.set r o, σ.toks⟩ := ⟨fun q o' hq ho => by simp only; rw [List.getElem?_set_ne (Ne.symm hq)]; exact ho, Nat.le_refl _, fun _ h => h⟩

theorem obj_set {objs : List Ob} {r : Nat} {o o' : Ob} (h : objs[r]? = some o) : (objs.set r o')[r]? = some o' := by
  rw [List.getElem?_set_self (List.getElem?_eq_some_iff.1 h).1]

theorem KeepX.set_eq {σ σ' : St} {r : Nat} {o o' : Ob} (h : σ.objs[r]? = some o) (hs : σ' = ⟨σ.objs.set r o', σ.toks⟩) : KeepX r σ σ' ∧ σ'.objs[r]? = some o' := by
  subst hs
  exact ⟨KeepX.set r o' σ, obj_set h⟩
end Go.Proofs.Ytmcadfejkcpblaa.Q
