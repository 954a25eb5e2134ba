import Derived.Test.YtcogghmmlndmgaaEk
set_option linter.unusedVariables false
set_option linter.unusedSimpArgs false
namespace Go.Proofs.Ytcogghmmlndmgaa.Q
open Go Go.RowKit Go.Proofs

def msgW : Msg := ⟨1, 2, 2, 3, 0, 0, 0, true, [], []⟩
theorem BW : vbuild Try.prog 24 [(0, .int .i64 1), (1, .int .i64 2), (2, .int .i64 2), (3, .int .i64 3), (7, .bool true)] = some (.agg (msgCells msgW .nils)) := by kernel_rfl
theorem ofVal_str {a : ByteArray} : ofVal (.string a) = some (.str a.data.toList) := rfl
theorem msgW_B : msgB msgW = [1, 2, 2, 3, 0, 0, 0, 1, 0, 0] := by
  have h : ∀ n : Nat, ¬ 127 < n → putN n = [UInt8.ofNat n] := fun n h => putN_small h
  simp [msgB, headI, msgW, putS, itemsS, bitI, h]
theorem wakes22_does (σ : St) : ∃ σ', Does Try.prog noPrim 9 [] σ (.ret (.bool true)) σ' ∧ Keep σ σ' := by
  have key : ∃ q σ', Does Try.prog noPrim 9 [] σ q σ' ∧ q = .ret (.bool true) ∧ Keep σ σ' := by
    apply k9_is.does (by simp)
    obtain ⟨r, σ1, hd, hk, hb⟩ := encode22_does (m := msgW) (w := .nils) (by simp [Msg.In, InI64, msgW]) ItemsV.nil (by simp [ItmsIn, msgW]) (by simp [msgW]) (by simp [msgW]) σ
    have hok : msgOk msgW = true := by decide
    rw [hok] at hd hb
    simp only [if_true] at hb hd
    rw [msgW_B] at hb
    simp only [k9_r0_e, k9_r1_e, k9_r2_e, k9_e, WK0, WK1, WK2, WK3, WK4, WK5, true_implies, vop, evAll, evOpt, evParts, vbuiltin, vun, vextract, Option.map_some, Option.map_none, Nat.reduceLT, Nat.reduceEqDiff, ↓reduceIte, reduceCtorEq, Nat.reduceAdd, Int.reduceLT, Int.reduceNeg, decide_true, decide_false, Bool.not_true, Bool.not_false, ne_eq, not_true_eq_false, not_false_eq_true, List.append_nil, Bool.false_eq_true, List.getElem?_cons_zero, List.getElem?_cons_succ, and_self, and_true, true_and, BW]
    refine KD.ret hd ?_
    simp only [k9_r0_e, k9_r1_e, k9_r2_e, k9_e, WK0, WK1, WK2, WK3, WK4, WK5, true_implies, vop, evAll, evOpt, evParts, vbuiltin, vun, vextract, Option.map_some, Option.map_none, Nat.reduceLT, Nat.reduceEqDiff, ↓reduceIte, reduceCtorEq, Nat.reduceAdd, Int.reduceLT, Int.reduceNeg, decide_true, decide_false, Bool.not_true, Bool.not_false, ne_eq, not_true_eq_false, not_false_eq_true, List.append_nil, Bool.false_eq_true, List.getElem?_cons_zero, List.getElem?_cons_succ, and_self, and_true, true_and, hb.str T22 U27 T9, ofVal_str, strBin, Int.reduceEq, decide_true]
    exact hk
  obtain ⟨q, σ', h1, rfl, h3⟩ := key
  exact ⟨σ', h1, h3⟩
end Go.Proofs.Ytcogghmmlndmgaa.Q
