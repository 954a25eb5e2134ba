import Derived.Test.YtodcajpeilgfgaaLj
import Derived.Test.YtodcajpeilgfgaaQt
set_option linter.unusedVariables false
set_option linter.unusedSimpArgs false
namespace Go.Proofs.Ytodcajpeilgfgaa.Q
open Go Go.RowKit Go.Proofs

theorem T24 : Try.prog.underlying 24 = some (.int .i64) := by kernel_rfl
theorem lex_a : lexS [97, 60, 61, 98] = ([⟨1, [97], 0, 0⟩, ⟨4, [60, 61], 0, 1⟩, ⟨1, [98], 0, 3⟩, ⟨5, [], 0, 4⟩], 0, 0) := by decide +kernel
theorem lex_b : lexS [108, 101, 116, 32, 120, 61, 48, 55] = ([], 6, 30) := by decide +kernel
def wkA : List Tok := [⟨1, [97], 0, 0⟩, ⟨4, [60, 61], 0, 1⟩, ⟨1, [98], 0, 3⟩, ⟨5, [], 0, 4⟩]
theorem BWa : vbuild Try.prog 32 [(0, .int .i64 4), (1, .str [60, 61]), (3, .int .i64 1)] = some (.agg (tokC ⟨4, [60, 61], 0, 1⟩)) := by kernel_rfl
theorem BWb : vbuild Try.prog 32 [(0, .int .i64 5), (3, .int .i64 4)] = some (.agg (tokC ⟨5, [], 0, 4⟩)) := by kernel_rfl
theorem ofVal_w : ofVal (.string (ByteArray.mk #[60, 61])) = some (.str [60, 61]) := rfl

set_option maxRecDepth 100000 in
theorem wakes_does (σ : St) : ∃ σ', Does Try.prog prims 7 [] σ (.ret (.bool true)) σ' ∧ Keep σ σ' := by
  have key : ∃ q σ', Does Try.prog prims 7 [] σ q σ' ∧ q = .ret (.bool true) ∧ Keep σ σ' := by
    apply k7_is.does (by simp)
    obtain ⟨q1, s1, d1, ⟨w1, rfl, r1, k1⟩⟩ := lex_key [97, 60, 61, 98] (by decide) σ
    obtain ⟨q2, s2, d2, ⟨w2, rfl, r2, k2⟩⟩ := lex_key [108, 101, 116, 32, 120, 61, 48, 55] (by decide) s1
    rw [lex_a] at d1 r1
    rw [lex_b] at d2 r2
    have d1' : Does Try.prog prims 8 [.str [97, 60, 61, 98]] σ (.ret (.tuple [w1, .int .i64 0, .int .i64 0])) s1 := d1
    have d2' : Does Try.prog prims 8 [.str [108, 101, 116, 32, 120, 61, 48, 55]] s1 (.ret (.tuple [w2, .int .i64 6, .int .i64 30])) s2 := d2
    have r1' : TokRow w1 wkA := r1
    have l1 : vlen Try.prog 23 w1 = some (.int .i64 4) := r1'.len
    have a1 : vindexAddr Try.prog 23 w1 (.int .i64 1) = some (.eptr (wkA.flatMap tokC) 4) := r1'.addr (i := 1) (by decide)
    have a3 : vindexAddr Try.prog 23 w1 (.int .i64 3) = some (.eptr (wkA.flatMap tokC) 12) := r1'.addr (i := 3) (by decide)
    have e1 : ∀ objs, vload Try.prog objs 32 (.eptr (wkA.flatMap tokC) 4) = some (.agg (tokC ⟨4, [60, 61], 0, 1⟩)) := fun objs => tok_load (l := wkA) (i := 1) (by decide)
    have e3 : ∀ objs, vload Try.prog objs 32 (.eptr (wkA.flatMap tokC) 12) = some (.agg (tokC ⟨5, [], 0, 4⟩)) := fun objs => tok_load (l := wkA) (i := 3) (by decide)
    simp only [k7_a, WK, vop, evAll, evOpt, evParts, vbuiltin, vun, vextract, Nat.reduceLT, Nat.reduceEqDiff, ↓reduceIte, reduceCtorEq, Nat.reduceAdd, Int.reduceLT, Int.reduceNeg, valloc_std, noSB]
    refine KD.ret d1' ?_
    simp only [k7_a, WK, vop, evAll, evOpt, evParts, vbuiltin, vun, vextract, Nat.reduceLT, Nat.reduceEqDiff, ↓reduceIte, reduceCtorEq, Nat.reduceAdd, Int.reduceLT, Int.reduceNeg, valloc_std, noSB]
    refine KD.ret d2' ?_
    simp only [k7_a, WK, vop, evAll, evOpt, evParts, vbuiltin, vun, vextract, Nat.reduceLT, Nat.reduceEqDiff, ↓reduceIte, reduceCtorEq, Nat.reduceAdd, Int.reduceLT, Int.reduceNeg, valloc_std, noSB, l1, a1, a3, e1, e3, ofVal_w, BWa, BWb, tok_eql, decide_true, Int.reduceEq]
    exact k1.trans k2
  obtain ⟨q, σ', h1, rfl, h3⟩ := key
  exact ⟨σ', h1, h3⟩

/-! ### LexReads -/
set_option maxRecDepth 100000 in
theorem lexreads_true (s : List UInt8) (hs : s.length ≤ 4294967296) (σ : St) : ∃ σ', Does Try.prog prims 3 [.str s] σ (.ret (.bool true)) σ' := by
  have key : ∃ q σ', Does Try.prog prims 3 [.str s] σ q σ' ∧ q = .ret (.bool true) := by
    apply k3_is.does (by simp)
    obtain ⟨s0, d0, k0⟩ := wakes_does σ
    obtain ⟨q1, s1, d1, ⟨w1, rfl, r1, k1⟩⟩ := lex_key s hs s0
    obtain ⟨q2, s2, d2, ⟨w2, rfl, r2, k2⟩⟩ := reflex_key s hs s1
    have hl : (lexS s).1.length ≤ 4096 := by
      unfold lexS
      split
      · simp
      · exact lexGo_le (by simp)
    have d3 := samerow_does r1 r2 (by omega) s2
    rw [decide_eq_true rfl] at d3
    simp only [k3_a, WK, vop, evAll, evOpt, evParts, vbuiltin, vun, vextract, Nat.reduceLT, Nat.reduceEqDiff, ↓reduceIte, reduceCtorEq, Nat.reduceAdd, Int.reduceLT, Int.reduceNeg, valloc_std, noSB]
    refine KD.ret d0 ?_
    simp only [k3_a, WK, vop, evAll, evOpt, evParts, vbuiltin, vun, vextract, Nat.reduceLT, Nat.reduceEqDiff, ↓reduceIte, reduceCtorEq, Nat.reduceAdd, Int.reduceLT, Int.reduceNeg, valloc_std, noSB]
    refine KD.ret d1 ?_
    simp only [k3_a, WK, vop, evAll, evOpt, evParts, vbuiltin, vun, vextract, Nat.reduceLT, Nat.reduceEqDiff, ↓reduceIte, reduceCtorEq, Nat.reduceAdd, Int.reduceLT, Int.reduceNeg, valloc_std, noSB]
    refine KD.ret d2 ?_
    simp only [k3_a, WK, vop, evAll, evOpt, evParts, vbuiltin, vun, vextract, Nat.reduceLT, Nat.reduceEqDiff, ↓reduceIte, reduceCtorEq, Nat.reduceAdd, Int.reduceLT, Int.reduceNeg, valloc_std, noSB]
    refine KD.ret d3 ?_
    simp only [k3_a, WK, vop, evAll, evOpt, evParts, vbuiltin, vun, vextract, Nat.reduceLT, Nat.reduceEqDiff, ↓reduceIte, reduceCtorEq, Nat.reduceAdd, Int.reduceLT, Int.reduceNeg, valloc_std, noSB, decide_true]
  obtain ⟨q, σ', h1, rfl⟩ := key
  exact ⟨σ', h1⟩
theorem strarg {P : Program} {t : TypeId} (ht : P.underlying t = some .string) {x : V} (h : ArgT P t x) : ∃ s, x = .str s ∧ s.length ≤ vbulk x := by
  unfold ArgT at h
  simp only [ht] at h
  obtain ⟨k, h⟩ := h
  obtain ⟨l, h1, _⟩ := VT_str ht h
  injection h1 with h1
  subst h1
  exact ⟨l, rfl, by simp only [vbulk]; omega⟩
theorem reads_true : LawTrue Try.prog prims 3 [9] := by
  intro xs hA hb
  match xs, hA with
  | [x], ⟨hx, _⟩ =>
    obtain ⟨s, rfl, hs⟩ := strarg T9 hx
    simp only [vbulks] at hb
    obtain ⟨σ', n, h⟩ := lexreads_true s (by omega) st0
    exact ⟨n, σ', h⟩
end Go.Proofs.Ytodcajpeilgfgaa.Q
