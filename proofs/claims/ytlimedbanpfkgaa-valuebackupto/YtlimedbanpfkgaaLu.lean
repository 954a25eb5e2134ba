/- ValueBytes: for every input of bulk at most 1048576 the law answers true. -/
import Derived.Test.YtlimedbanpfkgaaVr
import Derived.Test.YtlimedbanpfkgaaTw
import Derived.Test.YtlimedbanpfkgaaLt
set_option linter.unusedVariables false
set_option linter.unusedSimpArgs false
namespace Go.Proofs.Ytlimedbanpfkgaa.Q
open Go Go.RowKit Go.Proofs

theorem fitsS_weight {s : List UInt8} {v : Val} (h : fitsS s v = true) : weight v ≤ 16384 := by
  obtain ⟨T, _, _, h1, _⟩ := fitsS_ty h
  exact h1
theorem decS_cases (s b : List UInt8) : (decS s b = (val0, 1) ∧ tyS s = none) ∨ (decS s b = (val0, 11) ∧ ∃ T, tyS s = some T) ∨ (fitsS s (decS s b).1 = true ∧ (decS s b).2 = 0 ∧ putV (decS s b).1 = b) := by
  unfold decS
  cases h : tyS s with
  | none => exact .inl ⟨rfl, rfl⟩
  | some T =>
    obtain ⟨rfl, h4⟩ := tyS_iff.1 h
    simp only
    by_cases hk : okS T (rdS true T (b, false)) = true
    · rw [if_pos hk]
      unfold okS at hk
      simp only [Bool.and_eq_true, Bool.not_eq_true', decide_eq_true_eq] at hk
      obtain ⟨h1, h2, h3⟩ := hk
      obtain ⟨_, h6⟩ := rdS_can T (b, false) h1
      rw [h2, List.append_nil] at h6
      exact .inr (.inr ⟨h3, rfl, h6⟩)
    · rw [if_neg hk]
      exact .inr (.inl ⟨rfl, T, rfl⟩)
theorem decS_weight (s b : List UInt8) : weight (decS s b).1 ≤ 16384 := by
  rcases decS_cases s b with ⟨h, _⟩ | ⟨h, _⟩ | ⟨h, _⟩
  · rw [h]; simp [val0, weight, weights]
  · rw [h]; simp [val0, weight, weights]
  · exact fitsS_weight h

set_option maxRecDepth 100000 in
theorem bytes_true : LawTrue Try.prog prims 5 [24, 9, 44] := by
  intro xs hA hb
  match xs, hA with
  | [x, y, z], ⟨hx, hy, hz, _⟩ =>
    obtain ⟨v, c, rfl, hc, wv⟩ := val_arg hx
    obtain ⟨s, rfl, hs⟩ := str_arg T9 hy
    obtain ⟨b, hB, hBl⟩ := bytes_arg T22 T5 C5 hz
    simp only [vbulks] at hb
    have wv' : weight v ≤ 4294967296 := by omega
    have hl : s.length ≤ 4294967296 := by omega
    obtain ⟨D1, D2⟩ := decode_both (s := s) hl (b := b) (by omega) hB
    have key : ∃ r σ', Does Try.prog prims 5 [.agg c, .str s, z] st0 r σ' ∧ r = .ret (.bool true) := by
      apply k5_is.does (by simp)
      have hc4 := hc.len
      have one := hc.one
      obtain ⟨s1, hs1⟩ : ∃ s1 : St, s1 = ⟨st0.objs ++ [Ob.cells c], st0.toks⟩ := ⟨_, rfl⟩
      have q1 : IsV s1 0 c := by rw [hs1]; rfl
      obtain ⟨s2, d2, k2⟩ := wakes_does1 c
      have e1 : (⟨[Ob.cells c], []⟩ : St) = s1 := by rw [hs1]; rfl
      rw [e1] at d2 k2
      have q2 := k2.atV q1
      obtain ⟨l1, s3, d3, k3⟩ := large_does s2 wv' hc
      have q3 := k3.atV q2
      obtain ⟨r4, s4, d4, k4, b4⟩ := encode_does hl s3 wv' hc
      have q4 := k4.atV q3
      obtain ⟨r5, s5, d5, k5, b5⟩ := refencode_does hl s4 wv' hc
      obtain ⟨c6, s6, d6, k6, h6⟩ := D1 s5
      obtain ⟨s7, hs7⟩ : ∃ s7 : St, s7 = ⟨(s6.objs ++ [Ob.cells val0C]).set s6.objs.length (Ob.cells c6), s6.toks⟩ := ⟨_, rfl⟩
      have p7 : IsV s7 s6.objs.length c6 := by rw [hs7]; exact IsV.made
      obtain ⟨c8, s8, d8, k8, h8⟩ := D2 s7
      have p8 := k8.atV p7
      obtain ⟨s9, hs9⟩ : ∃ s9 : St, s9 = ⟨(s8.objs ++ [Ob.cells val0C]).set s8.objs.length (Ob.cells c8), s8.toks⟩ := ⟨_, rfl⟩
      have k9 : Keep s8 s9 := by rw [hs9]; exact (Keep.refl s8).madeV _ _
      have p9 := k9.atV p8
      have q9 : IsV s9 s8.objs.length c8 := by rw [hs9]; exact IsV.made
      have hw := decS_weight s b
      obtain ⟨s10, d10, k10⟩ := same_does s9 (by omega) h6 h8
      rw [self_dec] at d10
      simp only [k5_a, WK, vop, evAll, evOpt, evParts, vbuiltin, vun, vextract, Nat.reduceLT, Nat.reduceEqDiff, ↓reduceIte, reduceCtorEq, Nat.reduceAdd, Int.reduceLT, Int.reduceNeg, vbox, vcells, List.length_nil, show st0.objs.length = 0 from rfl, ← hs1]
      refine KD.ret d2 ?_
      simp only [k5_a, WK, vop, evAll, evOpt, evParts, vbuiltin, vun, vextract, Nat.reduceLT, Nat.reduceEqDiff, ↓reduceIte, reduceCtorEq, Nat.reduceAdd, Int.reduceLT, Int.reduceNeg, q2.load hc.len]
      refine KD.ret d3 ?_
      cases l1 with
      | true => simp only [k5_a, WK, vop, evAll, evOpt, evParts, vbuiltin, vun, vextract, Nat.reduceLT, Nat.reduceEqDiff, ↓reduceIte, reduceCtorEq, Nat.reduceAdd, Int.reduceLT, Int.reduceNeg]
      | false =>
      by_cases hbig : (65536 : Int) < b.length
      · simp only [k5_a, WK, vop, evAll, evOpt, evParts, vbuiltin, vun, vextract, Nat.reduceLT, Nat.reduceEqDiff, ↓reduceIte, reduceCtorEq, Nat.reduceAdd, Int.reduceLT, Int.reduceNeg, hB.len T22, hbig]
      · simp only [k5_a, WK, vop, evAll, evOpt, evParts, vbuiltin, vun, vextract, Nat.reduceLT, Nat.reduceEqDiff, ↓reduceIte, reduceCtorEq, Nat.reduceAdd, Int.reduceLT, Int.reduceNeg, hB.len T22, hbig, q3.load hc.len]
        refine KD.ret d4 ?_
        simp only [k5_a, WK, vop, evAll, evOpt, evParts, vbuiltin, vun, vextract, Nat.reduceLT, Nat.reduceEqDiff, ↓reduceIte, reduceCtorEq, Nat.reduceAdd, Int.reduceLT, Int.reduceNeg, q4.load hc.len]
        refine KD.ret d5 ?_
        simp only [k5_a, WK, vop, evAll, evOpt, evParts, vbuiltin, vun, vextract, Nat.reduceLT, Nat.reduceEqDiff, ↓reduceIte, reduceCtorEq, Nat.reduceAdd, Int.reduceLT, Int.reduceNeg]
        refine KD.ret d6 ?_
        simp only [k5_a, WK, vop, evAll, evOpt, evParts, vbuiltin, vun, vextract, Nat.reduceLT, Nat.reduceEqDiff, ↓reduceIte, reduceCtorEq, Nat.reduceAdd, Int.reduceLT, Int.reduceNeg, VZ24, vbox, vcells, IsV.new h6.len (show val0C.length = 4 from rfl) h6.one, ← hs7]
        refine KD.ret d8 ?_
        simp only [k5_a, WK, vop, evAll, evOpt, evParts, vbuiltin, vun, vextract, Nat.reduceLT, Nat.reduceEqDiff, ↓reduceIte, reduceCtorEq, Nat.reduceAdd, Int.reduceLT, Int.reduceNeg, VZ24, vbox, vcells, IsV.new h8.len (show val0C.length = 4 from rfl) h8.one, ← hs9, b4.str T22 (t2 := 9) (show isU8 Try.prog 5 = true by kernel_rfl) T9, b5.str T22 (t2 := 9) (show isU8 Try.prog 5 = true by kernel_rfl) T9, strBin, eq_self, p9.load h6.len, q9.load h8.len]
        refine KD.ret d10 ?_
        simp only [k5_a, WK, vop, evAll, evOpt, evParts, vbuiltin, vun, vextract, Nat.reduceLT, Nat.reduceEqDiff, ↓reduceIte, reduceCtorEq, Nat.reduceAdd, Int.reduceLT, Int.reduceNeg, eq_self]
    obtain ⟨r, σ', ⟨n, h⟩, rfl⟩ := key
    exact ⟨n, σ', h⟩
end Go.Proofs.Ytlimedbanpfkgaa.Q
