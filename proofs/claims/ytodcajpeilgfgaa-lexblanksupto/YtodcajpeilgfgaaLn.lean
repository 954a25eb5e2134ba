import Derived.Test.YtodcajpeilgfgaaLm
set_option linter.unusedVariables false
set_option linter.unusedSimpArgs false
namespace Go.Proofs.Ytodcajpeilgfgaa.Q
open Go Go.RowKit Go.Proofs

theorem flat_take {α : Type} {f : α → List V} {k : Nat} (hf : ∀ a, (f a).length = k) (l : List α) {i : Nat} (h : i ≤ l.length) : (l.flatMap f).take (i * k) = (l.take i).flatMap f := by
  have h1 : (l.take i).flatMap f ++ (l.drop i).flatMap f = l.flatMap f := by rw [← List.flatMap_append, List.take_append_drop]
  have h2 : ((l.take i).flatMap f).length = i * k := by rw [flat_len hf, List.length_take, Nat.min_eq_left h]
  rw [← h1, ← h2, List.take_left]
theorem TokRow.take {w : V} {l : List Tok} (h : TokRow w l) {j : Nat} (hj : j ≤ l.length) (hl : l.length ≤ 1000000) : ∃ v', vslice Try.prog 23 w none (some (.int .i64 (j : Int))) none = some v' ∧ TokRow v' (l.take j) := by
  have hb : vbounds l.length none (some (.int .i64 (j : Int))) none = some (0, j, none) := vbounds_hi (by omega) (by omega)
  obtain ⟨v', h1, h2⟩ := RowV.slice h (t := 23) TT SK hb (Nat.zero_le _) hj
  refine ⟨v', h1, ?_⟩
  unfold TokRow
  rw [Nat.zero_mul, List.drop_zero, Nat.sub_zero, flat_take tokC_len l hj] at h2
  rw [List.length_take, Nat.min_eq_left hj]
  exact h2
theorem FE0 (cs : List V) (i : Nat) : vfieldAddr Try.prog 32 (.eptr cs i) 0 = some (.eptr cs i) := by kernel_rfl
theorem FE3 (cs : List V) (i : Nat) : vfieldAddr Try.prog 32 (.eptr cs i) 3 = some (.eptr cs (i + 3)) := by kernel_rfl
theorem FE1 (cs : List V) (i : Nat) : vfieldAddr Try.prog 32 (.eptr cs i) 1 = some (.eptr cs (i + 1)) := by kernel_rfl
theorem FE2 (cs : List V) (i : Nat) : vfieldAddr Try.prog 32 (.eptr cs i) 2 = some (.eptr cs (i + 2)) := by kernel_rfl
theorem tok_cell {l : List Tok} {i : Nat} (hi : i < l.length) {j : Nat} (hj : j < 4) : (l.flatMap tokC)[i * 4 + j]? = (tokC l[i])[j]? := by
  have h := flat_part (f := tokC) tokC_len hi
  have h2 := congrArg (·[j]?) h
  simp only [List.getElem?_take_of_lt hj, List.getElem?_drop] at h2
  exact h2
theorem eload {objs : List Ob} {cs : List V} {i : Nat} {v : V} {t : TypeId} (ha : isAggT Try.prog t = some false) (h : cs[i]? = some v) : vload Try.prog objs t (.eptr cs i) = some v := by simp [vload, vcellsAt, vpart, ha, h]
theorem tok_pos {l : List Tok} {i : Nat} {t : Tok} (hi : l[i]? = some t) (objs : List Ob) : vload Try.prog objs 3 (.eptr (l.flatMap tokC) (i * 4 + 3)) = some (.int .i64 (t.pos : Nat)) := by
  obtain ⟨h, rfl⟩ := List.getElem?_eq_some_iff.1 hi
  exact eload G3 (by rw [tok_cell h (by omega)]; rfl)
theorem tok_num {l : List Tok} {i : Nat} {t : Tok} (hi : l[i]? = some t) (objs : List Ob) : vload Try.prog objs 3 (.eptr (l.flatMap tokC) (i * 4 + 2)) = some (.int .i64 (t.num : Nat)) := by
  obtain ⟨h, rfl⟩ := List.getElem?_eq_some_iff.1 hi
  exact eload G3 (by rw [tok_cell h (by omega)]; rfl)
theorem tok_text {l : List Tok} {i : Nat} {t : Tok} (hi : l[i]? = some t) (objs : List Ob) : vload Try.prog objs 9 (.eptr (l.flatMap tokC) (i * 4 + 1)) = some (.str t.text) := by
  obtain ⟨h, rfl⟩ := List.getElem?_eq_some_iff.1 hi
  exact eload G9 (by rw [tok_cell h (by omega)]; rfl)
theorem tok_kind {l : List Tok} {i : Nat} {t : Tok} (hi : l[i]? = some t) (objs : List Ob) : vload Try.prog objs 3 (.eptr (l.flatMap tokC) (i * 4)) = some (.int .i64 t.kind) := by
  obtain ⟨h, rfl⟩ := List.getElem?_eq_some_iff.1 hi
  exact eload G3 (by have := tok_cell h (j := 0) (by omega); rw [Nat.add_zero] at this; rw [this]; rfl)
theorem str_hi {s : List UInt8} {m : Nat} (hm : m ≤ s.length) (hs : s.length ≤ 4294967296) : vslice Try.prog 9 (.str s) none (some (.int .i64 (m : Int))) none = some (.str (s.take m)) := by
  have := vbounds_hi (len := s.length) (k := .i64) (n := m) (by omega) (by omega)
  simp [vslice, T9, this]

set_option maxRecDepth 100000 in
theorem lexcuts_true (s : List UInt8) (hs : s.length ≤ 4294967296) (n : Int) (σ : St) : ∃ σ', Does Try.prog prims 6 [.str s, .int .i64 n] σ (.ret (.bool true)) σ' := by
  have key : ∃ q σ', Does Try.prog prims 6 [.str s, .int .i64 n] σ q σ' ∧ q = .ret (.bool true) := by
    apply k6_is.does (by simp)
    obtain ⟨s0, d0, k0⟩ := wakes_does σ
    obtain ⟨q1, s1, d1, ⟨w1, rfl, r1, k1⟩⟩ := lex_key s hs s0
    simp only [k6_a, WK, vop, evAll, evOpt, evParts, vbuiltin, vun, vextract, Nat.reduceLT, Nat.reduceEqDiff, ↓reduceIte, reduceCtorEq, Nat.reduceAdd, Int.reduceLT, Int.reduceNeg, valloc_std, noSB]
    refine KD.ret d0 ?_
    simp only [k6_a, WK, vop, evAll, evOpt, evParts, vbuiltin, vun, vextract, Nat.reduceLT, Nat.reduceEqDiff, ↓reduceIte, reduceCtorEq, Nat.reduceAdd, Int.reduceLT, Int.reduceNeg, valloc_std, noSB]
    refine KD.ret d1 ?_
    rcases lexS_cases s with ⟨m, er, hR, her, hn⟩ | ⟨ts, hR, hch, h4096, h16⟩
    · rw [hR] at r1 ⊢
      have her' : (er = 0) = False := eq_false her
      simp only [k6_a, WK, vop, evAll, evOpt, evParts, vbuiltin, vun, vextract, Nat.reduceLT, Nat.reduceEqDiff, ↓reduceIte, reduceCtorEq, Nat.reduceAdd, Int.reduceLT, Int.reduceNeg, valloc_std, noSB, her']
    · rw [hR] at r1 ⊢
      replace r1 : TokRow w1 ts := r1
      have hl := r1.len
      have hpos : 0 < ts.length := by obtain ⟨_, _, h, _⟩ := hch.head; rw [h]; simp
      have w1' := wrap_sub1 (n := ts.length) hpos (by omega)
      by_cases hn0 : n < 0
      · simp only [k6_a, WK, vop, evAll, evOpt, evParts, vbuiltin, vun, vextract, Nat.reduceLT, Nat.reduceEqDiff, ↓reduceIte, reduceCtorEq, Nat.reduceAdd, Int.reduceLT, Int.reduceNeg, valloc_std, noSB, hn0]
      by_cases hnl : ((ts.length - 1 : Nat) : Int) ≤ n
      · simp only [k6_a, WK, vop, evAll, evOpt, evParts, vbuiltin, vun, vextract, Nat.reduceLT, Nat.reduceEqDiff, ↓reduceIte, reduceCtorEq, Nat.reduceAdd, Int.reduceLT, Int.reduceNeg, valloc_std, noSB, hn0, hl, w1', hnl]
      obtain ⟨j, rfl⟩ : ∃ j : Nat, n = (j : Int) := ⟨n.toNat, by omega⟩
      have hj : j + 1 < ts.length := by omega
      obtain ⟨t, ht⟩ : ∃ t, ts[j + 1]? = some t := ⟨_, List.getElem?_eq_getElem hj⟩
      obtain ⟨hp, hcut⟩ := lexS_cut hR ht
      obtain ⟨us, hus⟩ : ∃ us, us = ts.take (j + 1) ++ [(⟨5, [], 0, t.pos⟩ : Tok)] := ⟨_, rfl⟩
      rw [← hus] at hcut
      have hul : us.length = j + 2 := by rw [hus, List.length_append, List.length_take]; simp; omega
      obtain ⟨q2, s2, d2, ⟨w2, rfl, r2, k2⟩⟩ := lex_key (s.take t.pos) (by rw [List.length_take]; omega) s1
      rw [hcut] at d2 r2
      replace r2 : TokRow w2 us := r2
      have hl2 := r2.len
      rw [hul] at hl2
      obtain ⟨v3, sl3, r3⟩ := r1.take (j := j + 1) (by omega) (by omega)
      obtain ⟨v4, sl4, r4⟩ := r2.take (j := j + 1) (by omega) (by omega)
      have htk : us.take (j + 1) = ts.take (j + 1) := by
        rw [hus, List.take_left' (by rw [List.length_take]; omega)]
      rw [htk] at r4
      have d5 := samerow_does r4 r3 (by rw [List.length_take]; omega) s2
      rw [decide_eq_true rfl] at d5
      have hu : us[j + 1]? = some ⟨5, [], 0, t.pos⟩ := by
        rw [hus, List.getElem?_append_right (by rw [List.length_take]; omega), List.length_take]
        rw [show j + 1 - min (j + 1) ts.length = 0 by omega]
        rfl
      have wj : IntKind.i64.wrap ((j : Int) + 1) = ((j + 1 : Nat) : Int) := idx_wrap (by omega)
      have wj2 : IntKind.i64.wrap ((j : Int) + 2) = ((j + 2 : Nat) : Int) := by rw [wrap_i64 (by omega) (by omega)]; omega
      have a1 := r1.addr hj
      have a2 := r2.addr (i := j + 1) (by omega)
      simp only [k6_a, WK, vop, evAll, evOpt, evParts, vbuiltin, vun, vextract, Nat.reduceLT, Nat.reduceEqDiff, ↓reduceIte, reduceCtorEq, Nat.reduceAdd, Int.reduceLT, Int.reduceNeg, valloc_std, noSB, hn0, hl, w1', hnl, wj, a1, FE3, tok_pos ht, T9, str_hi hp hs]
      refine KD.ret d2 ?_
      simp only [k6_a, WK, vop, evAll, evOpt, evParts, vbuiltin, vun, vextract, Nat.reduceLT, Nat.reduceEqDiff, ↓reduceIte, reduceCtorEq, Nat.reduceAdd, Int.reduceLT, Int.reduceNeg, valloc_std, noSB, hl2, wj, wj2, decide_true, TT, sl4, sl3]
      refine KD.ret d5 ?_
      simp only [k6_a, WK, vop, evAll, evOpt, evParts, vbuiltin, vun, vextract, Nat.reduceLT, Nat.reduceEqDiff, ↓reduceIte, reduceCtorEq, Nat.reduceAdd, Int.reduceLT, Int.reduceNeg, valloc_std, noSB, wj, a1, a2, FE0, FE3, tok_pos ht, tok_pos hu, tok_kind hu, decide_true]
  obtain ⟨q, σ', h1, rfl⟩ := key
  exact ⟨σ', h1⟩
theorem cuts_true : LawTrue Try.prog prims 6 [9, 3] := by
  intro xs hA hb
  match xs, hA with
  | [x, y], ⟨hx, hy, _⟩ =>
    obtain ⟨s, rfl, hs⟩ := strarg T9 hx
    obtain ⟨n, rfl, hn⟩ := int_arg T3 hy
    simp only [vbulks] at hb
    obtain ⟨σ', m, h⟩ := lexcuts_true s (by omega) n st0
    exact ⟨m, σ', h⟩
end Go.Proofs.Ytodcajpeilgfgaa.Q
