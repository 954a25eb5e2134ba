/- PackMemory: for every input of bulk at most 1048576 the law answers true. -/
import Derived.Test.YtmcadfejkcpblaaMn
set_option linter.unusedVariables false
set_option linter.unusedSimpArgs false
set_option maxRecDepth 100000
namespace Go.Proofs.Ytmcadfejkcpblaa.Q
open Go Go.RowKit Go.Proofs

theorem memory_true : LawTrue Try.prog prims 9 [22, 30] := by
  intro args hA hb
  match args, hA with
  | [v, w], ⟨hx, hx2, _⟩ =>
    obtain ⟨bs, hv, hl⟩ := bytes_arg T22 T5 C5 hx
    obtain ⟨xs, hw, hl2⟩ := ints_arg IT.u IT.ue IT.c hx2
    simp only [vbulks] at hb
    have hps := putS_len hw.2
    have key : ∃ r σ', Does Try.prog prims 9 [v, w] st0 r σ' ∧ r = .ret (.bool true) := by
      apply k9_is.does (by simp)
      obtain ⟨s1, hwk⟩ := wakes_does
      -- mine
      obtain ⟨s2, hs2⟩ : ∃ s2 : St, s2 = ⟨s1.objs ++ [.cells []], s1.toks⟩ := ⟨_, rfl⟩
      have k2 : Keep s1 s2 := by rw [hs2]; exact (Keep.refl s1).push _
      have l2 := litRow0 s1
      rw [← hs2] at l2
      have h2 : HB s2 (.hslice s1.objs.length 0 1 0) s1.objs.length [] := by rw [hs2]; exact made _ [] rfl
      obtain ⟨v3, r3, s3, a3, h3, k3, _⟩ := h2.append (y := v) (ys := bs) (.inl hv) (by simp; omega)
      rw [List.nil_append] at h3
      obtain ⟨s4, hs4⟩ : ∃ s4 : St, s4 = ⟨s3.objs ++ [.cells [.int .u8 71, .int .u8 72, .int .u8 73]], s3.toks⟩ := ⟨_, rfl⟩
      have k4 : Keep s3 s4 := by rw [hs4]; exact (Keep.refl s3).push _
      have l4 := litRow3 s3
      rw [← hs4] at l4
      have h4 : HB s4 (.hslice s3.objs.length 0 1 3) s3.objs.length [71, 72, 73] := by rw [hs4]; exact made _ [71, 72, 73] rfl
      obtain ⟨mine, rM, s5, a5, h5, k5, _⟩ := (h3.keep k4).append h4.rb (by simp; omega)
      obtain ⟨mb, hmb⟩ : ∃ mb, mb = bs ++ [71, 72, 73] := ⟨_, rfl⟩
      rw [← hmb] at h5
      have hml : mb.length = bs.length + 3 := by rw [hmb]; simp
      have hmt : mb.take bs.length = bs := by rw [hmb, List.take_left]
      -- nums
      obtain ⟨nums, s6, a6, hnums, k6, ob6⟩ := intsCopy (σ := s5) hw (by omega)
      have h6 := h5.keep k6
      obtain ⟨m1, sl1, rb1⟩ := h6.slice (n := bs.length) (by omega) (by omega)
      rw [hmt] at rb1
      -- one, two
      obtain ⟨out, hout⟩ : ∃ out, out = bs ++ putS xs := ⟨_, rfl⟩
      have hol : out.length ≤ 100000000 := by rw [hout, List.length_append]; omega
      obtain ⟨one, r1, s7, d7, k7, h7, q7⟩ := put_does rb1 hnums (by omega)
      rw [← hout] at h7
      obtain ⟨two, r2, s8, d8, k8, h8, q8⟩ := put_does (rb1.keep k7) hnums (by omega)
      rw [← hout] at h8
      -- the readers
      obtain ⟨s9, d9, k9, R9, n9⟩ := new_does ((rb1.keep k7).keep k8) (by omega)
      obtain ⟨s10, d10, k10, S10, n10⟩ := new_does (((rb1.keep k7).keep k8).keep k9) (by omega)
      obtain ⟨ro, hro⟩ : ∃ ro, ro = s8.objs.length := ⟨_, rfl⟩
      obtain ⟨so, hso⟩ : ∃ so, so = s9.objs.length := ⟨_, rfl⟩
      rw [← hro] at d9 R9 n9
      rw [← hso] at d10 S10 n10
      obtain ⟨first, rf, s11, d11, k11, R11, h11, q11⟩ := bytes_all (R9.keep' k10) (by omega)
      have L7 := Keep.olen k7
      have L8 := Keep.olen k8
      have lM := h6.lt
      have l1 := h7.lt
      have l2' := h8.lt
      -- how they stand
      have M11 : HB s11 mine rM mb := ((((h6.keep k7).keep k8).keep k9).keep k10).keepX k11 (by omega)
      have O11 : HB s11 one r1 out := (((h7.keep k8).keep k9).keep k10).keepX k11 (by omega)
      have T11 : HB s11 two r2 out := ((h8.keep k9).keep k10).keepX k11 (by omega)
      have S11 := S10.keep k11 (show so ≠ ro by omega)
      obtain ⟨m2, sl2, rb2⟩ := M11.slice (n := bs.length) (by omega) (by omega)
      rw [hmt] at rb2
      have d12 := samebytes_does rb2 (RB.keep (σ := s11) (.inl hv : RB s11 v bs) (Keep.refl _)) (by omega)
      have d13 := samebytes_does O11.rb T11.rb (by omega)
      rw [decide_eq_true rfl] at d12 d13
      have at71 : ∀ j (hj : j < 3), ∃ p, vindexAddr Try.prog 22 mine (.int .i64 ((bs.length + j : Nat) : Int)) = some p ∧ vload Try.prog s11.objs 5 p = some (.int .u8 ((71 + j : Nat) : Int)) := by
        intro j hj
        have hlt : bs.length + j < mb.length := by omega
        obtain ⟨p, h1, h2⟩ := M11.rb.at hlt
        refine ⟨p, h1, ?_⟩
        rw [h2]
        have : mb[bs.length + j] = ([71, 72, 73] : List UInt8)[j]'(by simpa using hj) := by
          simp only [hmb]
          rw [List.getElem_append_right (by omega)]
          congr 1
          omega
        rw [this]
        rcases j with _ | _ | _ | j
        · rfl
        · rfl
        · rfl
        · omega
      obtain ⟨p0, i0, v0'⟩ := at71 0 (by omega)
      obtain ⟨p1, i1, v1'⟩ := at71 1 (by omega)
      obtain ⟨p2, i2, v2'⟩ := at71 2 (by omega)
      have v0 : vload Try.prog s11.objs 5 p0 = some (.int .u8 71) := v0'
      have v1 : vload Try.prog s11.objs 5 p1 = some (.int .u8 72) := v1'
      have v2 : vload Try.prog s11.objs 5 p2 = some (.int .u8 73) := v2'
      rw [Nat.add_zero] at i0
      have w1' : IntKind.i64.wrap ((bs.length : Int) + 1) = ((bs.length + 1 : Nat) : Int) := by rw [wrap_i64 (by omega) (by omega)]; omega
      have w2' : IntKind.i64.wrap ((bs.length : Int) + 2) = ((bs.length + 2 : Nat) : Int) := by rw [wrap_i64 (by omega) (by omega)]; omega
      simp only [k9_a, WK, vop, evAll, evOpt, evParts, vbuiltin, vun, vextract, Nat.reduceLT, Nat.reduceEqDiff, ↓reduceIte, reduceCtorEq, Nat.reduceAdd, Int.reduceLT, Int.reduceNeg, valloc_std, noSB, vhot]
      refine KD.ret hwk ?_
      simp only [k9_a, WK, vop, evAll, evOpt, evParts, vbuiltin, vun, vextract, Nat.reduceLT, Nat.reduceEqDiff, ↓reduceIte, reduceCtorEq, Nat.reduceAdd, Int.reduceLT, Int.reduceNeg, valloc_std, noSB, vhot, l2, a3, l4, a5, ib0, a6, hv.len T22, T22, sl1]
      refine KD.ret d7 ?_
      simp only [k9_a, WK, vop, evAll, evOpt, evParts, vbuiltin, vun, vextract, Nat.reduceLT, Nat.reduceEqDiff, ↓reduceIte, reduceCtorEq, Nat.reduceAdd, Int.reduceLT, Int.reduceNeg, valloc_std, noSB, vhot, hv.len T22, T22, sl1]
      refine KD.ret d8 ?_
      simp only [k9_a, WK, vop, evAll, evOpt, evParts, vbuiltin, vun, vextract, Nat.reduceLT, Nat.reduceEqDiff, ↓reduceIte, reduceCtorEq, Nat.reduceAdd, Int.reduceLT, Int.reduceNeg, valloc_std, noSB, vhot, hv.len T22, T22, sl1]
      refine KD.ret d9 ?_
      simp only [k9_a, WK, vop, evAll, evOpt, evParts, vbuiltin, vun, vextract, Nat.reduceLT, Nat.reduceEqDiff, ↓reduceIte, reduceCtorEq, Nat.reduceAdd, Int.reduceLT, Int.reduceNeg, valloc_std, noSB, vhot, hv.len T22, T22, sl1]
      refine KD.ret d10 ?_
      simp only [k9_a, WK, vop, evAll, evOpt, evParts, vbuiltin, vun, vextract, Nat.reduceLT, Nat.reduceEqDiff, ↓reduceIte, reduceCtorEq, Nat.reduceAdd, Int.reduceLT, Int.reduceNeg, valloc_std, noSB, vhot, hv.len T22, eql_optr PT]
      refine KD.ret d11 ?_
      simp only [k9_a, WK, vop, evAll, evOpt, evParts, vbuiltin, vun, vextract, Nat.reduceLT, Nat.reduceEqDiff, ↓reduceIte, reduceCtorEq, Nat.reduceAdd, Int.reduceLT, Int.reduceNeg, valloc_std, noSB, vhot, hv.len T22, T22, sl2]
      refine KD.ret d12 ?_
      simp only [k9_a, WK, vop, evAll, evOpt, evParts, vbuiltin, vun, vextract, Nat.reduceLT, Nat.reduceEqDiff, ↓reduceIte, reduceCtorEq, Nat.reduceAdd, Int.reduceLT, Int.reduceNeg, valloc_std, noSB, vhot, hv.len T22, i0, i1, i2, v0, v1, v2, w1', w2', decide_true, Nat.add_zero, Nat.reduceAdd]
      refine KD.ret d13 ?_
      simp only [k9_a, WK, vop, evAll, evOpt, evParts, vbuiltin, vun, vextract, Nat.reduceLT, Nat.reduceEqDiff, ↓reduceIte, reduceCtorEq, Nat.reduceAdd, Int.reduceLT, Int.reduceNeg, valloc_std, noSB, vhot, hnums.len IT]
      refine Ev.loopF (fun (i : Nat) e σ' => e 102 = .int .i64 (i : Nat) ∧ i ≤ xs.length ∧ σ' = s11) (fun i => xs.length - i) 0 ⟨by simp [upd_some], Nat.zero_le _, rfl⟩ ?_
      rintro i e σ' ⟨h102, hi, rfl⟩ hf
      have g0 : e 0 = v := (hf 0 (by decide)).trans (by simp [upd_some])
      have g1 : e 1 = w := (hf 1 (by decide)).trans (by simp [upd_some])
      have g5 : e 5 = mine := (hf 5 (by decide)).trans (by simp [upd_some])
      have g6 : e 6 = nums := (hf 6 (by decide)).trans (by simp [upd_some])
      have g7 : e 7 = one := (hf 7 (by decide)).trans (by simp [upd_some])
      have g8 : e 8 = two := (hf 8 (by decide)).trans (by simp [upd_some])
      have g10 : e 10 = .optr so 0 := (hf 10 (by decide)).trans (by simp [upd_some])
      have g11 : e 11 = first := (hf 11 (by decide)).trans (by simp [upd_some])
      have g101 : e 101 = .int .i64 (xs.length : Nat) := (hf 101 (by decide)).trans (by simp [upd_some])
      clear hf
      by_cases hlt : i < xs.length
      · have hlt' : (i : Int) < xs.length := by omega
        have hwi : IntKind.i64.wrap ((i : Int) + 1) = ((i + 1 : Nat) : Int) := by rw [show ((i : Int) + 1) = ((i + 1 : Nat) : Int) from by omega]; exact wrap_nat (by omega)
        simp only [k9_a, WK, vop, evAll, evOpt, evParts, vbuiltin, vun, vextract, Nat.reduceLT, Nat.reduceEqDiff, ↓reduceIte, reduceCtorEq, Nat.reduceAdd, Int.reduceLT, Int.reduceNeg, valloc_std, noSB, vhot, g1, g6, h102, g101, hlt', hnums.addr IT (Int.natCast_nonneg i) hlt', hw.addr IT (Int.natCast_nonneg i) hlt', IntsV.load IT hlt, Int.toNat_natCast, decide_true, Bool.not_true, hwi]
        exact ⟨i + 1, ⟨by simp [upd_some], by omega⟩, by omega⟩
      have hlt' : ¬ (i : Int) < xs.length := by omega
      obtain ⟨want, s12, a12, b12, k12, ob12⟩ := ownCopy T11.rb (by omega)
      have M12 := M11.keep k12
      have O12 := O11.keep k12
      have T12 := T11.keep k12
      have F12 := h11.keep k12
      have S12 := S11.keep' k12
      simp only [k9_a, WK, vop, evAll, evOpt, evParts, vbuiltin, vun, vextract, Nat.reduceLT, Nat.reduceEqDiff, ↓reduceIte, reduceCtorEq, Nat.reduceAdd, Int.reduceLT, Int.reduceNeg, valloc_std, noSB, vhot, g1, g5, g6, g8, h102, g101, hlt', build0 BT, a12, M12.rb.len]
      refine Ev.loopF (fun (i : Nat) e σ' => e 120 = .int .i64 (i : Nat) ∧ i ≤ mb.length ∧ ∃ cs, HB σ' mine rM cs ∧ cs.length = mb.length ∧ KeepX rM s12 σ') (fun i => mb.length - i) 0 ⟨by simp [upd_some], Nat.zero_le _, mb, M12, rfl, KeepX.refl _ _⟩ ?_
      rintro i2 e2 sa ⟨h120, hi2, cs, MA, hcl, ka⟩ hf
      have j0 : e2 0 = v := (hf 0 (by decide)).trans (by simp [upd_some, g0])
      have j5 : e2 5 = mine := (hf 5 (by decide)).trans (by simp [upd_some, g5])
      have j7 : e2 7 = one := (hf 7 (by decide)).trans (by simp [upd_some, g7])
      have j8 : e2 8 = two := (hf 8 (by decide)).trans (by simp [upd_some, g8])
      have j10 : e2 10 = .optr so 0 := (hf 10 (by decide)).trans (by simp [upd_some, g10])
      have j11 : e2 11 = first := (hf 11 (by decide)).trans (by simp [upd_some, g11])
      have j13 : e2 13 = want := (hf 13 (by decide)).trans (by simp [upd_some])
      have j119 : e2 119 = .int .i64 (mb.length : Nat) := (hf 119 (by decide)).trans (by simp [upd_some])
      clear hf
      by_cases hlt2 : i2 < mb.length
      · have hlt2' : (i2 : Int) < mb.length := by omega
        have hwi : IntKind.i64.wrap ((i2 : Int) + 1) = ((i2 + 1 : Nat) : Int) := by rw [show ((i2 : Int) + 1) = ((i2 + 1 : Nat) : Int) from by omega]; exact wrap_nat (by omega)
        obtain ⟨sb, hi1, hst, hM, hkx⟩ := MA.set (i := i2) (n := 99) (by omega) (by omega)
        simp only [k9_a, WK, vop, evAll, evOpt, evParts, vbuiltin, vun, vextract, Nat.reduceLT, Nat.reduceEqDiff, ↓reduceIte, reduceCtorEq, Nat.reduceAdd, Int.reduceLT, Int.reduceNeg, valloc_std, noSB, vhot, j5, h120, j119, hlt2', hi1, (show vstore Try.prog sa 5 (.optr rM i2) (.int .u8 99) = some sb from hst), hwi]
        exact ⟨i2 + 1, ⟨by simp [upd_some], by omega, _, hM, by rw [List.length_set]; exact hcl, ka.trans hkx⟩, by omega⟩
      have hlt2' : ¬ (i2 : Int) < mb.length := by omega
      have OA := O12.keepX ka (by omega)
      have TA := T12.keepX ka (by omega)
      have FA := F12.keepX ka (by omega)
      have SA := S12.keep ka (show so ≠ rM by omega)
      simp only [k9_a, WK, vop, evAll, evOpt, evParts, vbuiltin, vun, vextract, Nat.reduceLT, Nat.reduceEqDiff, ↓reduceIte, reduceCtorEq, Nat.reduceAdd, Int.reduceLT, Int.reduceNeg, valloc_std, noSB, vhot, j5, j7, h120, j119, hlt2', OA.rb.len]
      refine Ev.loopF (fun (i : Nat) e σ' => e 129 = .int .i64 (i : Nat) ∧ i ≤ out.length ∧ ∃ cs, HB σ' one r1 cs ∧ cs.length = out.length ∧ KeepX r1 sa σ') (fun i => out.length - i) 0 ⟨by simp [upd_some], Nat.zero_le _, out, OA, rfl, KeepX.refl _ _⟩ ?_
      rintro i3 e3 sc ⟨h129, hi3, cs3, OB, hcl3, kb⟩ hf
      have m0 : e3 0 = v := (hf 0 (by decide)).trans (by simp [upd_some, j0])
      have m7 : e3 7 = one := (hf 7 (by decide)).trans (by simp [upd_some, j7])
      have m8 : e3 8 = two := (hf 8 (by decide)).trans (by simp [upd_some, j8])
      have m10 : e3 10 = .optr so 0 := (hf 10 (by decide)).trans (by simp [upd_some, j10])
      have m11 : e3 11 = first := (hf 11 (by decide)).trans (by simp [upd_some, j11])
      have m13 : e3 13 = want := (hf 13 (by decide)).trans (by simp [upd_some, j13])
      have m128 : e3 128 = .int .i64 (out.length : Nat) := (hf 128 (by decide)).trans (by simp [upd_some])
      clear hf
      by_cases hlt3 : i3 < out.length
      · have hlt3' : (i3 : Int) < out.length := by omega
        have hwi : IntKind.i64.wrap ((i3 : Int) + 1) = ((i3 + 1 : Nat) : Int) := by rw [show ((i3 : Int) + 1) = ((i3 + 1 : Nat) : Int) from by omega]; exact wrap_nat (by omega)
        obtain ⟨sb, hi1, hst, hM, hkx⟩ := OB.set (i := i3) (n := 98) (by omega) (by omega)
        simp only [k9_a, WK, vop, evAll, evOpt, evParts, vbuiltin, vun, vextract, Nat.reduceLT, Nat.reduceEqDiff, ↓reduceIte, reduceCtorEq, Nat.reduceAdd, Int.reduceLT, Int.reduceNeg, valloc_std, noSB, vhot, m7, h129, m128, hlt3', hi1, (show vstore Try.prog sc 5 (.optr r1 i3) (.int .u8 98) = some sb from hst), hwi]
        exact ⟨i3 + 1, ⟨by simp [upd_some], by omega, _, hM, by rw [List.length_set]; exact hcl3, kb.trans hkx⟩, by omega⟩
      have hlt3' : ¬ (i3 : Int) < out.length := by omega
      have TB := TA.keepX kb (by omega)
      have FB := FA.keepX kb (by omega)
      have SB := SA.keep kb (show so ≠ r1 by omega)
      simp only [k9_a, WK, vop, evAll, evOpt, evParts, vbuiltin, vun, vextract, Nat.reduceLT, Nat.reduceEqDiff, ↓reduceIte, reduceCtorEq, Nat.reduceAdd, Int.reduceLT, Int.reduceNeg, valloc_std, noSB, vhot, m7, h129, m128, hlt3']
      refine Ev.loopF (fun (i : Nat) e σ' => e 17 = .int .i64 (i : Nat) ∧ i ≤ 40 ∧ ∃ rl cs, HB σ' (e 16) rl cs ∧ cs.length = out.length + i ∧ (rl = r1 ∨ sc.objs.length ≤ rl) ∧ KeepX r1 sc σ') (fun i => 40 - i) 0 ⟨by simp [upd_some], Nat.zero_le _, r1, cs3, by simpa [upd_some] using OB, hcl3, .inl rfl, KeepX.refl _ _⟩ ?_
      rintro i4 e4 sd ⟨h17, hi4, rl, cs4, LB, hcl4, hrl, kc⟩ hf
      have n0 : e4 0 = v := (hf 0 (by decide)).trans (by simp [upd_some, m0])
      have n7 : e4 7 = one := (hf 7 (by decide)).trans (by simp [upd_some, m7])
      have n8 : e4 8 = two := (hf 8 (by decide)).trans (by simp [upd_some, m8])
      have n10 : e4 10 = .optr so 0 := (hf 10 (by decide)).trans (by simp [upd_some, m10])
      have n11 : e4 11 = first := (hf 11 (by decide)).trans (by simp [upd_some, m11])
      have n13 : e4 13 = want := (hf 13 (by decide)).trans (by simp [upd_some, m13])
      clear hf
      by_cases hlt4 : i4 < 40
      · have hlt4' : (i4 : Int) < 40 := by omega
        have hwi : IntKind.i64.wrap ((i4 : Int) + 1) = ((i4 + 1 : Nat) : Int) := by rw [show ((i4 : Int) + 1) = ((i4 + 1 : Nat) : Int) from by omega]; exact wrap_nat (by omega)
        have ktriv : Keep ⟨[], []⟩ sd := ⟨fun r o ho => by simp at ho, by simp, fun k hk => by simp [tokLive] at hk⟩
        obtain ⟨b1, sx, v4, r4, sy, hb1, ha4, hL4, _, _, hkx, hr4⟩ := push1 LB (σ0 := ⟨[], []⟩) (by simp) ktriv (n := 97) (by omega) (by omega)
        simp only [k9_a, WK, vop, evAll, evOpt, evParts, vbuiltin, vun, vextract, Nat.reduceLT, Nat.reduceEqDiff, ↓reduceIte, reduceCtorEq, Nat.reduceAdd, Int.reduceLT, Int.reduceNeg, valloc_std, noSB, vhot, h17, hlt4', (show vbuildRow Try.prog sd 22 1 [(0, .int .u8 97)] = some (b1, sx) from hb1), ha4, hwi]
        have hkc : sc.objs.length ≤ sd.objs.length := by
          rcases Nat.lt_or_ge sd.objs.length sc.objs.length with h | h
          · exfalso
            by_cases hq : sc.objs.length - 1 = r1
            · have hlb := LB.lt
              rcases hrl with h9 | h9 <;> omega
            · have := kc.1 _ _ hq (List.getElem?_eq_getElem (by omega))
              have := (List.getElem?_eq_some_iff.1 this).1
              omega
          · exact h
        refine ⟨i4 + 1, ⟨by simp [upd_some], by omega, r4, _, hL4, by simp; omega, by rcases hr4 with h | h <;> omega, kc.over hkx (by omega)⟩, by omega⟩
      have hlt4' : ¬ (i4 : Int) < 40 := by omega
      have TC := TB.keepX kc (by omega)
      have FC := FB.keepX kc (by omega)
      have SC := SB.keep kc (show so ≠ r1 by omega)
      have d14 := samebytes_does TC.rb (.inl b12 : RB sd want out) (by omega)
      have d15 := samebytes_does FC.rb (.inl hv : RB sd v bs) (by omega)
      rw [decide_eq_true rfl] at d14 d15
      simp only [k9_a, WK, vop, evAll, evOpt, evParts, vbuiltin, vun, vextract, Nat.reduceLT, Nat.reduceEqDiff, ↓reduceIte, reduceCtorEq, Nat.reduceAdd, Int.reduceLT, Int.reduceNeg, valloc_std, noSB, vhot, h17, hlt4', n8, n13]
      refine KD.ret d14 ?_
      simp only [k9_a, WK, vop, evAll, evOpt, evParts, vbuiltin, vun, vextract, Nat.reduceLT, Nat.reduceEqDiff, ↓reduceIte, reduceCtorEq, Nat.reduceAdd, Int.reduceLT, Int.reduceNeg, valloc_std, noSB, vhot, n0, n11]
      refine KD.ret d15 ?_
      simp only [k9_a, WK, vop, evAll, evOpt, evParts, vbuiltin, vun, vextract, Nat.reduceLT, Nat.reduceEqDiff, ↓reduceIte, reduceCtorEq, Nat.reduceAdd, Int.reduceLT, Int.reduceNeg, valloc_std, noSB, vhot, n11, FC.rb.len]
      refine Ev.loopF (fun (i : Nat) e σ' => e 156 = .int .i64 (i : Nat) ∧ i ≤ bs.length ∧ ∃ cs, HB σ' first rf cs ∧ cs.length = bs.length ∧ KeepX rf sd σ') (fun i => bs.length - i) 0 ⟨by simp [upd_some], Nat.zero_le _, bs, FC, rfl, KeepX.refl _ _⟩ ?_
      rintro i5 e5 sf ⟨h156, hi5, cs5, FD, hcl5, kd⟩ hf
      have q0 : e5 0 = v := (hf 0 (by decide)).trans (by simp [upd_some, n0])
      have q7' : e5 7 = one := (hf 7 (by decide)).trans (by simp [upd_some, n7])
      have q10 : e5 10 = .optr so 0 := (hf 10 (by decide)).trans (by simp [upd_some, n10])
      have q11' : e5 11 = first := (hf 11 (by decide)).trans (by simp [upd_some, n11])
      have q16 : e5 16 = e4 16 := (hf 16 (by decide)).trans (by simp [upd_some])
      have q155 : e5 155 = .int .i64 (bs.length : Nat) := (hf 155 (by decide)).trans (by simp [upd_some])
      clear hf
      by_cases hlt5 : i5 < bs.length
      · have hlt5' : (i5 : Int) < bs.length := by omega
        have hwi : IntKind.i64.wrap ((i5 : Int) + 1) = ((i5 + 1 : Nat) : Int) := by rw [show ((i5 : Int) + 1) = ((i5 + 1 : Nat) : Int) from by omega]; exact wrap_nat (by omega)
        obtain ⟨sb, hi1, hst, hM, hkx⟩ := FD.set (i := i5) (n := 55) (by omega) (by omega)
        simp only [k9_a, WK, vop, evAll, evOpt, evParts, vbuiltin, vun, vextract, Nat.reduceLT, Nat.reduceEqDiff, ↓reduceIte, reduceCtorEq, Nat.reduceAdd, Int.reduceLT, Int.reduceNeg, valloc_std, noSB, vhot, q11', h156, q155, hlt5', hi1, (show vstore Try.prog sf 5 (.optr rf i5) (.int .u8 55) = some sb from hst), hwi]
        exact ⟨i5 + 1, ⟨by simp [upd_some], by omega, _, hM, by rw [List.length_set]; exact hcl5, kd.trans hkx⟩, by omega⟩
      have hlt5' : ¬ (i5 : Int) < bs.length := by omega
      have SD := SC.keep kd (show so ≠ rf by omega)
      obtain ⟨v9, q9', s20, d20, k20, R20, h20, _⟩ := bytes_all SD (by omega)
      have d21 := samebytes_does h20.rb (.inl hv : RB s20 v bs) (by omega)
      rw [decide_eq_true rfl] at d21
      have d22 := end_true R20
      have ll : ∀ σ : St, vlen Try.prog 22 (e4 16) = some (.int .i64 ((out.length + 40 : Nat) : Int)) := fun _ => by
        have := LB.rb.len
        rw [hcl4] at this
        rw [this]
        congr 3
        omega
      have lo : vlen Try.prog 22 one = some (.int .i64 (out.length : Nat)) := O11.rb.len
      have w40 : IntKind.i64.wrap ((out.length : Int) + 40) = ((out.length + 40 : Nat) : Int) := by rw [wrap_i64 (by omega) (by omega)]; omega
      simp only [k9_a, WK, vop, evAll, evOpt, evParts, vbuiltin, vun, vextract, Nat.reduceLT, Nat.reduceEqDiff, ↓reduceIte, reduceCtorEq, Nat.reduceAdd, Int.reduceLT, Int.reduceNeg, valloc_std, noSB, vhot, q0, q7', q10, q11', q16, h156, q155, hlt5', ll sf, lo, w40, hv.len T22, decide_true]
      refine KD.ret d20 ?_
      simp only [k9_a, WK, vop, evAll, evOpt, evParts, vbuiltin, vun, vextract, Nat.reduceLT, Nat.reduceEqDiff, ↓reduceIte, reduceCtorEq, Nat.reduceAdd, Int.reduceLT, Int.reduceNeg, valloc_std, noSB, vhot, q0, q10]
      refine KD.ret d21 ?_
      simp only [k9_a, WK, vop, evAll, evOpt, evParts, vbuiltin, vun, vextract, Nat.reduceLT, Nat.reduceEqDiff, ↓reduceIte, reduceCtorEq, Nat.reduceAdd, Int.reduceLT, Int.reduceNeg, valloc_std, noSB, vhot, q10]
      refine KD.ret d22 ?_
      simp only [k9_a, WK, vop, evAll, evOpt, evParts, vbuiltin, vun, vextract, Nat.reduceLT, Nat.reduceEqDiff, ↓reduceIte, reduceCtorEq, Nat.reduceAdd, Int.reduceLT, Int.reduceNeg, valloc_std, noSB, vhot]
    obtain ⟨r, σ', ⟨n, h⟩, rfl⟩ := key
    exact ⟨n, σ', h⟩
end Go.Proofs.Ytmcadfejkcpblaa.Q
