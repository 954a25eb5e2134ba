/- A part of the proof: Ct, Cu, Cv, Tw, La, Lb, Cw, Lc. -/
import Derived.Test.YtplhelapcpcncaaMc7
import Derived.Test.YtplhelapcpcncaaMc5
import Derived.Test.YtplhelapcpcncaaMc4
set_option linter.unusedVariables false
set_option linter.unusedSimpArgs false
set_option maxRecDepth 100000
namespace Go.Proofs.Ytplhelapcpcncaa.Q
open Go Go.RowKit Go.Proofs
theorem Rdr.objs {σ σ' : St} {r : Nat} {bs : List UInt8} {bad : Bool} (h : Rdr σ r bs bad) (ho : σ'.objs = σ.objs) : Rdr σ' r bs bad := let ⟨v, h1, h2⟩ := h; ⟨v, by rw [ho]; exact h1, h2⟩
theorem IsV.objs {σ σ' : St} {o : Nat} {c : List V} (h : IsV σ o c) (ho : σ'.objs = σ.objs) : IsV σ' o c := by unfold IsV; rw [ho]; exact h
theorem dec_l0 {σ s4 : St} {s : RS} {n r o4 o7 : Nat} (hl : s.1.length ≤ 400000000) (hn : n < 9223372036854775808) (hr : σ.objs.length ≤ r) (ho4 : σ.objs.length ≤ o4) (ho7 : σ.objs.length ≤ o7) (h1 : o4 ≠ r) (h2 : o7 ≠ r) (h3 : o4 ≠ o7)
    (r4 : Rdr s4 r s.1 s.2) (m4 : IsV s4 o7 [.nils, .nils]) (a4 : IsV s4 o4 [.nils, .nils]) (kσ4 : Keep σ s4)
    {e : Nat → V} (f6 : e 6 = .optr r 0) (f7 : e 7 = .optr o7 0) (f8 : e 8 = .int .i64 (n : Nat)) (f10 : e 10 = .int .i64 0) :
    Ev Try.prog prims 110 (.loop k17_l0) e s4 (fun x e' σ' => x = .exit 0 ∧ Rdr σ' r (rdA rdConst n s).2.1 (rdA rdConst n s).2.2 ∧ (∃ w, IsV σ' o7 [w, .nils] ∧ ValsW (rdA rdConst n s).1 w) ∧ IsV σ' o4 [.nils, .nils] ∧ Keep σ σ') := by
  have hE := rdConst_eats
  refine Ev.loopF (fun (i : Nat) e σ' => e 10 = .int .i64 (i : Nat) ∧ i ≤ n ∧ Rdr σ' r (rdA rdConst i s).2.1 (rdA rdConst i s).2.2 ∧ (∃ w cs, IsV σ' o7 [w, .nils] ∧ OwnR 29 4 σ.toks.length σ' w cs (rdA rdConst i s).1.length ∧ ValsC (rdA rdConst i s).1 cs) ∧ IsV σ' o4 [.nils, .nils] ∧ Keep σ σ') (fun i => n - i) 0
    ⟨by simpa using f10, Nat.zero_le _, r4, ⟨.nils, [], m4, OwnR.nil, .nil⟩, a4, kσ4⟩ ?_
  rintro i e σ' ⟨h10, hi, hR, ⟨w, cs, hM, hO, hC⟩, hA, hk⟩ hfr
  have g6 : e 6 = .optr r 0 := (hfr 6 (by decide)).trans f6
  have g7 : e 7 = .optr o7 0 := (hfr 7 (by decide)).trans f7
  have g8 : e 8 = .int .i64 (n : Nat) := (hfr 8 (by decide)).trans f8
  clear hfr
  have hSl := (rdA_eats hE s i).1
  have hSc := rdA_count hE s i
  by_cases hlt : i < n
  · have hlt' : (i : Int) < (n : Nat) := by omega
    have hwi : IntKind.i64.wrap ((i : Int) + 1) = ((i + 1 : Nat) : Int) := by rw [show ((i : Int) + 1) = ((i + 1 : Nat) : Int) from by omega]; exact wrap_nat (by omega)
    have hbd := bad_does hR
    cases hbad : (rdA rdConst i s).2.2 with
    | true =>
      have hP := rdA_stay hbad n hi
      rw [hbad] at hbd
      simp only [k17_a, WK, vop, evAll, evOpt, evParts, vbuiltin, vun, vextract, Nat.reduceLT, Nat.reduceEqDiff, ↓reduceIte, reduceCtorEq, Nat.reduceAdd, Int.reduceLT, Int.reduceNeg, valloc_std, noSB, vhot, h10, g8, g6, hlt']
      refine KD.ret hbd ?_
      simp only [k17_a, WK, vop, evAll, evOpt, evParts, vbuiltin, vun, vextract, Nat.reduceLT, Nat.reduceEqDiff, ↓reduceIte, reduceCtorEq, Nat.reduceAdd, Int.reduceLT, Int.reduceNeg, valloc_std, noSB, vhot]
      rw [hP]
      exact ⟨hR, ⟨w, hM, hO.vals' hC⟩, hA, hk⟩
    | false =>
    rw [hbad] at hbd
    have hstep := rdA_step hbad
    generalize rdA rdConst i s = S at *
    obtain ⟨cv, s5, d5, k5, r5, v5⟩ := constant_does hR (by omega)
    have m5 := hM.x k5 h2
    have a5 := hA.x k5 h1
    have kσ5 : Keep σ s5 := hk.overX2 k5 hr
    have O5 : OwnR 29 4 σ.toks.length s5 w cs S.1.length := hO.keep k5.2.2
    obtain ⟨w', s6, ap6, O6, k6, ob6⟩ := O5.append CVRT rfl kσ5 (t2 := 22) (y := .slice .exact 4 cv 1) (ys := cv) (l := 1) (by simp [vnews, VT22]) v5.len v5.one (by omega) (by omega)
    have m6 := m5.objs ob6
    have a6 := a5.objs ob6
    have r6 := r5.objs ob6
    obtain ⟨s7, st7, m7, k7, l7⟩ := cell_set m6 (j := 0) (by simp) (t := 22) VsS (v := w') O6.one'
    have ldw : vload Try.prog σ'.objs 22 (.optr o7 0) = some w := by rw [vload_obj hM VsG]; rfl
    have ldw5 : vload Try.prog s5.objs 22 (.optr o7 0) = some w := by rw [vload_obj m5 VsG]; rfl
    simp only [k17_a, WK, vop, evAll, evOpt, evParts, vbuiltin, vun, vextract, Nat.reduceLT, Nat.reduceEqDiff, ↓reduceIte, reduceCtorEq, Nat.reduceAdd, Int.reduceLT, Int.reduceNeg, valloc_std, noSB, vhot, h10, g8, g6, hlt']
    refine KD.ret hbd ?_
    simp only [k17_a, WK, vop, evAll, evOpt, evParts, vbuiltin, vun, vextract, Nat.reduceLT, Nat.reduceEqDiff, ↓reduceIte, reduceCtorEq, Nat.reduceAdd, Int.reduceLT, Int.reduceNeg, valloc_std, noSB, vhot, h10, g6, g7, MF0, ldw]
    refine KD.ret d5 ?_
    simp only [k17_a, WK, vop, evAll, evOpt, evParts, vbuiltin, vun, vextract, Nat.reduceLT, Nat.reduceEqDiff, ↓reduceIte, reduceCtorEq, Nat.reduceAdd, Int.reduceLT, Int.reduceNeg, valloc_std, noSB, vhot, h10, g6, g7, MF0, ldw, ldw5, cbuild1V v5.len, ap6, ob6, st7, hwi]
    refine ⟨i + 1, ⟨by simp [upd_some], by omega, ?_, ⟨w', cs ++ cv, m7, ?_, ?_⟩, a6.x k7 h3, k6.overX2 k7 ho7⟩, by omega⟩
    · rw [hstep]; exact r6.keep k7 (Ne.symm h2)
    · rw [hstep]
      simp only [List.length_append, List.length_cons, List.length_nil]
      exact O6.keep k7.2.2
    · rw [hstep]; exact hC.snoc' v5
  · have hlt' : ¬ (i : Int) < (n : Nat) := by omega
    have : i = n := by omega
    subst this
    simp only [k17_a, WK, vop, evAll, evOpt, evParts, vbuiltin, vun, vextract, Nat.reduceLT, Nat.reduceEqDiff, ↓reduceIte, reduceCtorEq, Nat.reduceAdd, Int.reduceLT, Int.reduceNeg, valloc_std, noSB, vhot, h10, g8, hlt']
    exact ⟨hR, ⟨w, hM, hO.vals' hC⟩, hA, hk⟩
/-- The instructions of a function. -/
theorem dec_l2 {σ s4 : St} {s : RS} {n r o4 o7 oF : Nat} {a b c d : V} {cm : List V} {w2 : V} {cs2 : List V} {n2 : Nat} (hl : s.1.length ≤ 400000000) (hn : n < 9223372036854775808) (hr : σ.objs.length ≤ r) (hoF : σ.objs.length ≤ oF) (h1 : o4 ≠ r) (h2 : o7 ≠ r) (h3 : oF ≠ r) (h4 : o4 ≠ oF) (h5 : o7 ≠ oF)
    (r4 : Rdr s4 r s.1 s.2) (m4 : IsV s4 o7 cm) (a4 : IsV s4 o4 [.nils, .nils]) (f4 : IsV s4 oF [a, b, c, d, .nils]) (ho : OwnR 37 5 σ.toks.length s4 w2 cs2 n2) (kσ4 : Keep σ s4)
    {e : Nat → V} (f6 : e 6 = .optr r 0) (f12 : e 12 = .optr oF 0) (f14 : e 14 = .int .i64 (n : Nat)) (f13 : e 13 = .int .i64 0) :
    Ev Try.prog prims 110 (.loop k17_l2) e s4 (fun x e' σ' => x = .exit 4 ∧ Rdr σ' r (rdA rdIns n s).2.1 (rdA rdIns n s).2.2 ∧ (∃ w, IsV σ' oF [a, b, c, d, w] ∧ one w = true ∧ ∀ τ, CodeS τ w (rdA rdIns n s).1) ∧ IsV σ' o7 cm ∧ IsV σ' o4 [.nils, .nils] ∧ OwnR 37 5 σ.toks.length σ' w2 cs2 n2 ∧ Keep σ σ') := by
  have hE := rdIns_eats
  have hml : maxLen = 9223372036854775807 := by simp [maxLen, IntKind.max, IntKind.bits]
  obtain ⟨β, hβ⟩ : ∃ β : St, β = ⟨σ.objs, s4.toks⟩ := ⟨_, rfl⟩
  have kβ4 : Keep β s4 := by rw [hβ]; exact ⟨kσ4.1, Nat.le_refl _, fun _ h => h⟩
  have kσβ : Keep σ β := by rw [hβ]; exact ⟨fun _ _ h => h, kσ4.2⟩
  have hlβ : β.objs.length = σ.objs.length := by rw [hβ]
  have htβ : β.toks = s4.toks := by rw [hβ]
  refine Ev.loopF (fun (i : Nat) e σ' => e 13 = .int .i64 (i : Nat) ∧ i ≤ n ∧ Rdr σ' r (rdA rdIns i s).2.1 (rdA rdIns i s).2.2 ∧ (∃ w, IsV σ' oF [a, b, c, d, w] ∧ OwnR 39 2 β.toks.length σ' w ((rdA rdIns i s).1.flatMap insC) (rdA rdIns i s).1.length) ∧ IsV σ' o7 cm ∧ IsV σ' o4 [.nils, .nils] ∧ Keep β σ') (fun i => n - i) 0
    ⟨by simpa using f13, Nat.zero_le _, r4, ⟨.nils, f4, OwnR.nil⟩, m4, a4, kβ4⟩ ?_
  rintro i e σ' ⟨h13, hi, hR, ⟨w, hF, hO⟩, hM, hA, hk⟩ hfr
  have g6 : e 6 = .optr r 0 := (hfr 6 (by decide)).trans f6
  have g12 : e 12 = .optr oF 0 := (hfr 12 (by decide)).trans f12
  have g14 : e 14 = .int .i64 (n : Nat) := (hfr 14 (by decide)).trans f14
  clear hfr
  have hSl := (rdA_eats hE s i).1
  have hSc := rdA_count hE s i
  have done : ∀ τ, CodeS τ w (rdA rdIns i s).1 := fun τ => .inl hO.row
  have ho' : OwnR 37 5 σ.toks.length σ' w2 cs2 n2 := ho.keep (by rw [← htβ]; exact hk.2.2)
  by_cases hlt : i < n
  · have hlt' : (i : Int) < (n : Nat) := by omega
    have hwi : IntKind.i64.wrap ((i : Int) + 1) = ((i + 1 : Nat) : Int) := by rw [show ((i : Int) + 1) = ((i + 1 : Nat) : Int) from by omega]; exact wrap_nat (by omega)
    have hbd := bad_does hR
    cases hbad : (rdA rdIns i s).2.2 with
    | true =>
      have hP := rdA_stay hbad n hi
      rw [hbad] at hbd
      simp only [k17_a, WK, vop, evAll, evOpt, evParts, vbuiltin, vun, vextract, Nat.reduceLT, Nat.reduceEqDiff, ↓reduceIte, reduceCtorEq, Nat.reduceAdd, Int.reduceLT, Int.reduceNeg, valloc_std, noSB, vhot, h13, g14, g6, hlt']
      refine KD.ret hbd ?_
      simp only [k17_a, WK, vop, evAll, evOpt, evParts, vbuiltin, vun, vextract, Nat.reduceLT, Nat.reduceEqDiff, ↓reduceIte, reduceCtorEq, Nat.reduceAdd, Int.reduceLT, Int.reduceNeg, valloc_std, noSB, vhot]
      rw [hP]
      exact ⟨hR, ⟨w, hF, hO.one', done⟩, hM, hA, ho', kσβ.trans hk⟩
    | false =>
    rw [hbad] at hbd
    have hstep := rdA_step hbad
    generalize rdA rdIns i s = S at *
    obtain ⟨s5, d5, k5, r5⟩ := number_does hR (by omega)
    obtain ⟨p, hp⟩ : ∃ p, p = numS S.2.1 S.2.2 := ⟨_, rfl⟩
    have hpl := numS_len S.2.1 S.2.2
    rw [← hp] at d5 r5 hpl
    obtain ⟨s6, d6, k6, r6⟩ := number_does r5 (by omega)
    obtain ⟨q, hq⟩ : ∃ q, q = numS p.2.1 p.2.2 := ⟨_, rfl⟩
    rw [← hq] at d6 r6
    have hins : rdIns S.2 = (⟨(p.1 : Nat), (q.1 : Nat)⟩, q.2) := by unfold rdIns; simp only [← hp, ← hq]
    have f6' := (hF.x k5 h3).x k6 h3
    have m6 := (hM.x k5 h2).x k6 h2
    have a6 := (hA.x k5 h1).x k6 h1
    have kβ6 : Keep β s6 := (hk.overX2 k5 (by omega)).overX2 k6 (by omega)
    have O6 : OwnR 39 2 β.toks.length s6 w (S.1.flatMap insC) S.1.length := (hO.keep k5.2.2).keep k6.2.2
    obtain ⟨w', s7, ap7, O7, k7, ob7⟩ := O6.append NRT rfl kβ6 (t2 := 35) (y := .slice .exact 2 [.int .i64 (p.1 : Nat), .int .i64 (q.1 : Nat)] 1) (ys := [.int .i64 (p.1 : Nat), .int .i64 (q.1 : Nat)]) (l := 1) (by simp [vnews, NT]) rfl rfl (by omega) (by omega)
    have f7' := f6'.objs ob7
    obtain ⟨s8, st8, F8, k8, l8⟩ := cell_set f7' (j := 4) (by simp) (t := 35) NsS (v := w') O7.one'
    have ldw : vload Try.prog σ'.objs 35 (.optr oF 4) = some w := by rw [vload_obj hF NsG]; rfl
    have ldw5 : vload Try.prog s5.objs 35 (.optr oF 4) = some w := by rw [vload_obj (hF.x k5 h3) NsG]; rfl
    have ldw6 : vload Try.prog s6.objs 35 (.optr oF 4) = some w := by rw [vload_obj f6' NsG]; rfl
    simp only [k17_a, WK, vop, evAll, evOpt, evParts, vbuiltin, vun, vextract, Nat.reduceLT, Nat.reduceEqDiff, ↓reduceIte, reduceCtorEq, Nat.reduceAdd, Int.reduceLT, Int.reduceNeg, valloc_std, noSB, vhot, h13, g14, g6, hlt']
    refine KD.ret hbd ?_
    simp only [k17_a, WK, vop, evAll, evOpt, evParts, vbuiltin, vun, vextract, Nat.reduceLT, Nat.reduceEqDiff, ↓reduceIte, reduceCtorEq, Nat.reduceAdd, Int.reduceLT, Int.reduceNeg, valloc_std, noSB, vhot, h13, g6, g12, FF4', ldw]
    refine KD.ret d5 ?_
    simp only [k17_a, WK, vop, evAll, evOpt, evParts, vbuiltin, vun, vextract, Nat.reduceLT, Nat.reduceEqDiff, ↓reduceIte, reduceCtorEq, Nat.reduceAdd, Int.reduceLT, Int.reduceNeg, valloc_std, noSB, vhot, h13, g6, g12, FF4', ldw]
    refine KD.ret d6 ?_
    simp only [k17_a, WK, vop, evAll, evOpt, evParts, vbuiltin, vun, vextract, Nat.reduceLT, Nat.reduceEqDiff, ↓reduceIte, reduceCtorEq, Nat.reduceAdd, Int.reduceLT, Int.reduceNeg, valloc_std, noSB, vhot, h13, g6, g12, FF4', ldw, ldw5, ldw6, buildN2, build1N, ap7, ob7, st8, hwi]
    refine ⟨i + 1, ⟨by simp [upd_some], by omega, ?_, ⟨w', F8, ?_⟩, (m6.objs ob7).x k8 h5, (a6.objs ob7).x k8 h4, k7.overX2 k8 (by omega)⟩, by omega⟩
    · rw [hstep, hins]; exact (r6.objs ob7).keep k8 (Ne.symm h3)
    · rw [hstep, hins]
      simp only [List.length_append, List.length_cons, List.length_nil, List.flatMap_append, List.flatMap_cons, List.flatMap_nil, List.append_nil, insC]
      exact O7.keep k8.2.2
  · have hlt' : ¬ (i : Int) < (n : Nat) := by omega
    have : i = n := by omega
    subst this
    simp only [k17_a, WK, vop, evAll, evOpt, evParts, vbuiltin, vun, vextract, Nat.reduceLT, Nat.reduceEqDiff, ↓reduceIte, reduceCtorEq, Nat.reduceAdd, Int.reduceLT, Int.reduceNeg, valloc_std, noSB, vhot, h13, g14, hlt']
    exact ⟨hR, ⟨w, hF, hO.one', done⟩, hM, hA, ho', kσβ.trans hk⟩
/-- The functions. -/
theorem dec_l1 {σ s4 : St} {s : RS} {n r o4 o7 : Nat} {w : V} (hl : s.1.length ≤ 400000000) (hn : n < 9223372036854775808) (hr : σ.objs.length ≤ r) (ho4 : σ.objs.length ≤ o4) (ho7 : σ.objs.length ≤ o7) (h1 : o4 ≠ r) (h2 : o7 ≠ r) (h3 : o4 ≠ o7)
    (r4 : Rdr s4 r s.1 s.2) (m4 : IsV s4 o7 [w, .nils]) (a4 : IsV s4 o4 [.nils, .nils]) (kσ4 : Keep σ s4)
    {e : Nat → V} (f6 : e 6 = .optr r 0) (f7 : e 7 = .optr o7 0) (f9 : e 9 = .int .i64 (n : Nat)) (f11 : e 11 = .int .i64 0) :
    Ev Try.prog prims 110 (.loop k17_l1) e s4 (fun x e' σ' => x = .exit 2 ∧ Rdr σ' r (rdA rdFun n s).2.1 (rdA rdFun n s).2.2 ∧ (∃ w2, IsV σ' o7 [w, w2] ∧ ∀ τ, FunsS τ w2 (rdA rdFun n s).1) ∧ IsV σ' o4 [.nils, .nils] ∧ Keep σ σ') := by
  have hE := rdFun_eats
  have hml : maxLen = 9223372036854775807 := by simp [maxLen, IntKind.max, IntKind.bits]
  refine Ev.loopF (fun (i : Nat) e σ' => e 11 = .int .i64 (i : Nat) ∧ i ≤ n ∧ Rdr σ' r (rdA rdFun i s).2.1 (rdA rdFun i s).2.2 ∧ (∃ w2 cs, IsV σ' o7 [w, w2] ∧ OwnR 37 5 σ.toks.length σ' w2 cs (rdA rdFun i s).1.length ∧ FunsC (rdA rdFun i s).1 cs) ∧ IsV σ' o4 [.nils, .nils] ∧ Keep σ σ') (fun i => n - i) 0
    ⟨by simpa using f11, Nat.zero_le _, r4, ⟨.nils, [], m4, OwnR.nil, rfl, fun i hi => by simp [rdA] at hi⟩, a4, kσ4⟩ ?_
  rintro i e σ' ⟨h11, hi, hR, ⟨w2, cs, hM, hO, hC⟩, hA, hk⟩ hfr
  have g6 : e 6 = .optr r 0 := (hfr 6 (by decide)).trans f6
  have g7 : e 7 = .optr o7 0 := (hfr 7 (by decide)).trans f7
  have g9 : e 9 = .int .i64 (n : Nat) := (hfr 9 (by decide)).trans f9
  clear hfr
  have hSl := (rdA_eats hE s i).1
  have hSc := rdA_count hE s i
  by_cases hlt : i < n
  · have hlt' : (i : Int) < (n : Nat) := by omega
    have hwi : IntKind.i64.wrap ((i : Int) + 1) = ((i + 1 : Nat) : Int) := by rw [show ((i : Int) + 1) = ((i + 1 : Nat) : Int) from by omega]; exact wrap_nat (by omega)
    have hbd := bad_does hR
    cases hbad : (rdA rdFun i s).2.2 with
    | true =>
      have hP := rdA_stay hbad n hi
      rw [hbad] at hbd
      simp only [k17_a, WK, vop, evAll, evOpt, evParts, vbuiltin, vun, vextract, Nat.reduceLT, Nat.reduceEqDiff, ↓reduceIte, reduceCtorEq, Nat.reduceAdd, Int.reduceLT, Int.reduceNeg, valloc_std, noSB, vhot, h11, g9, g6, hlt']
      refine KD.ret hbd ?_
      simp only [k17_a, WK, vop, evAll, evOpt, evParts, vbuiltin, vun, vextract, Nat.reduceLT, Nat.reduceEqDiff, ↓reduceIte, reduceCtorEq, Nat.reduceAdd, Int.reduceLT, Int.reduceNeg, valloc_std, noSB, vhot]
      rw [hP]
      exact ⟨hR, ⟨w2, hM, fun τ => hC.row hO τ⟩, hA, hk⟩
    | false =>
    rw [hbad] at hbd
    have hstep := rdA_step hbad
    generalize rdA rdFun i s = S at *
    obtain ⟨t1, d1, k1, q1⟩ := number_does hR (by omega)
    obtain ⟨a, ha⟩ : ∃ a, a = numS S.2.1 S.2.2 := ⟨_, rfl⟩
    have la := numS_len S.2.1 S.2.2
    rw [← ha] at d1 q1 la
    obtain ⟨t2, d2, k2, q2⟩ := number_does q1 (by omega)
    obtain ⟨b, hb⟩ : ∃ b, b = numS a.2.1 a.2.2 := ⟨_, rfl⟩
    have lb := numS_len a.2.1 a.2.2
    rw [← hb] at d2 q2 lb
    obtain ⟨t3, d3, k3, q3⟩ := number_does q2 (by omega)
    obtain ⟨c, hc⟩ : ∃ c, c = numS b.2.1 b.2.2 := ⟨_, rfl⟩
    have lc := numS_len b.2.1 b.2.2
    rw [← hc] at d3 q3 lc
    obtain ⟨t4, d4, k4, q4⟩ := number_does q3 (by omega)
    obtain ⟨d, hd⟩ : ∃ d, d = numS c.2.1 c.2.2 := ⟨_, rfl⟩
    have ld := numS_len c.2.1 c.2.2
    rw [← hd] at d4 q4 ld
    have kx4 : KeepX r σ' t4 := ((k1.trans k2).trans k3).trans k4
    have kσt4 : Keep σ t4 := hk.overX2 kx4 hr
    obtain ⟨t5, ht5, F5, k5, l5⟩ := cell_new t4 [.int .i64 0, .int .i64 0, .int .i64 0, .int .i64 0, .nils]
    obtain ⟨t6, st6, F6, k6, l6⟩ := cell_all F5 (t := 37) (c' := [.int .i64 (a.1 : Nat), .int .i64 (b.1 : Nat), .int .i64 (c.1 : Nat), .int .i64 (d.1 : Nat), .nils]) FS rfl rfl
    have hrt := q4.lt
    have hlo := kx4.len' hrt
    have m4' := hM.x kx4 h2
    have a4' := hA.x kx4 h1
    have hm4 := m4'.lt
    have ha4 := a4'.lt
    have q6 := (q4.keep' k5).keep k6 (by omega)
    have m6 := (k5.atV m4').x k6 (by omega)
    have a6 := (k5.atV a4').x k6 (by omega)
    have hσl : σ.objs.length ≤ t4.objs.length := by
      apply Nat.le_of_not_lt
      intro hlt'
      have h1 := kσt4.1 t4.objs.length _ (List.getElem?_eq_getElem hlt')
      have := (List.getElem?_eq_some_iff.1 h1).1
      omega
    have kσt6 : Keep σ t6 := (kσt4.trans k5).overX2 k6 hσl
    have O6 : OwnR 37 5 σ.toks.length t6 w2 cs S.1.length := ((hO.keep kx4.2.2).keep k5.2.2).keep k6.2.2
    obtain ⟨t7, d7, k7, q7⟩ := number_does q6 (by omega)
    obtain ⟨z, hz⟩ : ∃ z, z = numS d.2.1 d.2.2 := ⟨_, rfl⟩
    have lz := numS_len d.2.1 d.2.2
    have iz := numS_in d.2.1 d.2.2
    rw [← hz] at d7 q7 lz iz
    have F7 := F6.x k7 (by omega)
    have m7 := m6.x k7 h2
    have a7 := a6.x k7 h1
    have kσt7 : Keep σ t7 := kσt6.overX2 k7 hr
    have O7 : OwnR 37 5 σ.toks.length t7 w2 cs S.1.length := O6.keep k7.2.2
    have hfun : rdFun S.2 = (⟨(a.1 : Nat), (b.1 : Nat), (c.1 : Nat), (d.1 : Nat), (rdA rdIns z.1 z.2).1⟩, (rdA rdIns z.1 z.2).2) := by unfold rdFun; simp only [← ha, ← hb, ← hc, ← hd, ← hz]
    simp only [k17_a, WK, vop, evAll, evOpt, evParts, vbuiltin, vun, vextract, Nat.reduceLT, Nat.reduceEqDiff, ↓reduceIte, reduceCtorEq, Nat.reduceAdd, Int.reduceLT, Int.reduceNeg, valloc_std, noSB, vhot, h11, g9, g6, hlt']
    refine KD.ret hbd ?_
    simp only [k17_a, WK, vop, evAll, evOpt, evParts, vbuiltin, vun, vextract, Nat.reduceLT, Nat.reduceEqDiff, ↓reduceIte, reduceCtorEq, Nat.reduceAdd, Int.reduceLT, Int.reduceNeg, valloc_std, noSB, vhot, g6]
    refine KD.ret d1 ?_
    simp only [k17_a, WK, vop, evAll, evOpt, evParts, vbuiltin, vun, vextract, Nat.reduceLT, Nat.reduceEqDiff, ↓reduceIte, reduceCtorEq, Nat.reduceAdd, Int.reduceLT, Int.reduceNeg, valloc_std, noSB, vhot, g6]
    refine KD.ret d2 ?_
    simp only [k17_a, WK, vop, evAll, evOpt, evParts, vbuiltin, vun, vextract, Nat.reduceLT, Nat.reduceEqDiff, ↓reduceIte, reduceCtorEq, Nat.reduceAdd, Int.reduceLT, Int.reduceNeg, valloc_std, noSB, vhot, g6]
    refine KD.ret d3 ?_
    simp only [k17_a, WK, vop, evAll, evOpt, evParts, vbuiltin, vun, vextract, Nat.reduceLT, Nat.reduceEqDiff, ↓reduceIte, reduceCtorEq, Nat.reduceAdd, Int.reduceLT, Int.reduceNeg, valloc_std, noSB, vhot, g6]
    refine KD.ret d4 ?_
    simp only [k17_a, WK, vop, evAll, evOpt, evParts, vbuiltin, vun, vextract, Nat.reduceLT, Nat.reduceEqDiff, ↓reduceIte, reduceCtorEq, Nat.reduceAdd, Int.reduceLT, Int.reduceNeg, valloc_std, noSB, vhot, g6, buildF4, FZ, vbox, vcells, ← ht5, st6]
    refine KD.ret d7 ?_
    simp only [k17_a, WK, vop, evAll, evOpt, evParts, vbuiltin, vun, vextract, Nat.reduceLT, Nat.reduceEqDiff, ↓reduceIte, reduceCtorEq, Nat.reduceAdd, Int.reduceLT, Int.reduceNeg, valloc_std, noSB, vhot]
    refine Ev.cut (dec_l2 (s := z.2) (n := z.1) (by omega) (by omega) hr hσl h1 h2 (by omega) (by omega) (by omega) q7 m7 a7 F7 O7 kσt7 (by simp [upd_some, g6]) (by simp [upd_some]) (by simp [upd_some]) (by simp [upd_some])) ?_
    rintro x e' t8 ⟨rfl, q8, ⟨wc, F8, hwc1, hwc⟩, m8, a8, O8, k8⟩ hfr
    have j7 : e' 7 = .optr o7 0 := (hfr 7 (by decide)).trans (by simp [upd_some, g7])
    have j11 : e' 11 = .int .i64 (i : Nat) := (hfr 11 (by decide)).trans (by simp [upd_some, h11])
    have j12 : e' 12 = .optr t4.objs.length 0 := (hfr 12 (by decide)).trans (by simp [upd_some])
    clear hfr
    have hFS : ∀ τ, FunS τ ⟨(a.1 : Nat), (b.1 : Nat), (c.1 : Nat), (d.1 : Nat), (rdA rdIns z.1 z.2).1⟩ [.int .i64 (a.1 : Nat), .int .i64 (b.1 : Nat), .int .i64 (c.1 : Nat), .int .i64 (d.1 : Nat), wc] := fun τ => ⟨wc, rfl, hwc τ⟩
    obtain ⟨w2', t9, ap9, O9, k9, ob9⟩ := O8.append FRT rfl k8 (t2 := 23) (y := .slice .exact 5 [.int .i64 (a.1 : Nat), .int .i64 (b.1 : Nat), .int .i64 (c.1 : Nat), .int .i64 (d.1 : Nat), wc] 1) (ys := [.int .i64 (a.1 : Nat), .int .i64 (b.1 : Nat), .int .i64 (c.1 : Nat), .int .i64 (d.1 : Nat), wc]) (l := 1) (by simp [vnews, FT]) rfl (by simp only [List.all_cons, List.all_nil, hwc1]; rfl) (by omega) (by omega)
    have m9 := m8.objs ob9
    obtain ⟨t10, st10, m10, k10, l10⟩ := cell_set m9 (j := 1) (by simp) (t := 23) FsS (v := w2') O9.one'
    have ldw : vload Try.prog t8.objs 23 (.optr o7 1) = some w2 := by rw [vload_obj m8 FsG]; rfl
    have ldF : vload Try.prog t8.objs 37 (.optr t4.objs.length 0) = some (.agg [.int .i64 (a.1 : Nat), .int .i64 (b.1 : Nat), .int .i64 (c.1 : Nat), .int .i64 (d.1 : Nat), wc]) := vload_agg F8 FG FS
    simp only [k17_a, WK, vop, evAll, evOpt, evParts, vbuiltin, vun, vextract, Nat.reduceLT, Nat.reduceEqDiff, ↓reduceIte, reduceCtorEq, Nat.reduceAdd, Int.reduceLT, Int.reduceNeg, valloc_std, noSB, vhot, j7, j11, j12, MF1, ldw, ldF, build1F, ap9, ob9, st10, hwi]
    refine ⟨i + 1, ⟨by simp [upd_some], by omega, ?_, ⟨w2', cs ++ [.int .i64 (a.1 : Nat), .int .i64 (b.1 : Nat), .int .i64 (c.1 : Nat), .int .i64 (d.1 : Nat), wc], m10, ?_, ?_⟩, (a8.objs ob9).x k10 h3, k9.overX2 k10 ho7⟩, by omega⟩
    · rw [hstep, hfun]; exact (q8.objs ob9).keep k10 (Ne.symm h2)
    · rw [hstep, hfun]
      simp only [List.length_append, List.length_cons, List.length_nil]
      exact O9.keep k10.2.2
    · rw [hstep, hfun]
      exact hC.snoc hFS rfl
  · have hlt' : ¬ (i : Int) < (n : Nat) := by omega
    have : i = n := by omega
    subst this
    simp only [k17_a, WK, vop, evAll, evOpt, evParts, vbuiltin, vun, vextract, Nat.reduceLT, Nat.reduceEqDiff, ↓reduceIte, reduceCtorEq, Nat.reduceAdd, Int.reduceLT, Int.reduceNeg, valloc_std, noSB, vhot, h11, g9, hlt']
    exact ⟨hR, ⟨w2, hM, fun τ => hC.row hO τ⟩, hA, hk⟩
theorem cdecode_does {v : V} {bs : List UInt8} (hv : BtsV v bs) (hl : bs.length ≤ 400000000) (st : Int) (σ : St) :
    ∃ c σ', Does Try.prog prims 17 [v, .int .i64 st] σ (.ret (.tuple [.agg c, .int .i64 (decM bs st).2])) σ' ∧ Keep σ σ' ∧ ∀ τ, MdlS τ (decM bs st).1 c := by
  have key : ∃ q σ', Does Try.prog prims 17 [v, .int .i64 st] σ q σ' ∧ ∃ c, q = .ret (.tuple [.agg c, .int .i64 (decM bs st).2]) ∧ Keep σ σ' ∧ ∀ τ, MdlS τ (decM bs st).1 c := by
    apply k17_is.does (by simp)
    have hml : maxLen = 9223372036854775807 := by simp [maxLen, IntKind.max, IntKind.bits]
    obtain ⟨s0, hs0, a0, k0, l0⟩ := cell_new σ [V.nils, .nils]
    obtain ⟨r, s1, d1, k1, hr, r1⟩ := new_does hv (by omega) s0
    obtain ⟨s2, hs2, m2, k2, l2⟩ := cell_new s1 [V.nils, .nils]
    have a2 := k2.atV (k1.atV a0)
    have r2 := r1.keep' k2
    have hrl := r1.lt
    obtain ⟨s3, d3, k3, r3⟩ := number_does r2 (by omega)
    obtain ⟨c, hc⟩ : ∃ c, c = numS bs false := ⟨_, rfl⟩
    have hn1 := numS_len bs false
    have in1 := numS_in bs false
    rw [← hc] at d3 r3 hn1 in1
    obtain ⟨s4, d4, k4, r4⟩ := number_does r3 (by omega)
    obtain ⟨f, hf⟩ : ∃ f, f = numS c.2.1 c.2.2 := ⟨_, rfl⟩
    have hn2 := numS_len c.2.1 c.2.2
    have in2 := numS_in c.2.1 c.2.2
    rw [← hf] at d4 r4 hn2 in2
    have m4 := (m2.x k3 (by omega)).x k4 (by omega)
    have a4 := (a2.x k3 (by omega)).x k4 (by omega)
    have kσ4 : Keep σ s4 := (((k0.trans k1).trans k2).overX2 k3 (by omega)).overX2 k4 (by omega)
    have hmd : rdMdl bs = (⟨(rdA rdConst c.1 f.2).1, (rdA rdFun f.1 (rdA rdConst c.1 f.2).2).1⟩, (rdA rdFun f.1 (rdA rdConst c.1 f.2).2).2) := by unfold rdMdl; simp only [← hc, ← hf]
    have hin := rdMdl_in bs
    have hPl := (rdA_eats rdConst_eats f.2 c.1).1
    have hQl := (rdA_eats rdFun_eats (rdA rdConst c.1 f.2).2 f.1).1
    simp only [k17_a, WK, vop, evAll, evOpt, evParts, vbuiltin, vun, vextract, Nat.reduceLT, Nat.reduceEqDiff, ↓reduceIte, reduceCtorEq, Nat.reduceAdd, Int.reduceLT, Int.reduceNeg, valloc_std, noSB, vhot, List.getD_cons_zero, List.getD_cons_succ, MZ', vbox, vcells, ← hs0]
    refine KD.ret d1 ?_
    simp only [k17_a, WK, vop, evAll, evOpt, evParts, vbuiltin, vun, vextract, Nat.reduceLT, Nat.reduceEqDiff, ↓reduceIte, reduceCtorEq, Nat.reduceAdd, Int.reduceLT, Int.reduceNeg, valloc_std, noSB, vhot, MZ', vbox, vcells, ← hs2]
    refine KD.ret d3 ?_
    simp only [k17_a, WK, vop, evAll, evOpt, evParts, vbuiltin, vun, vextract, Nat.reduceLT, Nat.reduceEqDiff, ↓reduceIte, reduceCtorEq, Nat.reduceAdd, Int.reduceLT, Int.reduceNeg, valloc_std, noSB, vhot]
    refine KD.ret d4 ?_
    simp only [k17_a, WK, vop, evAll, evOpt, evParts, vbuiltin, vun, vextract, Nat.reduceLT, Nat.reduceEqDiff, ↓reduceIte, reduceCtorEq, Nat.reduceAdd, Int.reduceLT, Int.reduceNeg, valloc_std, noSB, vhot]
    refine Ev.cut (dec_l0 (σ := σ) (s := f.2) (n := c.1) (r := r) (o4 := σ.objs.length) (o7 := s1.objs.length) (by omega) (by omega) (by omega) (by omega) (by omega) (by omega) (by omega) (by omega) r4 m4 a4 kσ4 (by simp [upd_some]) (by simp [upd_some]) (by simp [upd_some]) (by simp [upd_some])) ?_
    rintro x e s5 ⟨rfl, r5, ⟨w, m5, hw⟩, a5, k5⟩ hfr
    have g0 : e 0 = v := (hfr 0 (by decide)).trans (by simp [upd_some])
    have g1 : e 1 = .int .i64 st := (hfr 1 (by decide)).trans (by simp [upd_some])
    have g4 : e 4 = .optr σ.objs.length 0 := (hfr 4 (by decide)).trans (by simp [upd_some])
    have g6 : e 6 = .optr r 0 := (hfr 6 (by decide)).trans (by simp [upd_some])
    have g7 : e 7 = .optr s1.objs.length 0 := (hfr 7 (by decide)).trans (by simp [upd_some])
    have g9 : e 9 = .int .i64 (f.1 : Nat) := (hfr 9 (by decide)).trans (by simp [upd_some])
    clear hfr
    generalize rdA rdConst c.1 f.2 = P at *
    simp only [k17_a, WK, vop, evAll, evOpt, evParts, vbuiltin, vun, vextract, Nat.reduceLT, Nat.reduceEqDiff, ↓reduceIte, reduceCtorEq, Nat.reduceAdd, Int.reduceLT, Int.reduceNeg, valloc_std, noSB, vhot]
    refine Ev.cut (dec_l1 (σ := σ) (s := P.2) (n := f.1) (r := r) (o4 := σ.objs.length) (o7 := s1.objs.length) (by omega) (by omega) (by omega) (by omega) (by omega) (by omega) (by omega) (by omega) r5 m5 a5 k5 (by simp [upd_some, g6]) (by simp [upd_some, g7]) (by simp [upd_some, g9]) (by simp [upd_some])) ?_
    rintro x e' s6 ⟨rfl, r6, ⟨w2, m6, hw2⟩, a6, k6⟩ hfr
    have j0 : e' 0 = v := (hfr 0 (by decide)).trans (by simp [upd_some, g0])
    have j1 : e' 1 = .int .i64 st := (hfr 1 (by decide)).trans (by simp [upd_some, g1])
    have j4 : e' 4 = .optr σ.objs.length 0 := (hfr 4 (by decide)).trans (by simp [upd_some, g4])
    have j6 : e' 6 = .optr r 0 := (hfr 6 (by decide)).trans (by simp [upd_some, g6])
    have j7 : e' 7 = .optr s1.objs.length 0 := (hfr 7 (by decide)).trans (by simp [upd_some, g7])
    clear hfr g0 g1 g4 g6 g7 g9
    generalize rdA rdFun f.1 P.2 = Q at *
    have hend := end_does r6
    have zero : ∀ s : St, IsV s σ.objs.length [.nils, .nils] → Keep σ s → ∃ s', vstore Try.prog s 25 (.optr σ.objs.length 0) (.agg [.nils, .nils]) = some s' ∧ vload Try.prog s'.objs 25 (.optr σ.objs.length 0) = some (.agg [.nils, .nils]) ∧ Keep σ s' := by
      intro s hs hk
      obtain ⟨s', h1, h2, h3, _⟩ := cell_all hs (t := 25) (c' := [.nils, .nils]) MS rfl rfl
      exact ⟨s', h1, vload_agg h2 MG MS, hk.overX2 h3 (Nat.le_refl _)⟩
    by_cases hgood : Q.2.2 = false ∧ Q.2.1 = []
    · have hgood' : (rdMdl bs).2.2 = false ∧ (rdMdl bs).2.1 = [] := by rw [hmd]; exact hgood
      have hyes : (!Q.2.2 && decide ((Q.2.1.length : Int) = 0)) = true := by rw [hgood.1, hgood.2]; rfl
      rw [hyes] at hend
      have hmS : ∀ τ, MdlS τ (rdMdl bs).1 [w, w2] := fun τ => by rw [hmd]; exact ⟨w, w2, rfl, hw, hw2 τ⟩
      have ldm : vload Try.prog s6.objs 25 (.optr s1.objs.length 0) = some (.agg [w, w2]) := vload_agg m6 MG MS
      obtain ⟨x, z, s7, d7, k7, hz⟩ := cencode_does (hmS s6) hin (by omega) st
      have a7 := k7.atV a6
      have m7 := k7.atV m6
      have k67 := k6.trans k7
      simp only [k17_a, WK, vop, evAll, evOpt, evParts, vbuiltin, vun, vextract, Nat.reduceLT, Nat.reduceEqDiff, ↓reduceIte, reduceCtorEq, Nat.reduceAdd, Int.reduceLT, Int.reduceNeg, valloc_std, noSB, vhot, j6]
      refine KD.ret hend ?_
      simp only [k17_a, WK, vop, evAll, evOpt, evParts, vbuiltin, vun, vextract, Nat.reduceLT, Nat.reduceEqDiff, ↓reduceIte, reduceCtorEq, Nat.reduceAdd, Int.reduceLT, Int.reduceNeg, valloc_std, noSB, vhot, j7, j1, ldm]
      refine KD.ret d7 ?_
      rcases hz with ⟨rfl, hok, hx⟩ | ⟨rfl, hno, rfl⟩
      · by_cases heq : encM (rdMdl bs).1 = bs
        · rw [decM_ok hgood' hok heq]
          have ldm7 : vload Try.prog s7.objs 25 (.optr s1.objs.length 0) = some (.agg [w, w2]) := vload_agg m7 MG MS
          obtain ⟨s8, st8, a8, k8, _⟩ := cell_all a7 (t := 25) (c' := [w, w2]) MS rfl (by have h1 := hw.one; obtain ⟨cs, h2, _⟩ := hw2 s7; simp only [List.all_cons, List.all_nil, h1, h2.one]; rfl)
          have hd : decide (encM (rdMdl bs).1 = bs) = true := decide_eq_true heq
          simp only [k17_a, WK, vop, evAll, evOpt, evParts, vbuiltin, vun, vextract, Nat.reduceLT, Nat.reduceEqDiff, ↓reduceIte, reduceCtorEq, Nat.reduceAdd, Int.reduceLT, Int.reduceNeg, valloc_std, noSB, vhot, j0, j4, j7, hx.str T22 CU27 T9, hv.str T22 CU27 T9, strBin, hd, eq_self, decide_true, Bool.not_true, ldm7, st8, vload_agg a8 MG MS]
          exact ⟨[w, w2], rfl, k67.overX2 k8 (Nat.le_refl _), hmS⟩
        · rw [decM_other hgood' hok heq]
          obtain ⟨s8, st8, ld8, k8⟩ := zero s7 a7 k67
          have hd : decide (encM (rdMdl bs).1 = bs) = false := decide_eq_false heq
          simp only [k17_a, WK, vop, evAll, evOpt, evParts, vbuiltin, vun, vextract, Nat.reduceLT, Nat.reduceEqDiff, ↓reduceIte, reduceCtorEq, Nat.reduceAdd, Int.reduceLT, Int.reduceNeg, valloc_std, noSB, vhot, j0, j4, hx.str T22 CU27 T9, hv.str T22 CU27 T9, strBin, hd, eq_self, decide_true, Bool.not_true, Bool.not_false, MB0, st8, ld8]
          exact ⟨_, rfl, k8, mdl_none⟩
      · rw [decM_no hgood' hno]
        obtain ⟨s8, st8, ld8, k8⟩ := zero s7 a7 k67
        simp only [k17_a, WK, vop, evAll, evOpt, evParts, vbuiltin, vun, vextract, Nat.reduceLT, Nat.reduceEqDiff, ↓reduceIte, reduceCtorEq, Nat.reduceAdd, Int.reduceLT, Int.reduceNeg, valloc_std, noSB, vhot, j4, (show ((40 : Int) = 0) = False from by simp), decide_false, Bool.not_false, MB0, st8, ld8]
        exact ⟨_, rfl, k8, mdl_none⟩
    · have hno : (!Q.2.2 && decide ((Q.2.1.length : Int) = 0)) = false := by
        rw [Bool.eq_false_iff]
        intro h
        simp at h
        exact hgood h
      rw [hno] at hend
      rw [decM_bad st (by rw [hmd]; exact hgood)]
      obtain ⟨s8, st8, ld8, k8⟩ := zero s6 a6 k6
      simp only [k17_a, WK, vop, evAll, evOpt, evParts, vbuiltin, vun, vextract, Nat.reduceLT, Nat.reduceEqDiff, ↓reduceIte, reduceCtorEq, Nat.reduceAdd, Int.reduceLT, Int.reduceNeg, valloc_std, noSB, vhot, j6]
      refine KD.ret hend ?_
      simp only [k17_a, WK, vop, evAll, evOpt, evParts, vbuiltin, vun, vextract, Nat.reduceLT, Nat.reduceEqDiff, ↓reduceIte, reduceCtorEq, Nat.reduceAdd, Int.reduceLT, Int.reduceNeg, valloc_std, noSB, vhot, j4, MB0, st8, ld8]
      exact ⟨_, rfl, k8, mdl_none⟩
  obtain ⟨q, σ', h1, c, rfl, h2⟩ := key
  exact ⟨c, σ', h1, h2⟩
end Go.Proofs.Ytplhelapcpcncaa.Q

/- Decode, the document's. -/
set_option linter.unusedVariables false
set_option linter.unusedSimpArgs false
set_option maxRecDepth 100000
namespace Go.Proofs.Ytplhelapcpcncaa.Q
open Go Go.RowKit Go.Proofs
theorem Rdr.parts {σ : St} {r : Nat} {bs : List UInt8} {bad : Bool} (h : Rdr σ r bs bad) : ∃ v, BtsV v bs ∧ vload Try.prog σ.objs 4 (.optr r 1) = some (.bool bad) ∧ vload Try.prog σ.objs 41 (.optr r 0) = some v := by
  obtain ⟨v, h1, h2⟩ := h
  exact ⟨v, h2, by rw [vload_obj h1 G4]; rfl, by rw [vload_obj h1 G22]; rfl⟩
end Go.Proofs.Ytplhelapcpcncaa.Q

set_option linter.unusedVariables false
set_option linter.unusedSimpArgs false
set_option maxRecDepth 100000
namespace Go.Proofs.Ytplhelapcpcncaa.Q
open Go Go.RowKit Go.Proofs
end Go.Proofs.Ytplhelapcpcncaa.Q

set_option linter.unusedVariables false
namespace Go.Proofs.Ytplhelapcpcncaa.Q
open Go Go.RowKit Go.Proofs
set_option maxRecDepth 100000 in
theorem wakes_run1 (a : List V) : ((vcall Try.prog prims 2000 8 [] ⟨[.cells a], []⟩).map fun r => (isTrue (some r), r.2.objs.take 1)) = some (true, [.cells a]) := by kernel_rfl
theorem wakes_does1 (a : List V) : ∃ σ, Does Try.prog prims 8 [] ⟨[.cells a], []⟩ (.ret (.bool true)) σ ∧ Keep ⟨[.cells a], []⟩ σ := by
  have h := wakes_run1 a
  rw [Option.map_eq_some_iff] at h
  obtain ⟨r, h1, h2⟩ := h
  injection h2 with h2 h3
  obtain ⟨σ, h4⟩ := isTrue_eq h2
  injection h4 with h4
  subst h4
  refine ⟨σ, ⟨2000, h1⟩, fun q o ho => ?_, Nat.zero_le _, fun k hk => by simp [tokLive] at hk⟩
  have hq := (List.getElem?_eq_some_iff.1 ho).1
  simp only at h3 ho hq
  rw [← h3, List.getElem?_take] at ho
  split at ho
  · exact ho
  · cases ho
end Go.Proofs.Ytplhelapcpcncaa.Q

/- CodeVerifies: for every input of bulk at most 1048576 the law answers true. -/
set_option linter.unusedVariables false
set_option linter.unusedSimpArgs false
namespace Go.Proofs.Ytplhelapcpcncaa.Q
open Go Go.RowKit Go.Proofs
end Go.Proofs.Ytplhelapcpcncaa.Q

/- CodeBytes: for every input of bulk at most 1048576 the law answers true. -/
set_option linter.unusedVariables false
set_option linter.unusedSimpArgs false
namespace Go.Proofs.Ytplhelapcpcncaa.Q
open Go Go.RowKit Go.Proofs
theorem decM_in (bs : List UInt8) (st : Int) : MIn (decM bs st).1 (2 * bs.length + 2) := by
  have none : MIn ⟨[], []⟩ (2 * bs.length + 2) := ⟨by simp [weights], by simp, by simp⟩
  by_cases h : (rdMdl bs).2.2 = false ∧ (rdMdl bs).2.1 = []
  · by_cases h2 : MdlOk (rdMdl bs).1 st
    · by_cases h3 : encM (rdMdl bs).1 = bs
      · rw [decM_ok h h2 h3]; exact rdMdl_in bs
      · rw [decM_other h h2 h3]; exact none
    · rw [decM_no h h2]; exact none
  · rw [decM_bad st h]; exact none
end Go.Proofs.Ytplhelapcpcncaa.Q

/- What was put is read; a beginning isn't. -/
set_option linter.unusedVariables false
set_option linter.unusedSimpArgs false
namespace Go.Proofs.Ytplhelapcpcncaa.Q
open Go Go.RowKit Go.Proofs
/-! ### What was put is read -/
theorem rdConst_back {v : Val} {rest : List UInt8} (h : typeC v ≠ []) (hc : ∃ c, ValC v c) : rdConst (cB v ++ rest, false) = (v, (rest, false)) := by
  obtain ⟨ht1, _, hl⟩ := typeC_fits h
  obtain ⟨T, _, _, _, hfit⟩ := fitsS_ty ht1
  obtain ⟨c, hc⟩ := hc
  obtain ⟨k, n, t, l, w, rfl, rfl, hw, ik, im⟩ := hc.inv
  have hl : l = [] := hl
  subst hl
  unfold InI64 at im
  cases T with
  | int =>
    simp only [fitsT, fitInt, Bool.and_eq_true, decide_eq_true_eq] at hfit
    obtain ⟨rfl, rfl, _⟩ := hfit
    unfold cB kindV rdConst
    rw [List.append_assoc, show (1 : Int).toNat = 1 from rfl, numS_put (by omega)]
    simp only [if_true]
    rw [putV, if_pos rfl]
    unfold zig
    by_cases h0 : 0 ≤ n
    · rw [if_pos h0, putS_two, List.append_assoc, show (0 : Int).toNat = 0 from rfl, numS_put (by omega)]
      simp only
      rw [numS_put (by omega)]
      simp only
      rw [if_neg (by omega), show ((n.toNat : Nat) : Int) = n by omega]
    · rw [if_neg h0, putS_two, List.append_assoc, show (1 : Int).toNat = 1 from rfl, numS_put (by omega)]
      simp only
      rw [numS_put (by omega)]
      simp only [if_true]
      rw [show (-(((-(n + 1)).toNat : Nat) : Int) - 1) = n by omega]
  | bool =>
    simp only [fitsT, fitBool, Bool.and_eq_true, Bool.or_eq_true, decide_eq_true_eq] at hfit
    obtain ⟨rfl, hn, rfl, _⟩ := hfit
    unfold cB kindV rdConst
    rw [List.append_assoc, show (2 : Int).toNat = 2 from rfl, numS_put (by omega)]
    simp only
    rw [if_neg (by decide), if_neg (by decide), putV, if_neg (by decide), if_pos rfl, putS_one, numS_put (by omega)]
    simp only
    rw [show ((n.toNat : Nat) : Int) = n by omega]
    rfl
  | text =>
    simp only [fitsT, fitText, Bool.and_eq_true, decide_eq_true_eq] at hfit
    obtain ⟨rfl, rfl, ht, _⟩ := hfit
    unfold cB kindV rdConst
    rw [List.append_assoc, show (3 : Int).toNat = 3 from rfl, numS_put (by omega)]
    simp only
    rw [if_neg (by decide), if_pos trivial, putV, if_neg (by decide), if_neg (by decide), if_pos rfl, putS_one, List.append_assoc, numS_put (by omega)]
    simp only
    have hc : canS (t ++ rest) false (((t.length : Int).toNat : Nat) : Int) = true := by
      simp only [canS, Bool.not_false, Bool.true_and, Bool.and_eq_true, decide_eq_true_eq, List.length_append]
      omega
    rw [bytS, if_pos hc]
    have e1 : (((t.length : Int).toNat : Nat) : Int).toNat = t.length := by omega
    rw [e1, List.take_left, List.drop_left]
  | list e =>
    simp only [fitsT, fitList, Bool.and_eq_true, decide_eq_true_eq] at hfit
    obtain ⟨rfl, rfl, rfl, _⟩ := hfit
    unfold cB kindV rdConst
    rw [List.append_assoc, show (4 : Int).toNat = 4 from rfl, numS_put (by omega)]
    simp only
    rw [if_neg (by decide), if_neg (by decide), putV, if_neg (by decide), if_neg (by decide), if_neg (by decide), putS_one, putL, List.append_nil, show (headV 4 ([] : List Val).length).toNat = 0 from rfl, numS_put (by omega)]
    rfl
  | mapI e =>
    simp only [fitsT, fitMap, Bool.and_eq_true, decide_eq_true_eq] at hfit
    obtain ⟨rfl, rfl, rfl, _⟩ := hfit
    unfold cB kindV rdConst
    rw [List.append_assoc, show (5 : Int).toNat = 5 from rfl, numS_put (by omega)]
    simp only
    rw [if_neg (by decide), if_neg (by decide), putV, if_neg (by decide), if_neg (by decide), if_neg (by decide), putS_one, putL, List.append_nil, show (headV 5 ([] : List Val).length).toNat = 0 from rfl, numS_put (by omega)]
    rfl
  | mapT e =>
    simp only [fitsT, fitMap, Bool.and_eq_true, decide_eq_true_eq] at hfit
    obtain ⟨rfl, rfl, rfl, _⟩ := hfit
    unfold cB kindV rdConst
    rw [List.append_assoc, show (5 : Int).toNat = 5 from rfl, numS_put (by omega)]
    simp only
    rw [if_neg (by decide), if_neg (by decide), putV, if_neg (by decide), if_neg (by decide), if_neg (by decide), putS_one, putL, List.append_nil, show (headV 5 ([] : List Val).length).toNat = 0 from rfl, numS_put (by omega)]
    rfl
theorem rdA_back {α : Type} {g : RS → α × RS} {enc : α → List UInt8} {l : List α} (H : ∀ x ∈ l, ∀ rest, g (enc x ++ rest, false) = (x, (rest, false))) (rest : List UInt8) : rdA g l.length (l.flatMap enc ++ rest, false) = (l, (rest, false)) := by
  have key : ∀ i, i ≤ l.length → rdA g i (l.flatMap enc ++ rest, false) = (l.take i, ((l.drop i).flatMap enc ++ rest, false)) := by
    intro i
    induction i with
    | zero => intro _; simp [rdA]
    | succ i ih =>
      intro hi
      have hlt : i < l.length := by omega
      have h1 := ih (by omega)
      rw [rdA_step (by rw [h1]), h1]
      simp only
      rw [List.drop_eq_getElem_cons hlt, List.flatMap_cons, List.append_assoc, H _ (List.getElem_mem hlt), List.take_succ_eq_append_getElem hlt]
  have := key l.length (Nat.le_refl _)
  rw [this, List.take_length, List.drop_length]
  simp
theorem right_pos {m : Mdl} {st : Int} {n : Nat} {f : Fun} {i : Ins} (h : rightS m st n f i = true) : 0 ≤ i.op ∧ 0 ≤ i.a := by
  unfold rightS at h
  have hk : ∀ (L : List (Int × Int)), (∀ p ∈ L, (0 : Int) ≤ p.1) → ∀ l, lookI L i.op = some l → 0 ≤ i.op := by
    intro L
    induction L with
    | nil => intro _ l hl; simp [lookI] at hl
    | cons p L ih =>
      intro hp l hl
      obtain ⟨a, b⟩ := p
      have h0 := hp (a, b) (by simp)
      simp only [lookI] at hl
      split at hl
      · rename_i e
        simp only at h0
        omega
      · exact ih (fun q hq => hp q (List.mem_cons_of_mem _ hq)) l hl
  split at h
  · rename_i l hl
    simp only [Bool.and_eq_true, decide_eq_true_eq] at h
    refine ⟨hk _ ?_ l hl, h.1.1⟩
    intro p hp
    simp only [limL, List.mem_cons, List.not_mem_nil, or_false] at hp
    rcases hp with rfl | rfl | rfl | rfl | rfl | rfl | rfl | rfl | rfl | rfl <;> simp
  · simp only [Bool.and_eq_true, decide_eq_true_eq] at h
    omega
theorem rdIns_back {i : Ins} {rest : List UInt8} (h : InI64 i.op ∧ InI64 i.a) (hp : 0 ≤ i.op ∧ 0 ≤ i.a) : rdIns (insB i ++ rest, false) = (i, (rest, false)) := by
  unfold InI64 at h
  unfold rdIns insB
  rw [putS_two, List.append_assoc, numS_put (by omega)]
  simp only
  rw [numS_put (by omega)]
  simp only
  rw [show ((i.op.toNat : Nat) : Int) = i.op by omega, show ((i.a.toNat : Nat) : Int) = i.a by omega]
theorem rdFun_back {m : Mdl} {st : Int} {n : Nat} {f : Fun} {rest : List UInt8} (hI : FunIn f) (hok : FunOk m st n f) : rdFun (funB f ++ rest, false) = (f, (rest, false)) := by
  obtain ⟨hb, hr, _⟩ := hok
  unfold FunBad at hb
  obtain ⟨h1, h2, h3, h4, h5⟩ := hI
  unfold InI64 at h1 h2 h3 h4
  unfold rdFun funB headF
  have e : putS [f.params, f.locals, f.zero, f.stack, ((f.code.length : Nat) : Int)] = putN f.params.toNat ++ (putN f.locals.toNat ++ (putN f.zero.toNat ++ (putN f.stack.toNat ++ putN f.code.length))) := by simp [putS]
  rw [e]
  simp only [List.append_assoc]
  rw [numS_put (by omega)]
  simp only
  rw [numS_put (by omega)]
  simp only
  rw [numS_put (by omega)]
  simp only
  rw [numS_put (by omega)]
  simp only
  rw [numS_put (by omega)]
  simp only
  rw [rdA_back fun x hx rest => rdIns_back (h5 x hx) (right_pos (hr x hx))]
  simp only
  rw [show ((f.params.toNat : Nat) : Int) = f.params by omega, show ((f.locals.toNat : Nat) : Int) = f.locals by omega, show ((f.zero.toNat : Nat) : Int) = f.zero by omega, show ((f.stack.toNat : Nat) : Int) = f.stack by omega]
theorem rdMdl_back {m : Mdl} {st : Int} {B : Nat} (hok : MdlOk m st) (hM : MIn m B) (hall : ∀ x ∈ m.consts, ∃ c, ValC x c) (rest : List UInt8) : rdMdl (encM m ++ rest) = (m, (rest, false)) := by
  have hf := hok.fl
  have hc : m.consts.length ≤ 16384 := by have := hok.1; unfold HeadBad at this; omega
  unfold rdMdl encM headM
  have e : putS [((m.consts.length : Nat) : Int), ((m.funcs.length : Nat) : Int)] = putN m.consts.length ++ putN m.funcs.length := by simp [putS]
  rw [e]
  simp only [List.append_assoc]
  rw [numS_put (by omega)]
  simp only
  rw [numS_put (by omega)]
  simp only
  rw [rdA_back fun x hx rest => rdConst_back (hok.2.1 x hx) (hall x hx)]
  simp only
  rw [rdA_back fun x hx rest => by
    obtain ⟨n, hn, rfl⟩ := List.getElem_of_mem hx
    exact rdFun_back (hM.fin _ hx) (hok.2.2 n hn)]
/-! ### More bytes behind change nothing of what is read -/
def MoreG {α : Type} (g : RS → α × RS) : Prop := (∀ s : RS, (g s).2.2 = false → s.2 = false) ∧ ∀ (bs t : List UInt8), (g (bs, false)).2.2 = false → g (bs ++ t, false) = ((g (bs, false)).1, ((g (bs, false)).2.1 ++ t, false))
theorem numS_more {bs t : List UInt8} (h : (numS bs false).2.2 = false) : numS (bs ++ t) false = ((numS bs false).1, (numS bs false).2.1 ++ t, false) := by
  obtain ⟨_, h2, h3⟩ := numS_ok h
  have h4 := numS_put h3 ((numS bs false).2.1 ++ t)
  rw [← List.append_assoc, ← h2] at h4
  exact h4
theorem bytS_more {bs t : List UInt8} {n : Int} (h : (bytS bs false n).2.2 = false) : bytS (bs ++ t) false n = ((bytS bs false n).1, (bytS bs false n).2.1 ++ t, false) := by
  unfold bytS at h ⊢
  by_cases hc : canS bs false n = true
  · have hc2 : canS (bs ++ t) false n = true := by
      simp only [canS, Bool.not_false, Bool.true_and, Bool.and_eq_true, decide_eq_true_eq, List.length_append] at hc ⊢
      omega
    have hn : n.toNat ≤ bs.length := by
      simp only [canS, Bool.not_false, Bool.true_and, Bool.and_eq_true, decide_eq_true_eq] at hc
      omega
    rw [if_pos hc, if_pos hc2, List.take_append_of_le_length hn, List.drop_append_of_le_length hn]
  · rw [if_neg hc] at h
    cases h
theorem bytS_stay {bs : List UInt8} {bad : Bool} {n : Int} (h : (bytS bs bad n).2.2 = false) : bad = false := by
  cases bad with
  | false => rfl
  | true => simp [bytS, canS] at h
theorem rdA_more {α : Type} {g : RS → α × RS} (H : MoreG g) : ∀ n, MoreG (rdA g n)
  | 0 => ⟨fun s h => h, fun bs t h => rfl⟩
  | n + 1 => by
    obtain ⟨h1, h2⟩ := rdA_more H n
    constructor
    · intro s h
      rw [rdA] at h
      split at h
      · rename_i hb; rw [hb] at h; cases h
      · rename_i hb; exact h1 s (by simpa using hb)
    · intro bs t h
      rw [rdA] at h
      split at h
      · rename_i hb; rw [hb] at h; cases h
      · rename_i hb
        have hb' : (rdA g n (bs, false)).2.2 = false := by simpa using hb
        have h3 := h2 bs t hb'
        rw [rdA_step hb', rdA_step (by rw [h3]), h3]
        have h4 := H.2 (rdA g n (bs, false)).2.1 t
        have e : (rdA g n (bs, false)).2 = ((rdA g n (bs, false)).2.1, false) := Prod.ext rfl hb'
        rw [e] at h ⊢
        rw [h4 h]
theorem rdIns_more : MoreG rdIns := by
  constructor
  · intro s h
    exact numS_stay (numS_stay h)
  · intro bs t h
    unfold rdIns at h ⊢
    simp only at h ⊢
    have h1 := numS_stay h
    rw [h1] at h
    rw [numS_more h1, h1]
    simp only
    rw [numS_more h]
theorem rdConst_more : MoreG rdConst := by
  constructor
  · intro s h
    unfold rdConst at h
    simp only at h
    split at h
    · exact numS_stay (numS_stay (numS_stay h))
    · split at h
      · exact numS_stay (numS_stay (bytS_stay h))
      · exact numS_stay (numS_stay h)
  · intro bs t h
    unfold rdConst at h ⊢
    simp only at h ⊢
    by_cases hk1 : (numS bs false).1 = 1
    · rw [if_pos hk1] at h
      simp only at h
      have h2 := numS_stay h
      have h1 := numS_stay h2
      rw [h1] at h2 h
      rw [h2] at h
      rw [numS_more h1, h1]
      simp only
      rw [if_pos hk1, if_pos hk1, numS_more h2, h2]
      simp only
      rw [numS_more h]
    · rw [if_neg hk1] at h
      by_cases hk3 : (numS bs false).1 = 3
      · rw [if_pos hk3] at h
        simp only at h
        have h2 := bytS_stay h
        have h1 := numS_stay h2
        rw [h1] at h2 h
        rw [h2] at h
        rw [numS_more h1, h1]
        simp only
        rw [if_neg hk1, if_pos hk3, if_neg hk1, if_pos hk3, numS_more h2, h2]
        simp only
        rw [bytS_more h]
      · rw [if_neg hk3] at h
        simp only at h
        have h1 := numS_stay h
        rw [h1] at h
        rw [numS_more h1, h1]
        simp only
        rw [if_neg hk1, if_neg hk3, if_neg hk1, if_neg hk3, numS_more h]
theorem rdFun_more : MoreG rdFun := by
  have ha := (rdA_more rdIns_more)
  constructor
  · intro s h
    unfold rdFun at h
    simp only at h
    exact numS_stay (numS_stay (numS_stay (numS_stay (numS_stay ((ha _).1 _ h)))))
  · intro bs t h
    unfold rdFun at h ⊢
    simp only at h ⊢
    have h5 := (ha _).1 _ h
    have h4 := numS_stay h5
    have h3 := numS_stay h4
    have h2 := numS_stay h3
    have h1 := numS_stay h2
    rw [numS_more h1]
    generalize numS bs false = a at *
    rw [h1] at h2 h3 h4 h5 h ⊢
    simp only
    rw [numS_more h2]
    generalize numS a.2.1 false = b at *
    rw [h2] at h3 h4 h5 h ⊢
    simp only
    rw [numS_more h3]
    generalize numS b.2.1 false = c at *
    rw [h3] at h4 h5 h ⊢
    simp only
    rw [numS_more h4]
    generalize numS c.2.1 false = d at *
    rw [h4] at h5 h ⊢
    simp only
    rw [numS_more h5]
    generalize numS d.2.1 false = n at *
    simp only
    have e : n.2 = (n.2.1, false) := Prod.ext rfl h5
    rw [e] at h ⊢
    rw [(ha _).2 _ t h]
theorem rdMdl_more {bs t : List UInt8} (h : (rdMdl bs).2.2 = false) : rdMdl (bs ++ t) = ((rdMdl bs).1, ((rdMdl bs).2.1 ++ t, false)) := by
  have ha := rdA_more rdConst_more
  have hb := rdA_more rdFun_more
  unfold rdMdl at h ⊢
  simp only at h ⊢
  have h3 := (hb _).1 _ h
  have h2 := (ha _).1 _ h3
  have h1 := numS_stay h2
  rw [numS_more h1]
  rw [h1] at h2 h3 h ⊢
  simp only
  rw [numS_more h2]
  simp only
  have e : (numS (numS bs false).2.1 false).2 = ((numS (numS bs false).2.1 false).2.1, false) := Prod.ext rfl h2
  rw [e] at h3 h ⊢
  rw [(ha _).2 _ t h3]
  simp only
  have e2 : (rdA rdConst (numS bs false).1 ((numS (numS bs false).2.1 false).2.1, false)).2 = ((rdA rdConst (numS bs false).1 ((numS (numS bs false).2.1 false).2.1, false)).2.1, false) := Prod.ext rfl h3
  rw [e2] at h ⊢
  rw [(hb _).2 _ t h]
theorem dec_back {m : Mdl} {st : Int} {B : Nat} (hok : MdlOk m st) (hM : MIn m B) (hall : ∀ x ∈ m.consts, ∃ c, ValC x c) : decM (encM m) st = (m, 0) := by
  have h := rdMdl_back hok hM hall []
  rw [List.append_nil] at h
  rw [decM_ok (by rw [h]; exact ⟨rfl, rfl⟩) (by rw [h]; exact hok) (by rw [h]), h]
theorem dec_cut {m : Mdl} {st : Int} {B : Nat} (hok : MdlOk m st) (hM : MIn m B) (hall : ∀ x ∈ m.consts, ∃ c, ValC x c) {i : Nat} (hi : i < (encM m).length) : (decM ((encM m).take i) st).2 = 11 := by
  have h := rdMdl_back hok hM hall []
  rw [List.append_nil] at h
  rw [decM_bad]
  rintro ⟨h1, h2⟩
  have h3 := rdMdl_more (t := (encM m).drop i) h1
  rw [List.take_append_drop, h, h2] at h3
  injection h3 with _ h3
  injection h3 with h3 _
  have := congrArg List.length h3
  simp only [List.length_nil, List.length_append, List.length_drop] at this
  omega
theorem dec_more {m : Mdl} {st : Int} {B : Nat} (hok : MdlOk m st) (hM : MIn m B) (hall : ∀ x ∈ m.consts, ∃ c, ValC x c) : (decM (encM m ++ [0]) st).2 = 11 := by
  have h := rdMdl_back hok hM hall [0]
  rw [decM_bad]
  rintro ⟨_, h2⟩
  rw [h] at h2
  cases h2
theorem dec_cases (bs : List UInt8) (st : Int) : ((decM bs st).2 = 0 ∧ MdlOk (decM bs st).1 st ∧ encM (decM bs st).1 = bs) ∨ ((decM bs st).2 ≠ 0 ∧ (decM bs st).1 = ⟨[], []⟩) := by
  by_cases h : (rdMdl bs).2.2 = false ∧ (rdMdl bs).2.1 = []
  · by_cases h2 : MdlOk (rdMdl bs).1 st
    · by_cases h3 : encM (rdMdl bs).1 = bs
      · rw [decM_ok h h2 h3]; exact .inl ⟨rfl, h2, h3⟩
      · rw [decM_other h h2 h3]; exact .inr ⟨by simp, rfl⟩
    · rw [decM_no h h2]; exact .inr ⟨by simp, rfl⟩
  · rw [decM_bad st h]; exact .inr ⟨by simp, rfl⟩
end Go.Proofs.Ytplhelapcpcncaa.Q

/- CodeBack: for every input of bulk at most 1048576 the law answers true. -/
set_option linter.unusedVariables false
set_option linter.unusedSimpArgs false
namespace Go.Proofs.Ytplhelapcpcncaa.Q
open Go Go.RowKit Go.Proofs
theorem encM_len {m : Mdl} {st : Int} {B : Nat} (hok : MdlOk m st) (hM : MIn m B) (hB : B ≤ 1048600) (hall : ∀ x ∈ m.consts, ∃ c, ValC x c) : (encM m).length ≤ 100000000 := by
  have h1 := hM.cw
  have h2 := constsB_len (l := m.consts) (by omega) hall
  have h3 := funsB_len (l := m.funcs) fun f hf => ⟨hM.fin f hf, hok.code f hf⟩
  have h4 := hok.fl
  have h5 : (putS (headM m)).length ≤ 9 * 2 := putS_len (by unfold headM; have := hok.1; unfold HeadBad at this; simp; unfold InI64; omega)
  unfold encM
  simp only [List.length_append]
  omega
set_option maxRecDepth 100000 in
theorem cback_true : LawTrue Try.prog prims 6 [25, 3, 41] := by
  intro xs hA hb
  match xs, hA with
  | [x, y, z], ⟨hx, hy, hz, _⟩ =>
    obtain ⟨m, c, rfl, hm, hM⟩ := mdl_arg hx
    obtain ⟨st, rfl, hst⟩ := int_arg T3 hy
    obtain ⟨bs, hv, hbl⟩ := bytes_arg T22 T5 C5 hz
    simp only [vbulks] at hb
    have hB : vbulk (.agg c) ≤ 1048600 := by omega
    have key : ∃ r σ', Does Try.prog prims 6 [.agg c, .int .i64 st, z] st0 r σ' ∧ r = .ret (.bool true) := by
      apply k6_is.does (by simp)
      obtain ⟨s1, hs1⟩ : ∃ s1 : St, s1 = ⟨st0.objs ++ [Ob.cells c], st0.toks⟩ := ⟨_, rfl⟩
      have o1 : s1.objs[0]? = some (.cells c) := by rw [hs1]; rfl
      obtain ⟨s2, d2, k2⟩ := wakes_does1 c
      have e1 : (⟨[Ob.cells c], []⟩ : St) = s1 := by rw [hs1]; rfl
      rw [e1] at d2 k2
      have L : ∀ s', Keep s1 s' → vload Try.prog s'.objs 25 (.optr 0 0) = some (.agg c) := fun s' hk => vload_agg (hk.1 _ _ o1) MG (by rw [(hm st0).len]; exact MS)
      obtain ⟨b, s3, d3, k3⟩ := large_does (hm s2) hM (by omega)
      have k13 := k2.trans k3
      simp only [k6_a, WK, vop, evAll, evOpt, evParts, vbuiltin, vun, vextract, Nat.reduceLT, Nat.reduceEqDiff, ↓reduceIte, reduceCtorEq, Nat.reduceAdd, Int.reduceLT, Int.reduceNeg, valloc_std, noSB, vhot, List.getD_cons_zero, List.getD_cons_succ, vbox, vcells, List.length_nil, show st0.objs.length = 0 from rfl, ← hs1]
      refine KD.ret d2 ?_
      simp only [k6_a, WK, vop, evAll, evOpt, evParts, vbuiltin, vun, vextract, Nat.reduceLT, Nat.reduceEqDiff, ↓reduceIte, reduceCtorEq, Nat.reduceAdd, Int.reduceLT, Int.reduceNeg, valloc_std, noSB, vhot, L s2 k2]
      refine KD.ret d3 ?_
      cases b with
      | true => simp only [k6_a, WK, vop, evAll, evOpt, evParts, vbuiltin, vun, vextract, Nat.reduceLT, Nat.reduceEqDiff, ↓reduceIte, reduceCtorEq, Nat.reduceAdd, Int.reduceLT, Int.reduceNeg, valloc_std, noSB, vhot]
      | false =>
      by_cases hbig : (8192 : Int) < (bs.length : Nat)
      · simp only [k6_a, WK, vop, evAll, evOpt, evParts, vbuiltin, vun, vextract, Nat.reduceLT, Nat.reduceEqDiff, ↓reduceIte, reduceCtorEq, Nat.reduceAdd, Int.reduceLT, Int.reduceNeg, valloc_std, noSB, vhot, hv.len T22, hbig]
      obtain ⟨x4, z4, s4, d4, k4, h4⟩ := cencode_does (hm s3) hM (by omega) st
      have k14 := k13.trans k4
      simp only [k6_a, WK, vop, evAll, evOpt, evParts, vbuiltin, vun, vextract, Nat.reduceLT, Nat.reduceEqDiff, ↓reduceIte, reduceCtorEq, Nat.reduceAdd, Int.reduceLT, Int.reduceNeg, valloc_std, noSB, vhot, hv.len T22, hbig, L s3 k13]
      refine KD.ret d4 ?_
      rcases h4 with ⟨rfl, hok, b4⟩ | ⟨rfl, hno, rfl⟩
      case inr =>
        simp only [k6_a, WK, vop, evAll, evOpt, evParts, vbuiltin, vun, vextract, Nat.reduceLT, Nat.reduceEqDiff, ↓reduceIte, reduceCtorEq, Nat.reduceAdd, Int.reduceLT, Int.reduceNeg, valloc_std, noSB, vhot, (show ((40 : Int) = 0) = False from by simp), decide_false]
        obtain ⟨ct, u1, du1, ku1, mu1⟩ := cdecode_does hv (by omega) st s4
        obtain ⟨u2, hu2, iu2, ku2, lu2⟩ := cell_new u1 [V.nils, .nils]
        have hone : ct.all one = true := by
          obtain ⟨w1, w2, h1, h2, h3⟩ := mu1 u2
          rw [h1]
          obtain ⟨cs, h3, _⟩ := h3
          simp only [List.all_cons, List.all_nil, h2.one, h3.one]; rfl
        have hctl := (mu1 u2).len
        obtain ⟨u3, stu3, iu3, ku3, lu3⟩ := cell_all iu2 (t := 25) (c' := ct) (by rw [hctl]; exact MS) (by rw [hctl]; rfl) hone
        have ku13 : Keep u1 u3 := ku2.overX2 ku3 (Nat.le_refl _)
        refine KD.ret du1 ?_
        rcases dec_cases bs st with ⟨hz0, hmok, henc⟩ | ⟨hzn, hempty⟩
        · have ldm : ∀ s', Keep u3 s' → vload Try.prog s'.objs 25 (.optr u1.objs.length 0) = some (.agg ct) := fun s' hk => vload_agg (hk.1 _ _ iu3) MG (by rw [hctl]; exact MS)
          obtain ⟨y, zy, u4, du4, ku4, hy⟩ := cencode_does (mu1 u3) (decM_in bs st) (by omega) st
          have hww : ∀ v ∈ (decM bs st).1.consts, weight v ≤ 4294967296 := fun v hv => by have := weights_mem hv; have := (decM_in bs st).cw; omega
          obtain ⟨zv, u5, du5, ku5, hzv⟩ := cverify_does (mu1 u4) st hww
          have hzy : zy = 0 ∧ BtsV y bs := by
            rcases hy with ⟨h1, _, h3⟩ | ⟨_, h2, _⟩
            · exact ⟨h1, by rw [henc] at h3; exact h3⟩
            · exact absurd hmok h2
          have hzv0 : zv = 0 := by
            rcases hzv with ⟨h1, _⟩ | ⟨_, h2⟩
            · exact h1
            · exact absurd hmok h2
          obtain ⟨hzy1, hzy2⟩ := hzy
          subst hzv0
          subst hzy1
          simp only [k6_a, WK, vop, evAll, evOpt, evParts, vbuiltin, vun, vextract, Nat.reduceLT, Nat.reduceEqDiff, ↓reduceIte, reduceCtorEq, Nat.reduceAdd, Int.reduceLT, Int.reduceNeg, valloc_std, noSB, vhot, eq_self, eq_self, hz0, MZ', vbox, vcells, ← hu2, stu3, eq_self, decide_true, Bool.not_true, ldm u3 (Keep.refl _)]
          refine KD.ret du4 ?_
          simp only [k6_a, WK, vop, evAll, evOpt, evParts, vbuiltin, vun, vextract, Nat.reduceLT, Nat.reduceEqDiff, ↓reduceIte, reduceCtorEq, Nat.reduceAdd, Int.reduceLT, Int.reduceNeg, valloc_std, noSB, vhot, eq_self, eq_self, hzy2.str T22 CU27 T9, hv.str T22 CU27 T9, strBin, eq_self, decide_true, ldm u4 ku4]
          refine KD.ret du5 ?_
          simp only [k6_a, WK, vop, evAll, evOpt, evParts, vbuiltin, vun, vextract, Nat.reduceLT, Nat.reduceEqDiff, ↓reduceIte, reduceCtorEq, Nat.reduceAdd, Int.reduceLT, Int.reduceNeg, valloc_std, noSB, vhot, eq_self, decide_true]
        · obtain ⟨w1, w2, hc2, hv2, hf2⟩ := mu1 u3
          rw [hempty] at hv2 hf2
          rw [hc2] at iu3
          have lw2 : vload Try.prog u3.objs 23 (.optr u1.objs.length 1) = some w2 := by rw [vload_obj iu3 FsG]; rfl
          have lw1 : vload Try.prog u3.objs 22 (.optr u1.objs.length 0) = some w1 := by rw [vload_obj iu3 VsG]; rfl
          have lf2 : vlen Try.prog 23 w2 = some (.int .i64 (0 : Nat)) := by obtain ⟨cs, hr, _⟩ := hf2; exact hr.len FT
          have lv2 : vlen Try.prog 22 w1 = some (.int .i64 (0 : Nat)) := hv2.len
          have hzf : ((decM bs st).2 = 0) = False := eq_false hzn
          simp only [k6_a, WK, vop, evAll, evOpt, evParts, vbuiltin, vun, vextract, Nat.reduceLT, Nat.reduceEqDiff, ↓reduceIte, reduceCtorEq, Nat.reduceAdd, Int.reduceLT, Int.reduceNeg, valloc_std, noSB, vhot, MZ', vbox, vcells, ← hu2, stu3, hzf, decide_false, Bool.not_false, MF0, MF1, lw1, lw2, lf2, lv2, eq_self, decide_true, Int.ofNat_zero, Int.natCast_zero]
      obtain ⟨w1c, w2c, hcc, hvc, hfc⟩ := hm st0
      have hall := hvc.all'
      have hX := encM_len hok hM hB hall
      obtain ⟨X, hXe⟩ : ∃ X, X = encM m := ⟨_, rfl⟩
      have hdb := dec_back hok hM hall
      have hdc := fun i => dec_cut hok hM hall (i := i)
      have hdm := dec_more hok hM hall
      rw [← hXe] at b4 hX hdb hdc hdm
      obtain ⟨c5, s5, d5, k5, m5⟩ := cdecode_does b4 (by omega) st s4
      rw [hdb] at d5 m5
      obtain ⟨s6, hs6, i6, k6, l6⟩ := cell_new s5 [V.nils, .nils]
      have hone5 : c5.all one = true := by
        obtain ⟨w1, w2, h1, h2, h3⟩ := m5 s6
        rw [h1]
        obtain ⟨cs, h3, _⟩ := h3
        simp only [List.all_cons, List.all_nil, h2.one, h3.one]; rfl
      have hc5l := (m5 s6).len
      obtain ⟨s7, st7, i7, k7, l7⟩ := cell_all i6 (t := 25) (c' := c5) (by rw [hc5l]; exact MS) (by rw [hc5l]; rfl) hone5
      have k57 : Keep s5 s7 := k6.overX2 k7 (Nat.le_refl _)
      have k17 := (k14.trans k5).trans k57
      have ld7 : vload Try.prog s7.objs 25 (.optr s5.objs.length 0) = some (.agg c5) := vload_agg i7 MG (by rw [hc5l]; exact MS)
      obtain ⟨s8, d8, k8⟩ := csame_does (m5 s7) (hm s7) hM (by omega)
      have k18 := k17.trans k8
      simp only [k6_a, WK, vop, evAll, evOpt, evParts, vbuiltin, vun, vextract, Nat.reduceLT, Nat.reduceEqDiff, ↓reduceIte, reduceCtorEq, Nat.reduceAdd, Int.reduceLT, Int.reduceNeg, valloc_std, noSB, vhot, eq_self, decide_true]
      refine KD.ret d5 ?_
      simp only [k6_a, WK, vop, evAll, evOpt, evParts, vbuiltin, vun, vextract, Nat.reduceLT, Nat.reduceEqDiff, ↓reduceIte, reduceCtorEq, Nat.reduceAdd, Int.reduceLT, Int.reduceNeg, valloc_std, noSB, vhot, MZ', vbox, vcells, ← hs6, st7, eq_self, decide_true, Bool.not_true, ld7, L s7 k17]
      refine KD.ret d8 ?_
      simp only [k6_a, WK, vop, evAll, evOpt, evParts, vbuiltin, vun, vextract, Nat.reduceLT, Nat.reduceEqDiff, ↓reduceIte, reduceCtorEq, Nat.reduceAdd, Int.reduceLT, Int.reduceNeg, valloc_std, noSB, vhot]
      refine Ev.loopF (fun (i : Nat) e σ' => e 11 = .int .i64 (i : Nat) ∧ i ≤ 4000000000 ∧ Keep s1 σ') (fun i => X.length + 1 - i) 0 ⟨by simp [upd_some], by omega, k18⟩ ?_
      rintro i e sb ⟨h11, hi, hkb⟩ hfr
      have g1 : e 1 = .int .i64 st := (hfr 1 (by decide)).trans (by simp [upd_some])
      have g2 : e 2 = z := (hfr 2 (by decide)).trans (by simp [upd_some])
      have g7 : e 7 = x4 := (hfr 7 (by decide)).trans (by simp [upd_some])
      clear hfr
      by_cases hlt : i < X.length
      · have hlt' : (i : Int) < (X.length : Nat) := by omega
        obtain ⟨q, hq⟩ : ∃ q : Nat, q = X.length / 30 := ⟨_, rfl⟩
        have hquo : Int.tdiv ((X.length : Nat) : Int) 30 = (q : Int) := by rw [Int.tdiv_eq_ediv_of_nonneg (by omega)]; omega
        have wq : IntKind.i64.wrap ((q : Nat) : Int) = ((q : Nat) : Int) := wrap_nat (by omega)
        have w1' : IntKind.i64.wrap (1 + (q : Int)) = 1 + (q : Int) := wrap_i64 (by omega) (by omega)
        have w2' : IntKind.i64.wrap ((i : Int) + (1 + (q : Int))) = ((i + (1 + q) : Nat) : Int) := by rw [wrap_i64 (by omega) (by omega)]; omega
        obtain ⟨sl, hsl, bsl⟩ := b4.slice T22 S5 (lo := none) (hi := some (.int .i64 (i : Int))) (vbounds_hi (by omega) (by omega)) (by omega) (by omega)
        rw [Int.toNat_natCast, List.drop_zero, Nat.sub_zero] at bsl
        obtain ⟨c9, s9, d9, k9, m9⟩ := cdecode_does bsl (by rw [List.length_take]; omega) st sb
        rw [hdc i hlt] at d9
        simp only [k6_a, WK, vop, evAll, evOpt, evParts, vbuiltin, vun, vextract, Nat.reduceLT, Nat.reduceEqDiff, ↓reduceIte, reduceCtorEq, Nat.reduceAdd, Int.reduceLT, Int.reduceNeg, valloc_std, noSB, vhot, h11, g1, g7, b4.len T22, hlt', T22, hsl]
        refine KD.ret d9 ?_
        simp only [k6_a, WK, vop, evAll, evOpt, evParts, vbuiltin, vun, vextract, Nat.reduceLT, Nat.reduceEqDiff, ↓reduceIte, reduceCtorEq, Nat.reduceAdd, Int.reduceLT, Int.reduceNeg, valloc_std, noSB, vhot, h11, g7, b4.len T22, eq_self, decide_true, Bool.not_true, hquo, wq, w1', w2', (show ((30 : Int) = 0) = False from by simp)]
        exact ⟨i + (1 + q), ⟨by simp [upd_some], by omega, hkb.trans k9⟩, by omega⟩
      have hlt' : ¬ (i : Int) < (X.length : Nat) := by omega
      have ho0 : OwnV 5 sb.toks.length sb (.slice .exact 1 [] 0) [] := .inr ⟨_, rfl, .inl rfl⟩
      obtain ⟨v1, sc, ap1, O1, kc, _⟩ := ho0.append' BT rfl (Keep.refl sb) T22 b4 (by simp; omega)
      rw [List.nil_append] at O1
      have hB0 : BtsV (.slice .exact 1 [.int .u8 0] 1) [UInt8.ofNat 0] := (buildByte (n := 0) BT (by omega)).2
      obtain ⟨v2, sd, ap2, O2, kd, _⟩ := O1.append' BT rfl kc T22 hB0 (by simp; omega)
      obtain ⟨c10, s10, d10, k10, m10⟩ := cdecode_does O2.bts (by rw [List.length_append]; simp; omega) st sd
      rw [show X ++ [UInt8.ofNat 0] = X ++ [0] from rfl, hdm] at d10
      have k1e := (hkb.trans kd).trans k10
      have hb0' : vbuildSlice Try.prog 41 1 [(0, .int .u8 0)] = some (.slice .exact 1 [.int .u8 0] 1) := by kernel_rfl
      simp only [k6_a, WK, vop, evAll, evOpt, evParts, vbuiltin, vun, vextract, Nat.reduceLT, Nat.reduceEqDiff, ↓reduceIte, reduceCtorEq, Nat.reduceAdd, Int.reduceLT, Int.reduceNeg, valloc_std, noSB, vhot, h11, g1, g7, b4.len T22, hlt', build0 BT, ap1, hb0', ap2]
      refine KD.ret d10 ?_
      simp only [k6_a, WK, vop, evAll, evOpt, evParts, vbuiltin, vun, vextract, Nat.reduceLT, Nat.reduceEqDiff, ↓reduceIte, reduceCtorEq, Nat.reduceAdd, Int.reduceLT, Int.reduceNeg, valloc_std, noSB, vhot, eq_self, decide_true, Bool.not_true]
      obtain ⟨ct, u1, du1, ku1, mu1⟩ := cdecode_does hv (by omega) st s10
      obtain ⟨u2, hu2, iu2, ku2, lu2⟩ := cell_new u1 [V.nils, .nils]
      have hone : ct.all one = true := by
        obtain ⟨w1, w2, h1, h2, h3⟩ := mu1 u2
        rw [h1]
        obtain ⟨cs, h3, _⟩ := h3
        simp only [List.all_cons, List.all_nil, h2.one, h3.one]; rfl
      have hctl := (mu1 u2).len
      obtain ⟨u3, stu3, iu3, ku3, lu3⟩ := cell_all iu2 (t := 25) (c' := ct) (by rw [hctl]; exact MS) (by rw [hctl]; rfl) hone
      have ku13 : Keep u1 u3 := ku2.overX2 ku3 (Nat.le_refl _)
      simp only [k6_a, WK, vop, evAll, evOpt, evParts, vbuiltin, vun, vextract, Nat.reduceLT, Nat.reduceEqDiff, ↓reduceIte, reduceCtorEq, Nat.reduceAdd, Int.reduceLT, Int.reduceNeg, valloc_std, noSB, vhot, g1, g2]
      refine KD.ret du1 ?_
      rcases dec_cases bs st with ⟨hz0, hmok, henc⟩ | ⟨hzn, hempty⟩
      · have ldm : ∀ s', Keep u3 s' → vload Try.prog s'.objs 25 (.optr u1.objs.length 0) = some (.agg ct) := fun s' hk => vload_agg (hk.1 _ _ iu3) MG (by rw [hctl]; exact MS)
        obtain ⟨y, zy, u4, du4, ku4, hy⟩ := cencode_does (mu1 u3) (decM_in bs st) (by omega) st
        have hww : ∀ v ∈ (decM bs st).1.consts, weight v ≤ 4294967296 := fun v hv => by have := weights_mem hv; have := (decM_in bs st).cw; omega
        obtain ⟨zv, u5, du5, ku5, hzv⟩ := cverify_does (mu1 u4) st hww
        have hzy : zy = 0 ∧ BtsV y bs := by
          rcases hy with ⟨h1, _, h3⟩ | ⟨_, h2, _⟩
          · exact ⟨h1, by rw [henc] at h3; exact h3⟩
          · exact absurd hmok h2
        have hzv0 : zv = 0 := by
          rcases hzv with ⟨h1, _⟩ | ⟨_, h2⟩
          · exact h1
          · exact absurd hmok h2
        obtain ⟨hzy1, hzy2⟩ := hzy
        subst hzv0
        subst hzy1
        simp only [k6_a, WK, vop, evAll, evOpt, evParts, vbuiltin, vun, vextract, Nat.reduceLT, Nat.reduceEqDiff, ↓reduceIte, reduceCtorEq, Nat.reduceAdd, Int.reduceLT, Int.reduceNeg, valloc_std, noSB, vhot, g1, g2, hz0, MZ', vbox, vcells, ← hu2, stu3, eq_self, decide_true, Bool.not_true, ldm u3 (Keep.refl _)]
        refine KD.ret du4 ?_
        simp only [k6_a, WK, vop, evAll, evOpt, evParts, vbuiltin, vun, vextract, Nat.reduceLT, Nat.reduceEqDiff, ↓reduceIte, reduceCtorEq, Nat.reduceAdd, Int.reduceLT, Int.reduceNeg, valloc_std, noSB, vhot, g1, g2, hzy2.str T22 CU27 T9, hv.str T22 CU27 T9, strBin, eq_self, decide_true, ldm u4 ku4]
        refine KD.ret du5 ?_
        simp only [k6_a, WK, vop, evAll, evOpt, evParts, vbuiltin, vun, vextract, Nat.reduceLT, Nat.reduceEqDiff, ↓reduceIte, reduceCtorEq, Nat.reduceAdd, Int.reduceLT, Int.reduceNeg, valloc_std, noSB, vhot, eq_self, decide_true]
      · obtain ⟨w1, w2, hc2, hv2, hf2⟩ := mu1 u3
        rw [hempty] at hv2 hf2
        rw [hc2] at iu3
        have lw2 : vload Try.prog u3.objs 23 (.optr u1.objs.length 1) = some w2 := by rw [vload_obj iu3 FsG]; rfl
        have lw1 : vload Try.prog u3.objs 22 (.optr u1.objs.length 0) = some w1 := by rw [vload_obj iu3 VsG]; rfl
        have lf2 : vlen Try.prog 23 w2 = some (.int .i64 (0 : Nat)) := by obtain ⟨cs, hr, _⟩ := hf2; exact hr.len FT
        have lv2 : vlen Try.prog 22 w1 = some (.int .i64 (0 : Nat)) := hv2.len
        have hzf : ((decM bs st).2 = 0) = False := eq_false hzn
        simp only [k6_a, WK, vop, evAll, evOpt, evParts, vbuiltin, vun, vextract, Nat.reduceLT, Nat.reduceEqDiff, ↓reduceIte, reduceCtorEq, Nat.reduceAdd, Int.reduceLT, Int.reduceNeg, valloc_std, noSB, vhot, MZ', vbox, vcells, ← hu2, stu3, hzf, decide_false, Bool.not_false, MF0, MF1, lw1, lw2, lf2, lv2, eq_self, decide_true, Int.ofNat_zero, Int.natCast_zero]
    obtain ⟨r, σ', ⟨n, h⟩, rfl⟩ := key
    exact ⟨n, σ', h⟩
end Go.Proofs.Ytplhelapcpcncaa.Q

