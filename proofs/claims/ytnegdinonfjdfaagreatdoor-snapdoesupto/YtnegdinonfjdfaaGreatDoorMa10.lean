/- A part of the proof: Zm, Zn, Zo, Zp, Uc, Zq, Zr, Lw. -/
import Derived.Test.YtnegdinonfjdfaaGreatDoorMa9
import Derived.Test.YtnegdinonfjdfaaGreatDoorMa5
import Derived.Test.YtnegdinonfjdfaaGreatDoorMa6
import Derived.Test.YtnegdinonfjdfaaGreatDoorCards
import Derived.Test.YtnegdinonfjdfaaGreatDoorTie
import Derived.WalkKit
import Derived.ProofKit
import Derived.OpenShut
import Derived.Deep.DeepHandedRow
import Derived.Deep.DeepWitnessRowRef
import Derived.Lib.LaidTab
import Derived.LaidSub
import Derived.Stop.LaidErr
set_option linter.unusedVariables false
set_option linter.unusedSimpArgs false
set_option maxRecDepth 100000
namespace Go.Proofs.YtnegdinonfjdfaaGreatDoor.Q
open Go Go.RowKit Go.Proofs
theorem RefAt.power {σ : St} {r : Nat} {d : Dk} {q : Option Nat} {rs : List RE} (h : RefAt σ r d q rs) : vload Tryz.prog σ.objs 4 (.optr r 2) = some (.bool d.on) := by
  obtain ⟨fv, o, _⟩ := h.hd
  rw [vload_obj o G4]
  rfl
theorem seqC_seq {P : Program} {pr : Prim} {N : Nat} {a b : CC} {Q : VX → (Nat → V) → St → Prop} : seqC P pr N (.seq a b) Q = seqC P pr N a (seqC P pr N b Q) := by
  funext x e σ
  cases x
  · rw [seqC_normal, seqC_normal, Ev_seq']
  · rw [seqC_exit, seqC_exit, seqC_exit]
  · rw [seqC_ret, seqC_ret, seqC_ret]
  · rw [seqC_pan, seqC_pan, seqC_pan]
structure RIn (σ : St) (r : Nat) (q : Option Nat) (s : St) (d : Dk) (q' : Option Nat) (rs' : List RE) : Prop where
  at' : RefAt s r d q' rs'
  ks : KS (r :: q.toList) σ s
  gr : ∀ x ∈ r :: q'.toList, x ∈ r :: q.toList ∨ σ.objs.length ≤ x
theorem RIn.refl {σ : St} {r : Nat} {d : Dk} {q : Option Nat} {rs : List RE} (h : RefAt σ r d q rs) : RIn σ r q σ d q rs := ⟨h, KS.refl _ _, fun x hx => .inl hx⟩
theorem RIn.still {σ s s' : St} {r : Nat} {d : Dk} {q q' : Option Nat} {rs' : List RE} (h : RIn σ r q s d q' rs') (k : KS [] s s') : RIn σ r q s' d q' rs' :=
  ⟨h.at'.pushes k, h.ks.trans' k.nils, h.gr⟩
theorem RIn.next {σ s s' : St} {r : Nat} {d d' : Dk} {q q' : Option Nat} {rs' : List RE} (h : RIn σ r q s d q' rs') (k : RNext s r q' s' d') : ∃ q2 rs2, RIn σ r q s' d' q2 rs2 := by
  obtain ⟨q2, rs2, h1, h2, h3⟩ := k
  refine ⟨q2, rs2, h1, h.ks.trans h2 h.gr, fun x hx => ?_⟩
  rcases h3 x hx with h4 | h4
  · exact h.gr x h4
  · have := h.ks.le; exact .inr (by omega)
theorem RIn.out {σ s : St} {r : Nat} {d : Dk} {q q' : Option Nat} {rs' : List RE} (h : RIn σ r q s d q' rs') : RNext σ r q s d := ⟨q', rs', h.at', h.ks, h.gr⟩
theorem rsave_sees {σ : St} {r : Nat} {d : Dk} {q : Option Nat} {rs : List RE} {n : Int} {x : V} {body : List UInt8} (h : RefAt σ r d q rs) (hok : d.Ok) (hw : d.writes ≤ 1000000000) (hb : BtsV x body) (hl : body.length ≤ 100000000) :
    ∃ p σ', Does Tryz.prog prims 14 [.optr r 0, .int .i64 n, x] σ p σ' ∧ (p = .ret (.int .i64 ((saveD n body d).1 : Nat)) ∧ RNext σ r q σ' (saveD n body d).2) := by
  suffices key : ∀ P : VRes → St → Prop, (∀ p σ', (p = .ret (.int .i64 ((saveD n body d).1 : Nat)) ∧ RNext σ r q σ' (saveD n body d).2) → P p σ') → ∃ p σ', Does Tryz.prog prims 14 [.optr r 0, .int .i64 n, x] σ p σ' ∧ P p σ' from key _ fun _ _ h => h
  intro P hP
  apply k14_is.does (by simp)
  have hlen := hb.len T22
  have oe : ofVal (Value.string { data := #[] }) = some (.str []) := rfl
  have od : ofVal (Value.string { data := #[100, 114, 97, 102, 116] }) = some (.str dr) := rfl
  have hw12 : IntKind.i64.wrap (((body.length : Nat) : Int) + 12) = ((body.length + 12 : Nat) : Int) := by rw [wrap_i64 (by omega) (by omega)]; omega
  obtain ⟨K, hK⟩ : ∃ K, K = seqC Tryz.prog prims 77 ((.seq (.region k14_r12) (.seq (.seq (.region k14_r13) (.cond (.tmp 42) (.region k14_r14) .skip)) (.seq (.seq (.region k14_r15) (.cond (.tmp 46) (.region k14_r16) .skip)) (.seq (.seq (.region k14_r17) (.cond (.tmp 52) (.seq (.region k14_r18) .ret) .skip)) (.seq (.seq (.region k14_r19) (.block 0 (.loop k14_l0))) (.seq (.region k14_r28) .ret)))))) : CC) (fnK Tryz.prog 77 [ResultVar.tmp 6] P) := ⟨_, rfl⟩
  simp only [seqC_seq] at hK
  simp only [k14_a, WK, vop, evAll, evOpt, evParts, vbuiltin, vun, vextract, Nat.reduceLT, Nat.reduceEqDiff, ↓reduceIte, reduceCtorEq, Nat.reduceAdd, Int.reduceLT, Int.reduceNeg, valloc_std, noSB, vhot, gD0, gD1]
  refine KD.ret (rsname_does n) ?_
  by_cases hn : nameP 115 0 n = []
  · have e : saveD n body d = (1, d) := by unfold saveD; rw [if_pos hn]
    simp only [k14_a, WK, vop, evAll, evOpt, evParts, vbuiltin, vun, vextract, Nat.reduceLT, Nat.reduceEqDiff, ↓reduceIte, reduceCtorEq, Nat.reduceAdd, Int.reduceLT, Int.reduceNeg, valloc_std, noSB, vhot, gD0, gD1, oe, sbE, hn, eq_self, decide_true]
    exact hP _ _ (by rw [e]; exact ⟨rfl, RNext.refl h⟩)
  by_cases hlg : 1048564 < body.length
  · have hlg' : (1048576 : Int) < ((body.length + 12 : Nat) : Int) := by omega
    have e : saveD n body d = (3, d) := by unfold saveD; rw [if_neg hn, if_pos hlg]
    simp only [k14_a, WK, vop, evAll, evOpt, evParts, vbuiltin, vun, vextract, Nat.reduceLT, Nat.reduceEqDiff, ↓reduceIte, reduceCtorEq, Nat.reduceAdd, Int.reduceLT, Int.reduceNeg, valloc_std, noSB, vhot, gD0, gD1, oe, sbE, hn, hlen, hw12, hlg', decide_true, decide_false]
    exact hP _ _ (by rw [e]; exact ⟨rfl, RNext.refl h⟩)
  have hlg' : ¬ (1048576 : Int) < ((body.length + 12 : Nat) : Int) := by omega
  cases hon : d.on with
  | false =>
    have hpw := h.power
    rw [hon] at hpw
    have e : saveD n body d = (20, d) := by unfold saveD; rw [if_neg hn, if_neg hlg, if_pos hon]
    simp only [k14_a, WK, vop, evAll, evOpt, evParts, vbuiltin, vun, vextract, Nat.reduceLT, Nat.reduceEqDiff, ↓reduceIte, reduceCtorEq, Nat.reduceAdd, Int.reduceLT, Int.reduceNeg, valloc_std, noSB, vhot, gD0, gD1, oe, sbE, hn, hlen, hw12, hlg', decide_false, rFA r 2 (by omega), hpw, Bool.not_false]
    exact hP _ _ (by rw [e]; exact ⟨rfl, RNext.refl h⟩)
  | true =>
    have hpw := h.power
    rw [hon] at hpw
    have e0 : saveD n body d = thenD (rmDraft d) fun d1 => thenD (appendD dr (encS n body) d1) fun d2 => thenD (syncD dr d2) fun d3 => thenD (renameD dr (nameP 115 0 n) d3) fun d4 => purgeD n (namesD d4) d4 := by
      unfold saveD; rw [if_neg hn, if_neg hlg, if_neg (by simp [hon])]
    obtain ⟨p1, s1, c1, v1, rfl, b1, K1⟩ := rread_sees (n := dr) h hok
    have R1 := (RIn.refl h).still K1
    have tail : ∀ (e : Nat → V) (s : St) (d1 : Dk) (q1 : Option Nat) (rs1 : List RE), e 0 = .optr r 0 → e 1 = .int .i64 n → e 2 = x → RIn σ r q s d1 q1 rs1 → d1.Ok → d1.writes ≤ 1000000001 → saveD n body d = saveRest n body d1 → K .normal e s := by
      intro e s d1 q1 rs1 g0 g1 g2 R1 ok1 hw1 hsv
      obtain ⟨p2, s2, c2, v2, rfl, b2, k2⟩ := rencode_sees (σ := s) (n := n) hb hl
      have hel := encS_len n body
      have R2 := R1.still (k2.ks [])
      obtain ⟨p3, s3, c3, rfl, N3⟩ := rappend_sees (n := dr) R2.at' ok1 (by omega) (.inl b2 : RB s2 v2 (encS n body)) (by omega)
      obtain ⟨ok3, hw3⟩ := append_ok (n := dr) (b := encS n body) ok1
      obtain ⟨q3, rs3, R3⟩ := R2.next N3
      rw [hK]
      simp only [k14_a, WK, vop, evAll, evOpt, evParts, vbuiltin, vun, vextract, Nat.reduceLT, Nat.reduceEqDiff, ↓reduceIte, reduceCtorEq, Nat.reduceAdd, Int.reduceLT, Int.reduceNeg, valloc_std, noSB, vhot, gD0, gD1, g0, g1, g2, od]
      refine KD.ret c2 ?_
      simp only [k14_a, WK, vop, evAll, evOpt, evParts, vbuiltin, vun, vextract, Nat.reduceLT, Nat.reduceEqDiff, ↓reduceIte, reduceCtorEq, Nat.reduceAdd, Int.reduceLT, Int.reduceNeg, valloc_std, noSB, vhot, gD0, gD1, g0, g1, g2, od]
      refine KD.ret c3 ?_
      by_cases e3 : (appendD dr (encS n body) d1).1 = 0
      rotate_left
      · have e3' : ¬ (((appendD dr (encS n body) d1).1 : Nat) : Int) = 0 := by omega
        have er : saveRest n body d1 = appendD dr (encS n body) d1 := by unfold saveRest thenD; rw [if_pos e3]
        simp only [k14_a, WK, vop, evAll, evOpt, evParts, vbuiltin, vun, vextract, Nat.reduceLT, Nat.reduceEqDiff, ↓reduceIte, reduceCtorEq, Nat.reduceAdd, Int.reduceLT, Int.reduceNeg, valloc_std, noSB, vhot, gD0, gD1, e3', decide_false, Bool.not_false]
        exact hP _ _ (by rw [hsv, er]; exact ⟨rfl, R3.out⟩)
      have er3 : saveRest n body d1 = saveRest2 n (appendD dr (encS n body) d1).2 := by unfold saveRest thenD; rw [if_neg (by omega)]; try rfl
      rw [er3] at hsv
      have e3' : (((appendD dr (encS n body) d1).1 : Nat) : Int) = 0 := by omega
      generalize (appendD dr (encS n body) d1).2 = d2 at *
      obtain ⟨p4, s4, c4, rfl, N4⟩ := rsync_sees (n := dr) R3.at' ok3 (by omega)
      obtain ⟨ok4, hw4⟩ := sync_ok (n := dr) ok3
      obtain ⟨q4, rs4, R4⟩ := R3.next N4
      simp only [k14_a, WK, vop, evAll, evOpt, evParts, vbuiltin, vun, vextract, Nat.reduceLT, Nat.reduceEqDiff, ↓reduceIte, reduceCtorEq, Nat.reduceAdd, Int.reduceLT, Int.reduceNeg, valloc_std, noSB, vhot, gD0, gD1, e3', eq_self, decide_true, g0, g1, g2, od]
      refine KD.ret c4 ?_
      by_cases e4 : (syncD dr d2).1 = 0
      rotate_left
      · have e4' : ¬ (((syncD dr d2).1 : Nat) : Int) = 0 := by omega
        have er : saveRest2 n d2 = syncD dr d2 := by unfold saveRest2 thenD; rw [if_pos e4]
        simp only [k14_a, WK, vop, evAll, evOpt, evParts, vbuiltin, vun, vextract, Nat.reduceLT, Nat.reduceEqDiff, ↓reduceIte, reduceCtorEq, Nat.reduceAdd, Int.reduceLT, Int.reduceNeg, valloc_std, noSB, vhot, gD0, gD1, e4', decide_false, Bool.not_false]
        exact hP _ _ (by rw [hsv, er]; exact ⟨rfl, R4.out⟩)
      have er4 : saveRest2 n d2 = saveRest3 n (syncD dr d2).2 := by unfold saveRest2 thenD; rw [if_neg (by omega)]; try rfl
      rw [er4] at hsv
      have e4' : (((syncD dr d2).1 : Nat) : Int) = 0 := by omega
      generalize (syncD dr d2).2 = d3 at *
      obtain ⟨p5, s5, c5, rfl, N5⟩ := rrename_sees (n := dr) (m := nameP 115 0 n) R4.at' ok4 (by omega)
      obtain ⟨ok5, hw5⟩ := rename_ok (n := dr) (m := nameP 115 0 n) ok4
      obtain ⟨q5, rs5, R5⟩ := R4.next N5
      simp only [k14_a, WK, vop, evAll, evOpt, evParts, vbuiltin, vun, vextract, Nat.reduceLT, Nat.reduceEqDiff, ↓reduceIte, reduceCtorEq, Nat.reduceAdd, Int.reduceLT, Int.reduceNeg, valloc_std, noSB, vhot, gD0, gD1, e4', eq_self, decide_true, g0, g1, g2, od]
      refine KD.ret (rsname_does n) ?_
      simp only [k14_a, WK, vop, evAll, evOpt, evParts, vbuiltin, vun, vextract, Nat.reduceLT, Nat.reduceEqDiff, ↓reduceIte, reduceCtorEq, Nat.reduceAdd, Int.reduceLT, Int.reduceNeg, valloc_std, noSB, vhot, gD0, gD1, g0, g1, g2, od]
      refine KD.ret c5 ?_
      by_cases e5 : (renameD dr (nameP 115 0 n) d3).1 = 0
      rotate_left
      · have e5' : ¬ (((renameD dr (nameP 115 0 n) d3).1 : Nat) : Int) = 0 := by omega
        have er : saveRest3 n d3 = renameD dr (nameP 115 0 n) d3 := by unfold saveRest3 thenD; rw [if_pos e5]
        simp only [k14_a, WK, vop, evAll, evOpt, evParts, vbuiltin, vun, vextract, Nat.reduceLT, Nat.reduceEqDiff, ↓reduceIte, reduceCtorEq, Nat.reduceAdd, Int.reduceLT, Int.reduceNeg, valloc_std, noSB, vhot, gD0, gD1, e5', decide_false, Bool.not_false]
        exact hP _ _ (by rw [hsv, er]; exact ⟨rfl, R5.out⟩)
      have er5 : saveRest3 n d3 = purgeD n (namesD (renameD dr (nameP 115 0 n) d3).2) (renameD dr (nameP 115 0 n) d3).2 := by unfold saveRest3 thenD; rw [if_neg (by omega)]
      rw [er5] at hsv
      have e5' : (((renameD dr (nameP 115 0 n) d3).1 : Nat) : Int) = 0 := by omega
      generalize (renameD dr (nameP 115 0 n) d3).2 = d4 at *
      obtain ⟨p6, s6, c6, v6, rfl, r6, K6⟩ := rnames_sees R5.at' ok5
      have R6 := R5.still K6
      obtain ⟨L, hL⟩ : ∃ L, L = namesD d4 := ⟨_, rfl⟩
      have hL16 := namesD_len ok5
      rw [← hL] at r6 hL16 hsv
      have hlv := r6.len TSS
      simp only [k14_a, WK, vop, evAll, evOpt, evParts, vbuiltin, vun, vextract, Nat.reduceLT, Nat.reduceEqDiff, ↓reduceIte, reduceCtorEq, Nat.reduceAdd, Int.reduceLT, Int.reduceNeg, valloc_std, noSB, vhot, gD0, gD1, e5', eq_self, decide_true, Bool.not_true, g0, g1, g2, od]
      refine KD.ret c6 ?_
      simp only [k14_a, WK, vop, evAll, evOpt, evParts, vbuiltin, vun, vextract, Nat.reduceLT, Nat.reduceEqDiff, ↓reduceIte, reduceCtorEq, Nat.reduceAdd, Int.reduceLT, Int.reduceNeg, valloc_std, noSB, vhot, gD0, gD1, hlv]
      refine Ev.loopF (fun (i : Nat) e2 u => e2 57 = .int .i64 (i : Nat) ∧ i ≤ L.length ∧ ∃ dd qu ru, RIn σ r q u dd qu ru ∧ dd.Ok ∧ dd.writes ≤ 1000000100 + i ∧ purgeD n L d4 = purgeD n (L.drop i) dd) (fun i => L.length - i) 0 ?_ ?_
      · exact ⟨by simp [upd_some], Nat.zero_le _, d4, q5, rs5, R6, ok5, by omega, by rw [List.drop_zero]⟩
      rintro i e2 u ⟨k57, hi, dd, qu, ru, RU, okU, hwU, hpU⟩ hf2
      have k0 : e2 0 = .optr r 0 := (hf2 0 (by decide)).trans (by simp [upd_some, g0])
      have k1 : e2 1 = .int .i64 n := (hf2 1 (by decide)).trans (by simp [upd_some, g1])
      have k55 : e2 55 = v6 := (hf2 55 (by decide)).trans (by simp [upd_some])
      have k56 : e2 56 = .int .i64 (L.length : Nat) := (hf2 56 (by decide)).trans (by simp [upd_some])
      clear hf2
      by_cases hlt : i < L.length
      · have hlt' : (i : Int) < (L.length : Nat) := by omega
        have hwi : IntKind.i64.wrap ((i : Int) + 1) = ((i + 1 : Nat) : Int) := by rw [wrap_i64 (by omega) (by omega)]; omega
        have hdrop : L.drop i = L[i] :: L.drop (i + 1) := List.drop_eq_getElem_cons hlt
        simp only [k14_a, WK, vop, evAll, evOpt, evParts, vbuiltin, vun, vextract, Nat.reduceLT, Nat.reduceEqDiff, ↓reduceIte, reduceCtorEq, Nat.reduceAdd, Int.reduceLT, Int.reduceNeg, valloc_std, noSB, vhot, gD0, gD1, k57, k56, k55, hlt', decide_true, vstr_at r6 hlt, vstr_ld hlt]
        refine KD.ret (rsnumber_does L[i]) ?_
        by_cases hz : numZ L[i] < 0 ∨ numZ L[i] = n
        · have hp2 : purgeD n L d4 = purgeD n (L.drop (i + 1)) dd := by rw [hpU, hdrop, purgeD, if_pos hz]
          by_cases hz0 : numZ L[i] < 0
          · have hge : ¬ (0 : Int) ≤ numZ L[i] := by omega
            simp only [k14_a, WK, vop, evAll, evOpt, evParts, vbuiltin, vun, vextract, Nat.reduceLT, Nat.reduceEqDiff, ↓reduceIte, reduceCtorEq, Nat.reduceAdd, Int.reduceLT, Int.reduceNeg, valloc_std, noSB, vhot, gD0, gD1, k57, k1, hge, ge_iff_le, decide_false, hwi]
            exact ⟨i + 1, ⟨by simp [upd_some], by omega, dd, qu, ru, RU, okU, by omega, hp2⟩, by omega⟩
          · have hzn : numZ L[i] = n := hz.resolve_left hz0
            have hge : (0 : Int) ≤ n := by omega
            simp only [k14_a, WK, vop, evAll, evOpt, evParts, vbuiltin, vun, vextract, Nat.reduceLT, Nat.reduceEqDiff, ↓reduceIte, reduceCtorEq, Nat.reduceAdd, Int.reduceLT, Int.reduceNeg, valloc_std, noSB, vhot, gD0, gD1, k57, k1, hzn, hge, ge_iff_le, eq_self, decide_true, decide_false, Bool.not_true, hwi]
            exact ⟨i + 1, ⟨by simp [upd_some], by omega, dd, qu, ru, RU, okU, by omega, hp2⟩, by omega⟩
        · have hge : (0 : Int) ≤ numZ L[i] := by omega
          have hzn : ¬ numZ L[i] = n := fun h => hz (.inr h)
          have hp2 : purgeD n L d4 = thenD (removeD L[i] dd) (purgeD n (L.drop (i + 1))) := by rw [hpU, hdrop, purgeD, if_neg hz]
          obtain ⟨p8, s8, c8, rfl, N8⟩ := rremove_sees (n := L[i]) RU.at' okU (by omega)
          obtain ⟨ok8, hw8⟩ := remove_ok (n := L[i]) okU
          obtain ⟨q8, rs8, R8⟩ := RU.next N8
          simp only [k14_a, WK, vop, evAll, evOpt, evParts, vbuiltin, vun, vextract, Nat.reduceLT, Nat.reduceEqDiff, ↓reduceIte, reduceCtorEq, Nat.reduceAdd, Int.reduceLT, Int.reduceNeg, valloc_std, noSB, vhot, gD0, gD1, k57, k1, k0, hge, hzn, ge_iff_le, decide_true, decide_false, Bool.not_false]
          refine KD.ret c8 ?_
          by_cases e8 : (removeD L[i] dd).1 = 0
          · have e8' : (((removeD L[i] dd).1 : Nat) : Int) = 0 := by omega
            have hp3 : purgeD n L d4 = purgeD n (L.drop (i + 1)) (removeD L[i] dd).2 := by rw [hp2]; unfold thenD; rw [if_neg (by omega)]
            simp only [k14_a, WK, vop, evAll, evOpt, evParts, vbuiltin, vun, vextract, Nat.reduceLT, Nat.reduceEqDiff, ↓reduceIte, reduceCtorEq, Nat.reduceAdd, Int.reduceLT, Int.reduceNeg, valloc_std, noSB, vhot, gD0, gD1, k57, e8', eq_self, decide_true, Bool.not_true, hwi]
            exact ⟨i + 1, ⟨by simp [upd_some], by omega, _, q8, rs8, R8, ok8, by omega, hp3⟩, by omega⟩
          · have e8' : ¬ (((removeD L[i] dd).1 : Nat) : Int) = 0 := by omega
            have hp3 : purgeD n L d4 = removeD L[i] dd := by rw [hp2]; unfold thenD; rw [if_pos e8]
            simp only [k14_a, WK, vop, evAll, evOpt, evParts, vbuiltin, vun, vextract, Nat.reduceLT, Nat.reduceEqDiff, ↓reduceIte, reduceCtorEq, Nat.reduceAdd, Int.reduceLT, Int.reduceNeg, valloc_std, noSB, vhot, gD0, gD1, e8', decide_false, Bool.not_false]
            exact hP _ _ (by rw [hsv, hp3]; exact ⟨rfl, R8.out⟩)
      · have hlt' : ¬ (i : Int) < (L.length : Nat) := by omega
        have hp2 : purgeD n L d4 = (0, dd) := by rw [hpU, List.drop_of_length_le (by omega), purgeD]
        simp only [k14_a, WK, vop, evAll, evOpt, evParts, vbuiltin, vun, vextract, Nat.reduceLT, Nat.reduceEqDiff, ↓reduceIte, reduceCtorEq, Nat.reduceAdd, Int.reduceLT, Int.reduceNeg, valloc_std, noSB, vhot, gD0, gD1, k57, k56, hlt', decide_false]
        exact hP _ _ (by rw [hsv, hp2]; exact ⟨rfl, RU.out⟩)
    simp only [k14_a, WK, vop, evAll, evOpt, evParts, vbuiltin, vun, vextract, Nat.reduceLT, Nat.reduceEqDiff, ↓reduceIte, reduceCtorEq, Nat.reduceAdd, Int.reduceLT, Int.reduceNeg, valloc_std, noSB, vhot, gD0, gD1, oe, sbE, hn, hlen, hw12, hlg', decide_false, rFA r 2 (by omega), hpw, Bool.not_true, od]
    refine KD.ret c1 ?_
    simp only [seqC_seq]
    rw [← hK]
    by_cases hrd : (readD dr d).1 = 0
    · have hrd' : (((readD dr d).1 : Nat) : Int) = 0 := by omega
      obtain ⟨p2, s2, c2, rfl, N2⟩ := rremove_sees (n := dr) R1.at' hok (by omega)
      obtain ⟨ok2, hw2⟩ := remove_ok (n := dr) hok
      obtain ⟨q2, rs2, R2⟩ := R1.next N2
      simp only [k14_a, WK, vop, evAll, evOpt, evParts, vbuiltin, vun, vextract, Nat.reduceLT, Nat.reduceEqDiff, ↓reduceIte, reduceCtorEq, Nat.reduceAdd, Int.reduceLT, Int.reduceNeg, valloc_std, noSB, vhot, gD0, gD1, od, hrd', eq_self, decide_true]
      refine KD.ret c2 ?_
      by_cases e2 : (removeD dr d).1 = 0
      · have e2' : (((removeD dr d).1 : Nat) : Int) = 0 := by omega
        simp only [k14_a, WK, vop, evAll, evOpt, evParts, vbuiltin, vun, vextract, Nat.reduceLT, Nat.reduceEqDiff, ↓reduceIte, reduceCtorEq, Nat.reduceAdd, Int.reduceLT, Int.reduceNeg, valloc_std, noSB, vhot, gD0, gD1, e2', eq_self, decide_true, Bool.not_true]
        refine tail _ s2 _ q2 rs2 ?_ ?_ ?_ R2 ok2 (by omega) ?_
        · simp [upd_some]
        · simp [upd_some]
        · simp [upd_some]
        · rw [e0]; unfold rmDraft; rw [if_pos hrd]; unfold thenD; rw [if_neg (by omega)]; try rfl
      · have e2' : ¬ (((removeD dr d).1 : Nat) : Int) = 0 := by omega
        have er : saveD n body d = removeD dr d := by rw [e0]; unfold rmDraft; rw [if_pos hrd]; unfold thenD; rw [if_pos e2]
        simp only [k14_a, WK, vop, evAll, evOpt, evParts, vbuiltin, vun, vextract, Nat.reduceLT, Nat.reduceEqDiff, ↓reduceIte, reduceCtorEq, Nat.reduceAdd, Int.reduceLT, Int.reduceNeg, valloc_std, noSB, vhot, gD0, gD1, e2', decide_false, Bool.not_false]
        rw [hK]
        simp only [k14_a, WK, vop, evAll, evOpt, evParts, vbuiltin, vun, vextract, Nat.reduceLT, Nat.reduceEqDiff, ↓reduceIte, reduceCtorEq, Nat.reduceAdd, Int.reduceLT, Int.reduceNeg, valloc_std, noSB, vhot, gD0, gD1]
        exact hP _ _ (by rw [er]; exact ⟨rfl, R2.out⟩)
    · have hrd' : ¬ (((readD dr d).1 : Nat) : Int) = 0 := by omega
      simp only [k14_a, WK, vop, evAll, evOpt, evParts, vbuiltin, vun, vextract, Nat.reduceLT, Nat.reduceEqDiff, ↓reduceIte, reduceCtorEq, Nat.reduceAdd, Int.reduceLT, Int.reduceNeg, valloc_std, noSB, vhot, gD0, gD1, od, hrd', decide_false]
      refine tail _ s1 d q rs ?_ ?_ ?_ R1 hok (by omega) ?_
      · simp [upd_some]
      · simp [upd_some]
      · simp [upd_some]
      · rw [e0]; unfold rmDraft; rw [if_neg hrd]; unfold thenD; rw [if_neg (by simp)]; try rfl
theorem rload_sees {σ : St} {r : Nat} {d : Dk} {q : Option Nat} {rs : List RE} (h : RefAt σ r d q rs) (hok : d.Ok) :
    ∃ p σ', Does Tryz.prog prims 16 [.optr r 0] σ p σ' ∧ ∃ v, p = .ret (.tuple [.int .i64 (loadD d).1.1, v, .int .i64 ((loadD d).2 : Nat)]) ∧ BtsV v (loadD d).1.2 ∧ KS [] σ σ' := by
  apply k16_is.does (by simp)
  cases hon : d.on with
  | false =>
    have hpw := h.power
    rw [hon] at hpw
    have e : loadD d = ((0, []), 20) := by unfold loadD; rw [if_pos hon]
    simp only [k16_a, WK, vop, evAll, evOpt, evParts, vbuiltin, vun, vextract, Nat.reduceLT, Nat.reduceEqDiff, ↓reduceIte, reduceCtorEq, Nat.reduceAdd, Int.reduceLT, Int.reduceNeg, valloc_std, noSB, vhot, gD0, gD1, nilEP, rFA r 2 (by omega), hpw, Bool.not_false, e]
    exact ⟨.nils, rfl, .inl ⟨rfl, rfl⟩, KS.refl _ _⟩
  | true =>
    have hpw := h.power
    rw [hon] at hpw
    have e : loadD d = (loadN d (namesD d) (-1, []), 0) := by unfold loadD; rw [if_neg (by simp [hon])]
    rw [e]
    obtain ⟨p1, s1, c1, v1, rfl, r1, K1⟩ := rnames_sees h hok
    have hL16 := namesD_len hok
    generalize hL : namesD d = L at r1 hL16
    have hlv := r1.len TSS
    simp only [k16_a, WK, vop, evAll, evOpt, evParts, vbuiltin, vun, vextract, Nat.reduceLT, Nat.reduceEqDiff, ↓reduceIte, reduceCtorEq, Nat.reduceAdd, Int.reduceLT, Int.reduceNeg, valloc_std, noSB, vhot, gD0, gD1, nilEP, rFA r 2 (by omega), hpw, Bool.not_true]
    refine KD.ret c1 ?_
    simp only [k16_a, WK, vop, evAll, evOpt, evParts, vbuiltin, vun, vextract, Nat.reduceLT, Nat.reduceEqDiff, ↓reduceIte, reduceCtorEq, Nat.reduceAdd, Int.reduceLT, Int.reduceNeg, valloc_std, noSB, vhot, gD0, gD1, hlv]
    refine Ev.loopF (fun (i : Nat) e s => e 22 = .int .i64 (i : Nat) ∧ i ≤ L.length ∧ ∃ best, e 5 = .int .i64 best.1 ∧ BtsV (e 6) best.2 ∧ loadN d L (-1, []) = loadN d (L.drop i) best ∧ KS [] σ s) (fun i => L.length - i) 0 ?_ ?_
    · exact ⟨by simp [upd_some], Nat.zero_le _, (-1, []), by simp [upd_some], by simp [upd_some, BtsV], by rw [List.drop_zero], K1⟩
    rintro i e s ⟨h22, hi, best, h5, h6, hlo, hk⟩ hf
    have g0 : e 0 = .optr r 0 := (hf 0 (by decide)).trans (by simp [upd_some])
    have g20 : e 20 = v1 := (hf 20 (by decide)).trans (by simp [upd_some])
    have g21 : e 21 = .int .i64 (L.length : Nat) := (hf 21 (by decide)).trans (by simp [upd_some])
    clear hf
    by_cases hlt : i < L.length
    · have hlt' : (i : Int) < (L.length : Nat) := by omega
      have hwi : IntKind.i64.wrap ((i : Int) + 1) = ((i + 1 : Nat) : Int) := by rw [wrap_i64 (by omega) (by omega)]; omega
      have hdrop : L.drop i = L[i] :: L.drop (i + 1) := List.drop_eq_getElem_cons hlt
      simp only [k16_a, WK, vop, evAll, evOpt, evParts, vbuiltin, vun, vextract, Nat.reduceLT, Nat.reduceEqDiff, ↓reduceIte, reduceCtorEq, Nat.reduceAdd, Int.reduceLT, Int.reduceNeg, valloc_std, noSB, vhot, gD0, gD1, h22, g20, g21, hlt', decide_true, vstr_at r1 hlt, vstr_ld hlt]
      refine KD.ret (rsnumber_does L[i]) ?_
      by_cases hz0 : numZ L[i] < 0
      · simp only [k16_a, WK, vop, evAll, evOpt, evParts, vbuiltin, vun, vextract, Nat.reduceLT, Nat.reduceEqDiff, ↓reduceIte, reduceCtorEq, Nat.reduceAdd, Int.reduceLT, Int.reduceNeg, valloc_std, noSB, vhot, gD0, gD1, h22, hz0, decide_true, hwi]
        exact ⟨i + 1, ⟨by simp [upd_some], by omega, best, by simp [upd_some, h5], by simpa [upd_some] using h6, by rw [hlo, hdrop, loadN, if_pos hz0], hk⟩, by omega⟩
      obtain ⟨p3, s3, c3, v3, rfl, b3, K3⟩ := rread_sees (n := L[i]) (h.pushes hk) hok
      have hrl := readD_len hok L[i]
      obtain ⟨p5, s5, c5, v5, rfl, o5, K5⟩ := rdecode_sees (σ := s3) (n := numZ L[i]) b3 (by omega)
      have Kall : KS [] σ s5 := (hk.trans' K3).trans' (K5.ks [])
      simp only [k16_a, WK, vop, evAll, evOpt, evParts, vbuiltin, vun, vextract, Nat.reduceLT, Nat.reduceEqDiff, ↓reduceIte, reduceCtorEq, Nat.reduceAdd, Int.reduceLT, Int.reduceNeg, valloc_std, noSB, vhot, gD0, gD1, h22, g0, hz0, decide_false]
      refine KD.ret c3 ?_
      simp only [k16_a, WK, vop, evAll, evOpt, evParts, vbuiltin, vun, vextract, Nat.reduceLT, Nat.reduceEqDiff, ↓reduceIte, reduceCtorEq, Nat.reduceAdd, Int.reduceLT, Int.reduceNeg, valloc_std, noSB, vhot, gD0, gD1]
      refine KD.ret c5 ?_
      by_cases hd : (decS (numZ L[i]) (readD L[i] d).2).2 = 0
      · have hd' : (((decS (numZ L[i]) (readD L[i] d).2).2 : Nat) : Int) = 0 := by omega
        simp only [k16_a, WK, vop, evAll, evOpt, evParts, vbuiltin, vun, vextract, Nat.reduceLT, Nat.reduceEqDiff, ↓reduceIte, reduceCtorEq, Nat.reduceAdd, Int.reduceLT, Int.reduceNeg, valloc_std, noSB, vhot, gD0, gD1, h22, hd', eq_self, decide_true, hwi]
        exact ⟨i + 1, ⟨by simp [upd_some], by omega, (numZ L[i], (decS (numZ L[i]) (readD L[i] d).2).1), by simp [upd_some], by simpa [upd_some] using o5, by rw [hlo, hdrop, loadN, if_neg hz0, if_pos hd], Kall⟩, by omega⟩
      · have hd' : ¬ (((decS (numZ L[i]) (readD L[i] d).2).2 : Nat) : Int) = 0 := by omega
        simp only [k16_a, WK, vop, evAll, evOpt, evParts, vbuiltin, vun, vextract, Nat.reduceLT, Nat.reduceEqDiff, ↓reduceIte, reduceCtorEq, Nat.reduceAdd, Int.reduceLT, Int.reduceNeg, valloc_std, noSB, vhot, gD0, gD1, h22, hd', decide_false, hwi]
        exact ⟨i + 1, ⟨by simp [upd_some], by omega, best, by simp [upd_some, h5], by simpa [upd_some] using h6, by rw [hlo, hdrop, loadN, if_neg hz0, if_neg hd], Kall⟩, by omega⟩
    · have hlt' : ¬ (i : Int) < (L.length : Nat) := by omega
      have hdrop : L.drop i = [] := List.drop_of_length_le (by omega)
      rw [hlo, hdrop, loadN]
      simp only [k16_a, WK, vop, evAll, evOpt, evParts, vbuiltin, vun, vextract, Nat.reduceLT, Nat.reduceEqDiff, ↓reduceIte, reduceCtorEq, Nat.reduceAdd, Int.reduceLT, Int.reduceNeg, valloc_std, noSB, vhot, gD0, gD1, h22, g21, hlt', decide_false, h5]
      exact ⟨e 6, rfl, h6, hk⟩
theorem held5_sees {σ : St} {r rm r2 : Nat} {d : Dk} {fs : List Ent} {q : Option Nat} {rs : List RE} (h : DiskAt σ r d rm fs) (h2 : RefAt σ r2 d q rs) (hok : d.Ok) :
    ∃ p σ', Does Tryz.prog prims 24 [.optr r 0, .optr r2 0] σ p σ' ∧ (p = .ret (.bool true) ∧ KS [] σ σ') := by
  apply k24_is.does (by simp)
  obtain ⟨p1, s1, d1, v5, q5, rfl, n5, K1, I1⟩ := names_sees h hok
  obtain ⟨p2, s2, d2, v6, rfl, n6, K2⟩ := rnames_sees (h2.pushes K1) hok
  have Kσ2 : KS [] σ s2 := K1.trans' K2
  have R5 : RowS s2 1 v5 ((namesD d).map V.str) (namesD d).length := (row_strs n5).keep K2.keep
  have R6 : RowS s2 1 v6 ((namesD d).map V.str) (namesD d).length := .inl n6
  have D2 := h.pushes Kσ2
  have F2 := h2.pushes Kσ2
  have hdown := down_does D2
  have hwr := writes_does D2
  obtain ⟨fv, o2, hR2⟩ := F2.hd
  have lp : vload Tryz.prog s2.objs 4 (.optr r2 2) = some (.bool d.on) := by rw [vload_obj o2 G4]; rfl
  have lc : vload Tryz.prog s2.objs 3 (.optr r2 3) = some (.int .i64 (d.writes : Nat)) := by rw [vload_obj o2 G3]; rfl
  have hbb : ((!d.on) == d.on) = false := by cases d.on <;> rfl
  simp only [k24_a, WK, vop, evAll, evOpt, evParts, vbuiltin, vun, vextract, Nat.reduceLT, Nat.reduceEqDiff, ↓reduceIte, reduceCtorEq, Nat.reduceAdd, Int.reduceLT, Int.reduceNeg, valloc_std, noSB, vhot, gD0, gD1]
  refine KD.ret d1 ?_
  simp only [k24_a, WK, vop, evAll, evOpt, evParts, vbuiltin, vun, vextract, Nat.reduceLT, Nat.reduceEqDiff, ↓reduceIte, reduceCtorEq, Nat.reduceAdd, Int.reduceLT, Int.reduceNeg, valloc_std, noSB, vhot, gD0, gD1]
  refine KD.ret d2 ?_
  simp only [k24_a, WK, vop, evAll, evOpt, evParts, vbuiltin, vun, vextract, Nat.reduceLT, Nat.reduceEqDiff, ↓reduceIte, reduceCtorEq, Nat.reduceAdd, Int.reduceLT, Int.reduceNeg, valloc_std, noSB, vhot, gD0, gD1, R5.len TSS, R6.len TSS, eq_self, decide_true, Bool.not_true]
  refine KD.ret hdown ?_
  simp only [k24_a, WK, vop, evAll, evOpt, evParts, vbuiltin, vun, vextract, Nat.reduceLT, Nat.reduceEqDiff, ↓reduceIte, reduceCtorEq, Nat.reduceAdd, Int.reduceLT, Int.reduceNeg, valloc_std, noSB, vhot, gD0, gD1, rFA r2 2 (by omega), lp, eqlB 4 rfl, hbb]
  refine KD.ret hwr ?_
  simp only [k24_a, WK, vop, evAll, evOpt, evParts, vbuiltin, vun, vextract, Nat.reduceLT, Nat.reduceEqDiff, ↓reduceIte, reduceCtorEq, Nat.reduceAdd, Int.reduceLT, Int.reduceNeg, valloc_std, noSB, vhot, gD0, gD1, rFA r2 2 (by omega), rFA r2 3 (by omega), lp, lc, eq_self, decide_true, Bool.not_true, R5.len TSS]
  refine Ev.loopF (fun (i : Nat) e s => e 41 = .int .i64 (i : Nat) ∧ i ≤ (namesD d).length ∧ KS [] s2 s) (fun i => (namesD d).length - i) 0 ⟨by simp [upd_some], Nat.zero_le _, KS.refl _ _⟩ ?_
  rintro i e s ⟨h41, hi, hk⟩ hf
  have g0 : e 0 = .optr r 0 := (hf 0 (by decide)).trans (by simp [upd_some])
  have g1 : e 1 = .optr r2 0 := (hf 1 (by decide)).trans (by simp [upd_some])
  have g5 : e 5 = v5 := (hf 5 (by decide)).trans (by simp [upd_some])
  have g6 : e 6 = v6 := (hf 6 (by decide)).trans (by simp [upd_some])
  have g40 : e 40 = .int .i64 ((namesD d).length : Nat) := (hf 40 (by decide)).trans (by simp [upd_some])
  clear hf
  by_cases hlt : i < (namesD d).length
  · have hlt' : (i : Int) < (namesD d).length := by omega
    have hn16 := namesD_len hok
    have hwi : IntKind.i64.wrap ((i : Int) + 1) = ((i + 1 : Nat) : Int) := by rw [show ((i : Int) + 1) = ((i + 1 : Nat) : Int) from by omega]; exact wrap_nat (by omega)
    obtain ⟨a5, a5a, a5l⟩ := R5.strAt hlt
    obtain ⟨a6, a6a, a6l⟩ := R6.strAt hlt
    obtain ⟨p3, s3, d3, v8, q8, rfl, n8, K3, I3⟩ := read_sees (n := (namesD d)[i]) (D2.pushes hk) hok
    obtain ⟨p4, s4, d4, v10, rfl, n10, K4⟩ := rread_sees (n := (namesD d)[i]) ((F2.pushes hk).pushes K3) hok
    have hk3 := hk.trans' K3
    have hk4 := hk3.trans' K4
    have hrb : RB s4 v8 (readD (namesD d)[i] d).2 := rowOf_rb (rowOf_frame n8 fun x hx o ho => K4.ko _ _ (by simp) ho)
    have hsame := same5_does hrb (.inl n10 : RB s4 v10 _) (by have := readD_len hok (namesD d)[i]; omega)
    rw [decide_eq_true rfl] at hsame
    simp only [k24_a, WK, vop, evAll, evOpt, evParts, vbuiltin, vun, vextract, Nat.reduceLT, Nat.reduceEqDiff, ↓reduceIte, reduceCtorEq, Nat.reduceAdd, Int.reduceLT, Int.reduceNeg, valloc_std, noSB, vhot, h41, g40, g5, g0, hlt', decide_true, a5a, a5l s hk]
    refine KD.ret d3 ?_
    simp only [k24_a, WK, vop, evAll, evOpt, evParts, vbuiltin, vun, vextract, Nat.reduceLT, Nat.reduceEqDiff, ↓reduceIte, reduceCtorEq, Nat.reduceAdd, Int.reduceLT, Int.reduceNeg, valloc_std, noSB, vhot, g6, g1, a6a, a6l s3 hk3]
    refine KD.ret d4 ?_
    simp only [k24_a, WK, vop, evAll, evOpt, evParts, vbuiltin, vun, vextract, Nat.reduceLT, Nat.reduceEqDiff, ↓reduceIte, reduceCtorEq, Nat.reduceAdd, Int.reduceLT, Int.reduceNeg, valloc_std, noSB, vhot, g5, g6, a5a, a6a, a5l s4 hk4, a6l s4 hk4, sbN, eq_self, decide_true, Bool.not_true]
    refine KD.ret hsame ?_
    simp only [k24_a, WK, vop, evAll, evOpt, evParts, vbuiltin, vun, vextract, Nat.reduceLT, Nat.reduceEqDiff, ↓reduceIte, reduceCtorEq, Nat.reduceAdd, Int.reduceLT, Int.reduceNeg, valloc_std, noSB, vhot, g5, g6, a5a, a6a, a5l s4 hk4, a6l s4 hk4, h41, hwi, Bool.not_true]
    exact ⟨i + 1, ⟨by simp [upd_some], by omega, hk4⟩, by omega⟩
  · have hlt' : ¬ (i : Int) < (namesD d).length := by omega
    simp only [k24_a, WK, vop, evAll, evOpt, evParts, vbuiltin, vun, vextract, Nat.reduceLT, Nat.reduceEqDiff, ↓reduceIte, reduceCtorEq, Nat.reduceAdd, Int.reduceLT, Int.reduceNeg, valloc_std, noSB, vhot, h41, g40, hlt', decide_false]
    exact Kσ2.trans' hk
theorem one_of' {cs : List V} {i : Nat} {v : V} (h : (cs.drop i).take 1 = [v]) : cs[i]? = some v := by
  have : ((cs.drop i).take 1)[0]? = some v := by rw [h]; rfl
  simpa using this
structure FA where
  name : List UInt8
  bv : V
  b : List UInt8
def FA.cells (f : FA) : List V := [.str f.name, f.bv]
structure FA.Ok (f : FA) : Prop where
  b : BtsV f.bv f.b
  bl : f.b.length ≤ 2000000
structure OA where
  kind : Int
  n : Int
  k : Int
  bv : V
  b : List UInt8
def OA.cells (o : OA) : List V := [.int .i64 o.kind, .int .i64 o.n, .int .i64 o.k, o.bv]
structure OA.Ok (o : OA) : Prop where
  b : BtsV o.bv o.b
  bl : o.b.length ≤ 2000000
  n : InI64 o.n
  k : InI64 o.k
theorem FA.cells_len (f : FA) : f.cells.length = 2 := rfl
theorem OA.cells_len (o : OA) : o.cells.length = 4 := rfl
theorem FA.one {f : FA} (h : BtsV f.bv f.b) : f.cells.all Q.one = true := by
  simp only [FA.cells, List.all_cons, List.all_nil, h.one, Bool.and_true]
  rfl
theorem OA.one {o : OA} (h : BtsV o.bv o.b) : o.cells.all Q.one = true := by
  simp only [OA.cells, List.all_cons, List.all_nil, h.one, Bool.and_true]
  rfl
theorem FAat {σ : St} {q : Nat} {f : FA} (h : σ.objs[q]? = some (.cells f.cells)) : vload Tryz.prog σ.objs 9 (.optr q 0) = some (.str f.name) ∧ vload Tryz.prog σ.objs 30 (.optr q 1) = some f.bv := by
  have g9 : isAggT Tryz.prog 9 = some false := by kernel_rfl
  refine ⟨?_, ?_⟩
  · rw [vload_obj h g9]; rfl
  · rw [vload_obj h pGB]; rfl
theorem OAat {σ : St} {q : Nat} {o : OA} (h : σ.objs[q]? = some (.cells o.cells)) : vload Tryz.prog σ.objs 3 (.optr q 0) = some (.int .i64 o.kind) ∧ vload Tryz.prog σ.objs 3 (.optr q 1) = some (.int .i64 o.n) ∧ vload Tryz.prog σ.objs 3 (.optr q 2) = some (.int .i64 o.k) ∧ vload Tryz.prog σ.objs 30 (.optr q 3) = some o.bv := by
  refine ⟨?_, ?_, ?_, ?_⟩
  · rw [vload_obj h G3]; rfl
  · rw [vload_obj h G3]; rfl
  · rw [vload_obj h G3]; rfl
  · rw [vload_obj h pGB]; rfl
def FsV (w : V) (l : List FA) : Prop := RowV 2 w (l.flatMap FA.cells) l.length
def OsV (w : V) (l : List OA) : Prop := RowV 4 w (l.flatMap OA.cells) l.length
theorem FOFi5 : fieldsOf Tryz.prog 32 = [(9, 0), (30, 1)] := by kernel_rfl
theorem FOOp5 : fieldsOf Tryz.prog 37 = [(3, 0), (3, 1), (3, 2), (30, 3)] := by kernel_rfl
theorem COFi5 : Tryz.prog.cellsOf 32 = 2 := by kernel_rfl
theorem COOp5 : Tryz.prog.cellsOf 37 = 4 := by kernel_rfl
theorem TFs5 : Tryz.prog.underlying 22 = some (.slice 32) := by kernel_rfl
theorem TOs5 : Tryz.prog.underlying 23 = some (.slice 37) := by kernel_rfl
theorem SFi5 : sizeT Tryz.prog 32 = some 2 := by kernel_rfl
theorem SOp5 : sizeT Tryz.prog 37 = some 4 := by kernel_rfl
theorem GFi5 : isAggT Tryz.prog 32 = some true := by kernel_rfl
theorem GOp5 : isAggT Tryz.prog 37 = some true := by kernel_rfl
theorem ZFi5 : zeroT Tryz.prog 32 = some (.agg [.str [], .nils]) := by kernel_rfl
theorem ZOp5 : zeroT Tryz.prog 37 = some (.agg [.int .i64 0, .int .i64 0, .int .i64 0, .nils]) := by kernel_rfl
theorem fi50 (r : Nat) : vfieldAddr Tryz.prog 32 (.optr r 0) 0 = some (.optr r 0) := by kernel_rfl
theorem fi51 (r : Nat) : vfieldAddr Tryz.prog 32 (.optr r 0) 1 = some (.optr r 1) := by kernel_rfl
theorem op50 (r : Nat) : vfieldAddr Tryz.prog 37 (.optr r 0) 0 = some (.optr r 0) := by kernel_rfl
theorem op51 (r : Nat) : vfieldAddr Tryz.prog 37 (.optr r 0) 1 = some (.optr r 1) := by kernel_rfl
theorem op52 (r : Nat) : vfieldAddr Tryz.prog 37 (.optr r 0) 2 = some (.optr r 2) := by kernel_rfl
theorem op53 (r : Nat) : vfieldAddr Tryz.prog 37 (.optr r 0) 3 = some (.optr r 3) := by kernel_rfl
theorem fi_VT5 {k : Nat} {cs : List V} (h : VT Tryz.prog k 32 cs) : ∃ o : FA, cs = o.cells ∧ BtsV o.bv o.b := by
  obtain ⟨k', hl, hf⟩ := VT_struct FOFi5 h
  rw [COFi5] at hl
  simp only [List.mem_cons, List.not_mem_nil, or_false, forall_eq_or_imp, forall_eq, COs, COb] at hf
  obtain ⟨f0, f1⟩ := hf
  obtain ⟨s, h0, w0⟩ := VT_str T9 f0
  obtain ⟨w, bs, h1, hb⟩ := bts_VT f1
  refine ⟨⟨s, w, bs⟩, ?_, hb⟩
  have h0 := one_of' h0
  have h1 := one_of' h1
  match cs, hl with
  | [x0, x1], _ =>
    simp at h0 h1
    simp [FA.cells, h0, h1]
theorem op_VT5 {k : Nat} {cs : List V} (h : VT Tryz.prog k 37 cs) : ∃ o : OA, cs = o.cells ∧ BtsV o.bv o.b ∧ InI64 o.n ∧ InI64 o.k := by
  obtain ⟨k', hl, hf⟩ := VT_struct FOOp5 h
  rw [COOp5] at hl
  simp only [List.mem_cons, List.not_mem_nil, or_false, forall_eq_or_imp, forall_eq, COi, COb] at hf
  obtain ⟨f0, f1, f2, f3⟩ := hf
  obtain ⟨a, h0, w0⟩ := VT_int T3 f0
  obtain ⟨n, h1, w1⟩ := VT_int T3 f1
  obtain ⟨m, h2, w2⟩ := VT_int T3 f2
  obtain ⟨w, bs, h3, hb⟩ := bts_VT f3
  refine ⟨⟨a, n, m, w, bs⟩, ?_, hb, InI64_of w1, InI64_of w2⟩
  have h0 := one_of' h0
  have h1 := one_of' h1
  have h2 := one_of' h2
  have h3 := one_of' h3
  match cs, hl with
  | [x0, x1, x2, x3], _ =>
    simp at h0 h1 h2 h3
    simp [OA.cells, h0, h1, h2, h3]
theorem fs_arg5 {x : V} (h : ArgT Tryz.prog 22 x) (hb : vbulk x ≤ 2000000) : ∃ l, FsV x l ∧ (∀ o ∈ l, o.Ok) ∧ l.length ≤ vbulk x := by
  obtain ⟨k, hv⟩ : ∃ k, VT Tryz.prog k 22 [x] := by
    unfold ArgT at h
    rw [TFs5] at h
    exact h
  obtain ⟨k', hc⟩ := VT_slice TFs5 hv
  rcases hc with hc | ⟨vs, len, hc, h1, h2, h3⟩
  · injection hc with hc
    subst hc
    exact ⟨[], ⟨rfl, .inl ⟨rfl, rfl⟩⟩, fun o ho => (by cases ho), by simp⟩
  · injection hc with hc
    subst hc
    rw [COFi5] at h1 h3 ⊢
    obtain ⟨l, rfl, hl, hR⟩ := rows_of (f := FA.cells) (R := fun o : FA => BtsV o.bv o.b) len vs h1 fun i hi => by
      obtain ⟨o, e, ho⟩ := fi_VT5 (h3 i hi)
      exact ⟨o, e, ho⟩
    subst hl
    have hbl := bulk_len FA.cells_len (by omega) l
    refine ⟨l, ⟨flat_len FA.cells_len l, .inr ⟨.ro, rfl⟩⟩, fun o ho => ?_, ?_⟩
    · have b1 := hR o ho
      have h4 := bulk_mem (f := FA.cells) ho
      have h5 := bts_bulk b1
      simp only [FA.cells, vbulks] at h4
      rw [COFi5] at hb
      simp only [vbulk] at hb
      exact ⟨b1, by omega⟩
    · simp only [vbulk]; omega
theorem os_arg5 {x : V} (h : ArgT Tryz.prog 23 x) (hb : vbulk x ≤ 2000000) : ∃ l, OsV x l ∧ (∀ o ∈ l, o.Ok) ∧ l.length ≤ vbulk x := by
  obtain ⟨k, hv⟩ : ∃ k, VT Tryz.prog k 23 [x] := by
    unfold ArgT at h
    rw [TOs5] at h
    exact h
  obtain ⟨k', hc⟩ := VT_slice TOs5 hv
  rcases hc with hc | ⟨vs, len, hc, h1, h2, h3⟩
  · injection hc with hc
    subst hc
    exact ⟨[], ⟨rfl, .inl ⟨rfl, rfl⟩⟩, fun o ho => (by cases ho), by simp⟩
  · injection hc with hc
    subst hc
    rw [COOp5] at h1 h3 ⊢
    obtain ⟨l, rfl, hl, hR⟩ := rows_of (f := OA.cells) (R := fun o : OA => BtsV o.bv o.b ∧ InI64 o.n ∧ InI64 o.k) len vs h1 fun i hi => by
      obtain ⟨o, e, ho⟩ := op_VT5 (h3 i hi)
      exact ⟨o, e, ho⟩
    subst hl
    have hbl := bulk_len OA.cells_len (by omega) l
    refine ⟨l, ⟨flat_len OA.cells_len l, .inr ⟨.ro, rfl⟩⟩, fun o ho => ?_, ?_⟩
    · obtain ⟨b1, b2, b3⟩ := hR o ho
      have h4 := bulk_mem (f := OA.cells) ho
      have h5 := bts_bulk b1
      simp only [OA.cells, vbulks] at h4
      rw [COOp5] at hb
      simp only [vbulk] at hb
      exact ⟨b1, by omega, b2, b3⟩
    · simp only [vbulk]; omega
theorem FsV.len5 {v : V} {l : List FA} (h : FsV v l) : vlen Tryz.prog 22 v = some (.int .i64 l.length) := RowV.len h TFs5
theorem OsV.len5 {v : V} {l : List OA} (h : OsV v l) : vlen Tryz.prog 23 v = some (.int .i64 l.length) := RowV.len h TOs5
theorem FsV.addr5 {v : V} {l : List FA} (h : FsV v l) {i : Nat} (hi : i < l.length) : vindexAddr Tryz.prog 22 v (.int .i64 i) = some (.eptr (l.flatMap FA.cells) (i * 2)) := by
  have := RowV.addr h TFs5 SFi5 (by omega) (kk := .i64) (i := i) (by omega) (by omega)
  rwa [Int.toNat_natCast] at this
theorem OsV.addr5 {v : V} {l : List OA} (h : OsV v l) {i : Nat} (hi : i < l.length) : vindexAddr Tryz.prog 23 v (.int .i64 i) = some (.eptr (l.flatMap OA.cells) (i * 4)) := by
  have := RowV.addr h TOs5 SOp5 (by omega) (kk := .i64) (i := i) (by omega) (by omega)
  rwa [Int.toNat_natCast] at this
theorem FsV.load5 {l : List FA} {i : Nat} (hi : i < l.length) {objs : List Ob} : vload Tryz.prog objs 32 (.eptr (l.flatMap FA.cells) (i * 2)) = some (.agg l[i].cells) := load_part FA.cells_len hi GFi5 SFi5
theorem OsV.load5 {l : List OA} {i : Nat} (hi : i < l.length) {objs : List Ob} : vload Tryz.prog objs 37 (.eptr (l.flatMap OA.cells) (i * 4)) = some (.agg l[i].cells) := load_part OA.cells_len hi GOp5 SOp5
theorem fiNew5 {σ : St} {o : FA} (h : BtsV o.bv o.b) : vstore Tryz.prog ⟨σ.objs ++ [.cells [.str [], .nils]], σ.toks⟩ 32 (.optr σ.objs.length 0) (.agg o.cells) = some ⟨σ.objs ++ [.cells o.cells], σ.toks⟩ := by
  rw [vstore_agg (cs := [.str [], .nils]) (cs' := o.cells) (push_new _ _) (by rw [SFi5]; rfl) rfl (FA.one h)]
  simp
theorem opNew5 {σ : St} {o : OA} (h : BtsV o.bv o.b) : vstore Tryz.prog ⟨σ.objs ++ [.cells [.int .i64 0, .int .i64 0, .int .i64 0, .nils]], σ.toks⟩ 37 (.optr σ.objs.length 0) (.agg o.cells) = some ⟨σ.objs ++ [.cells o.cells], σ.toks⟩ := by
  rw [vstore_agg (cs := [.int .i64 0, .int .i64 0, .int .i64 0, .nils]) (cs' := o.cells) (push_new _ _) (by rw [SOp5]; rfl) rfl (OA.one h)]
  simp
theorem long5_sees {σ : St} {wf wo : V} {lf : List FA} {lo : List OA} (hwf : FsV wf lf) (hwo : OsV wo lo) (hof : ∀ o ∈ lf, o.Ok) (hoo : ∀ o ∈ lo, o.Ok) (hlf : lf.length ≤ 2000000) (hlo : lo.length ≤ 2000000) :
    ∃ p σ', Does Tryz.prog prims 6 [wf, wo] σ p σ' ∧ ∃ b, p = .ret (.bool b) ∧ KS [] σ σ' := by
  apply k6_is.does (by simp)
  have hzf : vcells (V.agg [.str [], .nils]) = [.str [], .nils] := rfl
  have hzo : vcells (V.agg [.int .i64 0, .int .i64 0, .int .i64 0, .nils]) = [.int .i64 0, .int .i64 0, .int .i64 0, .nils] := rfl
  simp only [k6_a, WK, vop, evAll, evOpt, evParts, vbuiltin, vun, vextract, Nat.reduceLT, Nat.reduceEqDiff, ↓reduceIte, reduceCtorEq, Nat.reduceAdd, Int.reduceLT, Int.reduceNeg, valloc_std, noSB, vhot, gD0, gD1, hwf.len5]
  refine Ev.loopF (fun (i : Nat) e s => ∃ n : Nat, e 12 = .int .i64 (i : Nat) ∧ i ≤ lf.length ∧ KS [] σ s ∧ e 5 = .int .i64 (n : Nat) ∧ n ≤ 65536) (fun i => lf.length - i) 0 ⟨0, by simp [upd_some], Nat.zero_le _, KS.refl _ _, by simp [upd_some], by omega⟩ ?_
  rintro i e s ⟨n, h12, hi, hk, h5, hn⟩ hf
  have g0 : e 0 = wf := (hf 0 (by decide)).trans (by simp [upd_some])
  have g1 : e 1 = wo := (hf 1 (by decide)).trans (by simp [upd_some])
  have g10 : e 10 = wf := (hf 10 (by decide)).trans (by simp [upd_some])
  have g11 : e 11 = .int .i64 (lf.length : Nat) := (hf 11 (by decide)).trans (by simp [upd_some])
  clear hf
  by_cases hlt : i < lf.length
  · have hlt' : (i : Int) < (lf.length : Nat) := by omega
    have hwi : IntKind.i64.wrap ((i : Int) + 1) = ((i + 1 : Nat) : Int) := by rw [show ((i : Int) + 1) = ((i + 1 : Nat) : Int) from by omega]; exact wrap_nat (by omega)
    have hO := hof lf[i] (List.getElem_mem hlt)
    obtain ⟨s1, hs1⟩ : ∃ s1 : St, s1 = ⟨s.objs ++ [.cells lf[i].cells], s.toks⟩ := ⟨_, rfl⟩
    have hst := fiNew5 (σ := s) hO.b
    rw [← hs1] at hst
    have K1 : KS [] s s1 := by rw [hs1]; exact KS.push _ _ _
    have ob : s1.objs[s.objs.length]? = some (.cells lf[i].cells) := by rw [hs1]; exact push_new _ _
    have hlb := hO.bl
    have w2 : IntKind.i64.wrap ((n : Int) + ((lf[i].b.length : Nat) : Int)) = ((n + lf[i].b.length : Nat) : Int) := by rw [wrap_i64 (by omega) (by omega)]; omega
    by_cases hbig : 65536 < n + lf[i].b.length
    · have hbig' : (65536 : Int) < ((n + lf[i].b.length : Nat) : Int) := by omega
      simp only [k6_a, WK, vop, evAll, evOpt, evParts, vbuiltin, vun, vextract, Nat.reduceLT, Nat.reduceEqDiff, ↓reduceIte, reduceCtorEq, Nat.reduceAdd, Int.reduceLT, Int.reduceNeg, valloc_std, noSB, vhot, gD0, gD1, h12, g11, g10, h5, hlt', decide_true, hwf.addr5 hlt, FsV.load5 hlt, ZFi5, vbox, hzf, hst, fi51, (FAat ob).2, hO.b.len T22, w2, hbig']
      exact ⟨true, rfl, hk.trans' K1⟩
    · have hbig' : ¬ (65536 : Int) < ((n + lf[i].b.length : Nat) : Int) := by omega
      simp only [k6_a, WK, vop, evAll, evOpt, evParts, vbuiltin, vun, vextract, Nat.reduceLT, Nat.reduceEqDiff, ↓reduceIte, reduceCtorEq, Nat.reduceAdd, Int.reduceLT, Int.reduceNeg, valloc_std, noSB, vhot, gD0, gD1, h12, g11, g10, h5, hlt', decide_true, decide_false, hwf.addr5 hlt, FsV.load5 hlt, ZFi5, vbox, hzf, hst, fi51, (FAat ob).2, hO.b.len T22, w2, hbig', hwi]
      exact ⟨i + 1, ⟨n + lf[i].b.length, by simp [upd_some], by omega, hk.trans' K1, by simp [upd_some], by omega⟩, by omega⟩
  have hlt' : ¬ (i : Int) < (lf.length : Nat) := by omega
  simp only [k6_a, WK, vop, evAll, evOpt, evParts, vbuiltin, vun, vextract, Nat.reduceLT, Nat.reduceEqDiff, ↓reduceIte, reduceCtorEq, Nat.reduceAdd, Int.reduceLT, Int.reduceNeg, valloc_std, noSB, vhot, gD0, gD1, h12, g11, g1, hlt', decide_false, hwo.len5]
  refine Ev.loopF (fun (i : Nat) e s => ∃ n : Nat, e 26 = .int .i64 (i : Nat) ∧ i ≤ lo.length ∧ KS [] σ s ∧ e 5 = .int .i64 (n : Nat) ∧ n ≤ 4194304) (fun i => lo.length - i) 0 ⟨n, by simp [upd_some], Nat.zero_le _, hk, by simp [upd_some, h5], by omega⟩ ?_
  rintro j e2 u ⟨m, h26, hj, hk2, h52, hm⟩ hf
  have m0 : e2 0 = wf := (hf 0 (by decide)).trans (by simp [upd_some, g0])
  have m1 : e2 1 = wo := (hf 1 (by decide)).trans (by simp [upd_some, g1])
  have g24 : e2 24 = wo := (hf 24 (by decide)).trans (by simp [upd_some])
  have g25 : e2 25 = .int .i64 (lo.length : Nat) := (hf 25 (by decide)).trans (by simp [upd_some])
  clear hf
  by_cases hlj : j < lo.length
  · have hlj' : (j : Int) < (lo.length : Nat) := by omega
    have hwi : IntKind.i64.wrap ((j : Int) + 1) = ((j + 1 : Nat) : Int) := by rw [show ((j : Int) + 1) = ((j + 1 : Nat) : Int) from by omega]; exact wrap_nat (by omega)
    have hO := hoo lo[j] (List.getElem_mem hlj)
    obtain ⟨s1, hs1⟩ : ∃ s1 : St, s1 = ⟨u.objs ++ [.cells lo[j].cells], u.toks⟩ := ⟨_, rfl⟩
    have hst := opNew5 (σ := u) hO.b
    rw [← hs1] at hst
    have K1 : KS [] u s1 := by rw [hs1]; exact KS.push _ _ _
    have ob : s1.objs[u.objs.length]? = some (.cells lo[j].cells) := by rw [hs1]; exact push_new _ _
    have hlb := hO.bl
    have w2 : IntKind.i64.wrap ((m : Int) + ((lo[j].b.length : Nat) : Int)) = ((m + lo[j].b.length : Nat) : Int) := by rw [wrap_i64 (by omega) (by omega)]; omega
    by_cases hbig : 4194304 < m + lo[j].b.length
    · have hbig' : (4194304 : Int) < ((m + lo[j].b.length : Nat) : Int) := by omega
      simp only [k6_a, WK, vop, evAll, evOpt, evParts, vbuiltin, vun, vextract, Nat.reduceLT, Nat.reduceEqDiff, ↓reduceIte, reduceCtorEq, Nat.reduceAdd, Int.reduceLT, Int.reduceNeg, valloc_std, noSB, vhot, gD0, gD1, h26, g25, g24, h52, hlj', decide_true, hwo.addr5 hlj, OsV.load5 hlj, ZOp5, vbox, hzo, hst, op53, (OAat ob).2.2.2, hO.b.len T22, w2, hbig']
      exact ⟨true, rfl, hk2.trans' K1⟩
    · have hbig' : ¬ (4194304 : Int) < ((m + lo[j].b.length : Nat) : Int) := by omega
      simp only [k6_a, WK, vop, evAll, evOpt, evParts, vbuiltin, vun, vextract, Nat.reduceLT, Nat.reduceEqDiff, ↓reduceIte, reduceCtorEq, Nat.reduceAdd, Int.reduceLT, Int.reduceNeg, valloc_std, noSB, vhot, gD0, gD1, h26, g25, g24, h52, hlj', decide_true, decide_false, hwo.addr5 hlj, OsV.load5 hlj, ZOp5, vbox, hzo, hst, op53, (OAat ob).2.2.2, hO.b.len T22, w2, hbig', hwi]
      exact ⟨j + 1, ⟨m + lo[j].b.length, by simp [upd_some], by omega, hk2.trans' K1, by simp [upd_some], by omega⟩, by omega⟩
  have hlj' : ¬ (j : Int) < (lo.length : Nat) := by omega
  by_cases h256 : (256 : Int) < (lo.length : Nat)
  · simp only [k6_a, WK, vop, evAll, evOpt, evParts, vbuiltin, vun, vextract, Nat.reduceLT, Nat.reduceEqDiff, ↓reduceIte, reduceCtorEq, Nat.reduceAdd, Int.reduceLT, Int.reduceNeg, valloc_std, noSB, vhot, gD0, gD1, h26, g25, m1, hlj', decide_false, decide_true, hwo.len5, h256]
    exact ⟨true, rfl, hk2⟩
  · by_cases h16 : (16 : Int) < (lf.length : Nat)
    · simp only [k6_a, WK, vop, evAll, evOpt, evParts, vbuiltin, vun, vextract, Nat.reduceLT, Nat.reduceEqDiff, ↓reduceIte, reduceCtorEq, Nat.reduceAdd, Int.reduceLT, Int.reduceNeg, valloc_std, noSB, vhot, gD0, gD1, h26, g25, m1, m0, hlj', decide_false, decide_true, hwo.len5, h256, hwf.len5, h16]
      exact ⟨true, rfl, hk2⟩
    · simp only [k6_a, WK, vop, evAll, evOpt, evParts, vbuiltin, vun, vextract, Nat.reduceLT, Nat.reduceEqDiff, ↓reduceIte, reduceCtorEq, Nat.reduceAdd, Int.reduceLT, Int.reduceNeg, valloc_std, noSB, vhot, gD0, gD1, h26, g25, m1, m0, hlj', decide_false, decide_true, hwo.len5, h256, hwf.len5, h16]
      exact ⟨false, rfl, hk2⟩
theorem then_ok {r : Nat × Dk} {f : Dk → Nat × Dk} {w k : Nat} (h : r.2.Ok ∧ r.2.writes ≤ w) (hf : ∀ d : Dk, d.Ok → (f d).2.Ok ∧ (f d).2.writes ≤ d.writes + k) : (thenD r f).2.Ok ∧ (thenD r f).2.writes ≤ w + k := by
  unfold thenD
  split
  · exact ⟨h.1, by omega⟩
  · obtain ⟨h1, h2⟩ := hf _ h.1
    exact ⟨h1, by omega⟩
theorem purge_ok (n : Int) : ∀ (L : List (List UInt8)) (d : Dk), d.Ok → (purgeD n L d).2.Ok ∧ (purgeD n L d).2.writes ≤ d.writes + L.length
  | [], d, h => ⟨h, Nat.le_refl _⟩
  | x :: l, d, h => by
    rw [purgeD]
    split
    · obtain ⟨h1, h2⟩ := purge_ok n l d h
      exact ⟨h1, by simp only [List.length_cons]; omega⟩
    · obtain ⟨h1, h2⟩ := then_ok (k := l.length) (remove_ok (n := x) h) (fun d hd => purge_ok n l d hd)
      exact ⟨h1, by simp only [List.length_cons]; omega⟩
theorem save_ok {n : Int} {body : List UInt8} {d : Dk} (h : d.Ok) : (saveD n body d).2.Ok ∧ (saveD n body d).2.writes ≤ d.writes + 20 := by
  unfold saveD
  split
  · exact ⟨h, by simp only; omega⟩
  split
  · exact ⟨h, by simp only; omega⟩
  split
  · exact ⟨h, by simp only; omega⟩
  have hr : (rmDraft d).2.Ok ∧ (rmDraft d).2.writes ≤ d.writes + 1 := by
    unfold rmDraft
    split
    · exact remove_ok h
    · exact ⟨h, by simp only; omega⟩
  refine then_ok (w := d.writes + 1) (k := 19) hr fun d1 h1 => ?_
  refine then_ok (w := d1.writes + 1) (k := 18) (append_ok h1) fun d2 h2 => ?_
  refine then_ok (w := d2.writes + 1) (k := 17) (sync_ok h2) fun d3 h3 => ?_
  refine then_ok (w := d3.writes + 1) (k := 16) (rename_ok h3) fun d4 h4 => ?_
  obtain ⟨g1, g2⟩ := purge_ok n (namesD d4) d4 h4
  have := namesD_len h4
  exact ⟨g1, by omega⟩
def nmS (a : Nat) : List UInt8 := 115 :: digK 9 a
def Did (d : Dk) (F0 F1 : List Fl) (r : Nat × Dk) : Prop :=
  (r.1 = 0 ∧ r.2.files = F1 ∧ r.2.on = true ∧ r.2.room = d.room ∧ r.2.keep = d.keep ∧ (d.armed = 0 → r.2.armed = 0)) ∨ (d.armed ≠ 0 ∧ r.1 = 20 ∧ r.2.on = false ∧ r.2.files = F0.map (offF d.keep) ∧ r.2.room = d.room)
structure Two (s : St) (r rm r2 : Nat) (d : Dk) (fs : List Ent) (q : Option Nat) (rs : List RE) : Prop where
  D : DiskAt s r d rm fs
  R : RefAt s r2 d q rs
  ok : d.Ok
  dj : ∀ x ∈ foot r rm fs, x ∉ r2 :: q.toList
theorem Two.pushes {s s' : St} {r rm r2 : Nat} {d : Dk} {fs : List Ent} {q : Option Nat} {rs : List RE} (h : Two s r rm r2 d fs q rs) (k : KS [] s s') : Two s' r rm r2 d fs q rs := ⟨h.D.pushes k, h.R.pushes k, h.ok, h.dj⟩
structure Half (s : St) (r rm r2 : Nat) (d1 d : Dk) (fs : List Ent) (q : Option Nat) (rs : List RE) : Prop where
  D : DiskAt s r d1 rm fs
  R : RefAt s r2 d q rs
  dj : ∀ x ∈ foot r rm fs, x ∉ r2 :: q.toList
theorem Two.half {s s1 : St} {r rm r2 : Nat} {d d1 : Dk} {fs : List Ent} {q : Option Nat} {rs : List RE} (h : Two s r rm r2 d fs q rs) (N : Next s r rm fs s1 d1) : ∃ fs1, Half s1 r rm r2 d1 d fs1 q rs ∧ KS (foot r rm fs) s s1 := by
  obtain ⟨fs1, D1, K1, I1⟩ := N
  refine ⟨fs1, ⟨D1, h.R.keep K1 fun x hx hx2 => h.dj x hx2 hx, fun x hx hx2 => ?_⟩, K1⟩
  rcases I1 x hx with h1 | h1
  · exact h.dj x h1 hx2
  · have := h.R.lt x hx2; omega
theorem Half.pushes {s s' : St} {r rm r2 : Nat} {d1 d : Dk} {fs : List Ent} {q : Option Nat} {rs : List RE} (h : Half s r rm r2 d1 d fs q rs) (k : KS [] s s') : Half s' r rm r2 d1 d fs q rs := ⟨h.D.pushes k, h.R.pushes k, h.dj⟩
theorem Half.two {s s1 : St} {r rm r2 : Nat} {d1 d : Dk} {fs : List Ent} {q : Option Nat} {rs : List RE} (h : Half s r rm r2 d1 d fs q rs) (ok : d1.Ok) (N : RNext s r2 q s1 d1) : ∃ q1 rs1, Two s1 r rm r2 d1 fs q1 rs1 ∧ KS (r2 :: q.toList) s s1 := by
  obtain ⟨q1, rs1, R1, K1, I1⟩ := N
  refine ⟨q1, rs1, ⟨h.D.keep K1 h.dj, R1, ok, fun x hx hx2 => ?_⟩, K1⟩
  rcases I1 x hx2 with h1 | h1
  · exact h.dj x hx h1
  · have := h.D.lt x hx; omega
structure Off2 (a r rm r2 : Nat) (fs : List Ent) (q : Option Nat) : Prop where
  f : a ∉ foot r rm fs
  q : a ∉ r2 :: q.toList
theorem Two.off {s : St} {r rm r2 : Nat} {d : Dk} {fs : List Ent} {q : Option Nat} {rs : List RE} (h : Two s r rm r2 d fs q rs) {a : Nat} (ha : s.objs.length ≤ a) : Off2 a r rm r2 fs q :=
  ⟨fun hx => by have := h.D.lt _ hx; omega, fun hx => by have := h.R.lt _ hx; omega⟩
theorem Next.off {s s1 : St} {a r rm r2 : Nat} {d1 : Dk} {fs fs1 : List Ent} {q : Option Nat} (h : Off2 a r rm r2 fs q) (ha : a < s.objs.length) (I : ∀ x ∈ foot r rm fs1, x ∈ foot r rm fs ∨ s.objs.length ≤ x) : Off2 a r rm r2 fs1 q :=
  ⟨fun hx => by
    rcases I _ hx with h1 | h1
    · exact h.f h1
    · omega, h.q⟩
theorem Two.call1 {s s1 : St} {a r rm r2 : Nat} {o : Ob} {d d1 : Dk} {fs : List Ent} {q : Option Nat} {rs : List RE} (h : Two s r rm r2 d fs q rs) (ho : s.objs[a]? = some o) (hf : Off2 a r rm r2 fs q) (N : Next s r rm fs s1 d1) : ∃ fs1, Half s1 r rm r2 d1 d fs1 q rs ∧ s1.objs[a]? = some o ∧ Off2 a r rm r2 fs1 q := by
  obtain ⟨fs1, D1, K1, I1⟩ := N
  obtain ⟨fs2, D2, K2⟩ := h.half ⟨fs1, D1, K1, I1⟩
  have ha := (gA0.1 ho).1
  refine ⟨fs1, ⟨D1, h.R.keep K1 fun x hx hx2 => h.dj x hx2 hx, fun x hx hx2 => ?_⟩, K1.ko _ _ hf.f ho, ⟨fun hx => ?_, hf.q⟩⟩
  · rcases I1 x hx with h1 | h1
    · exact h.dj x h1 hx2
    · have := h.R.lt x hx2; omega
  · rcases I1 _ hx with h1 | h1
    · exact hf.f h1
    · omega
theorem Half.call2 {s s1 : St} {a r rm r2 : Nat} {o : Ob} {d1 d : Dk} {fs : List Ent} {q : Option Nat} {rs : List RE} (h : Half s r rm r2 d1 d fs q rs) (ok : d1.Ok) (ho : s.objs[a]? = some o) (hf : Off2 a r rm r2 fs q) (N : RNext s r2 q s1 d1) : ∃ q1 rs1, Two s1 r rm r2 d1 fs q1 rs1 ∧ s1.objs[a]? = some o ∧ Off2 a r rm r2 fs q1 := by
  obtain ⟨q1, rs1, R1, K1, I1⟩ := N
  have ha := (gA0.1 ho).1
  refine ⟨q1, rs1, ⟨h.D.keep K1 h.dj, R1, ok, fun x hx hx2 => ?_⟩, K1.ko _ _ hf.q ho, ⟨hf.f, fun hx => ?_⟩⟩
  · rcases I1 x hx2 with h1 | h1
    · exact h.dj x hx h1
    · have := h.D.lt x hx; omega
  · rcases I1 _ hx with h1 | h1
    · exact hf.q h1
    · omega
theorem ron_store {s : St} {r : Nat} {d : Dk} {q : Option Nat} {rs : List RE} (h : RefAt s r d q rs) : ∃ s1, vstore Tryz.prog s 4 (.optr r 2) (.bool true) = some s1 ∧ RNext s r q s1 { d with on := true } := by
  obtain ⟨fv, o, hR⟩ := h.hd
  have st := vstore_obj (P := Tryz.prog) (off := 2) (t := 4) (v := .bool true) o S4 rfl (by simp)
  exact ⟨_, st, (h.headN (d2 := { d with on := true }) rfl o hR rfl).1⟩
theorem rroom_store {s : St} {r : Nat} {d : Dk} {q : Option Nat} {rs : List RE} (h : RefAt s r d q rs) (n : Int) : ∃ s1, vstore Tryz.prog s 3 (.optr r 1) (.int .i64 n) = some s1 ∧ RNext s r q s1 { d with room := n } := by
  obtain ⟨fv, o, hR⟩ := h.hd
  have st := vstore_obj (P := Tryz.prog) (off := 1) (t := 3) (v := .int .i64 n) o S3 rfl (by simp)
  exact ⟨_, st, (h.headN (d2 := { d with room := n }) rfl o hR rfl).1⟩
theorem on_ok {d : Dk} (h : d.Ok) : ({ d with on := true } : Dk).Ok := h.head rfl h.arm h.rm h.kp
theorem room_ok {d : Dk} (h : d.Ok) {n : Int} (hn : InI64 n) : ({ d with room := n } : Dk).Ok := h.head rfl h.arm hn h.kp
theorem arm_ok {d : Dk} (h : d.Ok) {n k : Int} (hn : InI64 n) (hk : InI64 k) : (armD n k d).Ok := h.head rfl (by unfold InI64 at hn; show ((n.toNat : Nat) : Int) ≤ _; omega) h.rm hk
theorem off_writes' (k : Int) (d : Dk) : (offD k d).writes = d.writes := by unfold offD; split <;> rfl
theorem loadN_len {d : Dk} (h : d.Ok) : ∀ (L : List (List UInt8)) (a : Int × List UInt8), a.2.length ≤ 1048576 → (loadN d L a).2.length ≤ 1048576
  | [], a, ha => ha
  | x :: L, a, ha => by
    rw [loadN]
    split
    · exact loadN_len h L a ha
    split
    · have h1 := decS_len (numZ x) (readD x d).2
      have h2 := readD_len h x
      exact loadN_len h L _ (by simp only; omega)
    · exact loadN_len h L a ha
theorem loadD_len {d : Dk} (h : d.Ok) : (loadD d).1.2.length ≤ 1048576 := by
  unfold loadD
  split
  · simp
  · exact loadN_len h _ _ (by simp)
theorem save_nil {σ : St} : Does Tryz.prog prims 13 [.nilp, .int .i64 1, .nils] σ (.ret (.int .i64 2)) σ := by
  apply k13_is.ret (by simp)
  simp only [k13_a, WK, vop, evAll, evOpt, evParts, vbuiltin, vun, vextract, Nat.reduceLT, Nat.reduceEqDiff, ↓reduceIte, reduceCtorEq, Nat.reduceAdd, Int.reduceLT, Int.reduceNeg, valloc_std, noSB, vhot, gD0, gD1, ofNilP, eql_nilp pTD]
theorem load_nil {σ : St} : Does Tryz.prog prims 15 [.nilp] σ (.ret (.tuple [.int .i64 0, .nils, .int .i64 2])) σ := by
  apply k15_is.ret (by simp)
  simp only [k15_a, WK, vop, evAll, evOpt, evParts, vbuiltin, vun, vextract, Nat.reduceLT, Nat.reduceEqDiff, ↓reduceIte, reduceCtorEq, Nat.reduceAdd, Int.reduceLT, Int.reduceNeg, valloc_std, noSB, vhot, gD0, gD1, ofNilP, nilEP, eql_nilp pTD]
theorem snapdoes_true : LawTrue Tryz.prog prims 3 [22, 23] := by
  intro args hA hb
  match args, hA with
  | [wf, wo], ⟨hx, hx2, _⟩ =>
    simp only [vbulks] at hb
    obtain ⟨lf, hwf, hof, hlf⟩ := fs_arg5 hx (by omega)
    obtain ⟨lo, hwo, hoo, hlo⟩ := os_arg5 hx2 (by omega)
    have key : ∃ r σ', Does Tryz.prog prims 3 [wf, wo] st0 r σ' ∧ r = .ret (.bool true) := by
      apply k3_is.does (by simp)
      obtain ⟨s1, hwk⟩ := wakes_does
      obtain ⟨p2, s2, h2, b, rfl, K2⟩ := long5_sees (σ := s1) hwf hwo hof hoo (by omega) (by omega)
      simp only [k3_a, WK, vop, evAll, evOpt, evParts, vbuiltin, vun, vextract, Nat.reduceLT, Nat.reduceEqDiff, ↓reduceIte, reduceCtorEq, Nat.reduceAdd, Int.reduceLT, Int.reduceNeg, valloc_std, noSB, vhot, gD0, gD1]
      refine KD.ret hwk ?_
      simp only [k3_a, WK, vop, evAll, evOpt, evParts, vbuiltin, vun, vextract, Nat.reduceLT, Nat.reduceEqDiff, ↓reduceIte, reduceCtorEq, Nat.reduceAdd, Int.reduceLT, Int.reduceNeg, valloc_std, noSB, vhot, gD0, gD1, Bool.not_true]
      refine KD.ret h2 ?_
      cases b with
      | true => simp only [k3_a, WK, vop, evAll, evOpt, evParts, vbuiltin, vun, vextract, Nat.reduceLT, Nat.reduceEqDiff, ↓reduceIte, reduceCtorEq, Nat.reduceAdd, Int.reduceLT, Int.reduceNeg, valloc_std, noSB, vhot, gD0, gD1]
      | false =>
      obtain ⟨s3, r, rm, h3, D3, K3, I3⟩ := newdisk_does s2 2097152
      obtain ⟨s4, h4, R4, K4⟩ := rnew_does s3 2097152
      obtain ⟨r2, hr2⟩ : ∃ r2, r2 = s3.objs.length := ⟨_, rfl⟩
      rw [← hr2] at h4 R4
      have T4 : Two s4 r rm r2 (newD 2097152) [] none [] := ⟨D3.pushes K4, R4, newD_ok (by unfold InI64; omega), fun x hx hx2 => by
        have := D3.lt x hx
        simp at hx2
        omega⟩
      have oT : ofVal (Value.bool true) = some (.bool true) := rfl
      have hzf : vcells (V.agg [.str [], .nils]) = [.str [], .nils] := rfl
      have hzo : vcells (V.agg [.int .i64 0, .int .i64 0, .int .i64 0, .nils]) = [.int .i64 0, .int .i64 0, .int .i64 0, .nils] := rfl
      simp only [k3_a, WK, vop, evAll, evOpt, evParts, vbuiltin, vun, vextract, Nat.reduceLT, Nat.reduceEqDiff, ↓reduceIte, reduceCtorEq, Nat.reduceAdd, Int.reduceLT, Int.reduceNeg, valloc_std, noSB, vhot, gD0, gD1]
      refine KD.ret h3 ?_
      simp only [k3_a, WK, vop, evAll, evOpt, evParts, vbuiltin, vun, vextract, Nat.reduceLT, Nat.reduceEqDiff, ↓reduceIte, reduceCtorEq, Nat.reduceAdd, Int.reduceLT, Int.reduceNeg, valloc_std, noSB, vhot, gD0, gD1]
      refine KD.ret h4 ?_
      simp only [k3_a, WK, vop, evAll, evOpt, evParts, vbuiltin, vun, vextract, Nat.reduceLT, Nat.reduceEqDiff, ↓reduceIte, reduceCtorEq, Nat.reduceAdd, Int.reduceLT, Int.reduceNeg, valloc_std, noSB, vhot, gD0, gD1, hwf.len5]
      refine Ev.loopF (fun (i : Nat) e s => e 29 = .int .i64 (i : Nat) ∧ i ≤ lf.length ∧ ∃ d fs q rs, Two s r rm r2 d fs q rs ∧ d.writes ≤ 2 * i) (fun i => lf.length - i) 0 ?_ ?_
      · exact ⟨by simp [upd_some], Nat.zero_le _, _, _, _, _, T4, by simp [newD]⟩
      rintro i e s ⟨h29, hi, d, fs, q, rs, T, hwr⟩ hf
      have g1 : e 1 = wo := (hf 1 (by decide)).trans (by simp [upd_some])
      have g5 : e 5 = .optr r 0 := (hf 5 (by decide)).trans (by simp [upd_some])
      have g6 : e 6 = .optr r2 0 := (hf 6 (by decide)).trans (by simp [upd_some])
      have g27 : e 27 = wf := (hf 27 (by decide)).trans (by simp [upd_some])
      have g28 : e 28 = .int .i64 (lf.length : Nat) := (hf 28 (by decide)).trans (by simp [upd_some])
      clear hf
      by_cases hlt : i < lf.length
      · have hlt' : (i : Int) < (lf.length : Nat) := by omega
        have hwi : IntKind.i64.wrap ((i : Int) + 1) = ((i + 1 : Nat) : Int) := by rw [show ((i : Int) + 1) = ((i + 1 : Nat) : Int) from by omega]; exact wrap_nat (by omega)
        obtain ⟨f, hfe⟩ : ∃ f, f = lf[i] := ⟨_, rfl⟩
        have hO := hof lf[i] (List.getElem_mem hlt)
        have hld := fun (s : St) => FsV.load5 (objs := s.objs) hlt
        rw [← hfe] at hO
        simp only [← hfe] at hld
        obtain ⟨a, hae⟩ : ∃ a, a = s.objs.length := ⟨_, rfl⟩
        obtain ⟨t1, ht1⟩ : ∃ t1 : St, t1 = ⟨s.objs ++ [.cells f.cells], s.toks⟩ := ⟨_, rfl⟩
        have hst := fiNew5 (σ := s) hO.b
        rw [← ht1, ← hae] at hst
        have Kt1 : KS [] s t1 := by rw [ht1]; exact KS.push _ _ _
        have ob1 : t1.objs[a]? = some (.cells f.cells) := by rw [ht1, hae]; exact push_new _ _
        have hoff : Off2 a r rm r2 fs q := T.off (by omega)
        have T1 := T.pushes Kt1
        have hlb := hO.bl
        obtain ⟨p2', u2, c2, rfl, N2⟩ := append_sees (n := f.name) T1.D T1.ok (by omega) (.inl hO.b : RB t1 f.bv f.b) (by omega)
        obtain ⟨fs2, H2, ob2, off2⟩ := T1.call1 ob1 hoff N2
        obtain ⟨ok2, hw2⟩ := append_ok (n := f.name) (b := f.b) T.ok
        obtain ⟨p3', u3, c3, rfl, N3⟩ := rappend_sees (n := f.name) H2.R T.ok (by omega) (.inl hO.b : RB u2 f.bv f.b) (by omega)
        obtain ⟨q3, rs3, T3, ob3, off3⟩ := H2.call2 ok2 ob2 off2 N3
        obtain ⟨p4', u4, c4, rfl, N4⟩ := sync_sees (n := f.name) T3.D ok2 (by omega)
        obtain ⟨fs4, H4, ob4, off4⟩ := T3.call1 ob3 off3 N4
        obtain ⟨ok4, hw4⟩ := sync_ok (n := f.name) ok2
        obtain ⟨p5', u5, c5, rfl, N5⟩ := rsync_sees (n := f.name) H4.R ok2 (by omega)
        obtain ⟨q5, rs5, T5, ob5, off5⟩ := H4.call2 ok4 ob4 off4 N5
        simp only [k3_a, WK, vop, evAll, evOpt, evParts, vbuiltin, vun, vextract, Nat.reduceLT, Nat.reduceEqDiff, ↓reduceIte, reduceCtorEq, Nat.reduceAdd, Int.reduceLT, Int.reduceNeg, valloc_std, noSB, vhot, gD0, gD1, h29, g27, g28, g5, g6, hlt', decide_true, hwf.addr5 hlt, hld, ZFi5, vbox, hzf, ← hae, hst, fi50, fi51, (FAat ob1).1, (FAat ob1).2]
        refine KD.ret c2 ?_
        simp only [k3_a, WK, vop, evAll, evOpt, evParts, vbuiltin, vun, vextract, Nat.reduceLT, Nat.reduceEqDiff, ↓reduceIte, reduceCtorEq, Nat.reduceAdd, Int.reduceLT, Int.reduceNeg, valloc_std, noSB, vhot, gD0, gD1, g5, g6, fi50, fi51, (FAat ob1).1, (FAat ob1).2, (FAat ob2).1, (FAat ob2).2]
        refine KD.ret c3 ?_
        simp only [k3_a, WK, vop, evAll, evOpt, evParts, vbuiltin, vun, vextract, Nat.reduceLT, Nat.reduceEqDiff, ↓reduceIte, reduceCtorEq, Nat.reduceAdd, Int.reduceLT, Int.reduceNeg, valloc_std, noSB, vhot, gD0, gD1, g5, g6, fi50, fi51, (FAat ob1).1, (FAat ob1).2, (FAat ob2).1, (FAat ob2).2, (FAat ob3).1, (FAat ob3).2, eq_self, decide_true, Bool.not_true]
        refine KD.ret c4 ?_
        simp only [k3_a, WK, vop, evAll, evOpt, evParts, vbuiltin, vun, vextract, Nat.reduceLT, Nat.reduceEqDiff, ↓reduceIte, reduceCtorEq, Nat.reduceAdd, Int.reduceLT, Int.reduceNeg, valloc_std, noSB, vhot, gD0, gD1, g5, g6, fi50, fi51, (FAat ob1).1, (FAat ob1).2, (FAat ob2).1, (FAat ob2).2, (FAat ob3).1, (FAat ob3).2, (FAat ob4).1, (FAat ob4).2, eq_self, decide_true, Bool.not_true]
        refine KD.ret c5 ?_
        simp only [k3_a, WK, vop, evAll, evOpt, evParts, vbuiltin, vun, vextract, Nat.reduceLT, Nat.reduceEqDiff, ↓reduceIte, reduceCtorEq, Nat.reduceAdd, Int.reduceLT, Int.reduceNeg, valloc_std, noSB, vhot, gD0, gD1, h29, g5, g6, fi50, fi51, (FAat ob1).1, (FAat ob1).2, (FAat ob2).1, (FAat ob2).2, (FAat ob3).1, (FAat ob3).2, (FAat ob4).1, (FAat ob4).2, (FAat ob5).1, (FAat ob5).2, eq_self, decide_true, Bool.not_true, hwi]
        exact ⟨i + 1, ⟨by simp [upd_some], by omega, _, _, _, _, T5, by omega⟩, by omega⟩
      have hlt' : ¬ (i : Int) < (lf.length : Nat) := by omega
      simp only [k3_a, WK, vop, evAll, evOpt, evParts, vbuiltin, vun, vextract, Nat.reduceLT, Nat.reduceEqDiff, ↓reduceIte, reduceCtorEq, Nat.reduceAdd, Int.reduceLT, Int.reduceNeg, valloc_std, noSB, vhot, gD0, gD1, h29, g28, g1, hlt', decide_false, hwo.len5]
      refine Ev.loopF (fun (i : Nat) e s => e 60 = .int .i64 (i : Nat) ∧ i ≤ lo.length ∧ ∃ d fs q rs, Two s r rm r2 d fs q rs ∧ d.writes ≤ 3000000 + 20 * i) (fun i => lo.length - i) 0 ?_ ?_
      · exact ⟨by simp [upd_some], Nat.zero_le _, _, _, _, _, T, by omega⟩
      have y5 := g5
      have y6 := g6
      clear hlt hlt' T hwr h29 g27 g28 g1
      rintro i e2 s ⟨k60, hi, d, fs, q, rs, T, hwr⟩ hf
      have g5 : e2 5 = .optr r 0 := (hf 5 (by decide)).trans (by simp [upd_some, y5])
      have g6 : e2 6 = .optr r2 0 := (hf 6 (by decide)).trans (by simp [upd_some, y6])
      have g58 : e2 58 = wo := (hf 58 (by decide)).trans (by simp [upd_some])
      have g59 : e2 59 = .int .i64 (lo.length : Nat) := (hf 59 (by decide)).trans (by simp [upd_some])
      clear hf
      by_cases hlt : i < lo.length
      · have hlt' : (i : Int) < (lo.length : Nat) := by omega
        have hwi : IntKind.i64.wrap ((i : Int) + 1) = ((i + 1 : Nat) : Int) := by rw [show ((i : Int) + 1) = ((i + 1 : Nat) : Int) from by omega]; exact wrap_nat (by omega)
        obtain ⟨o, hoe⟩ : ∃ o, o = lo[i] := ⟨_, rfl⟩
        have hO := hoo lo[i] (List.getElem_mem hlt)
        have hld := fun (s : St) => OsV.load5 (objs := s.objs) hlt
        rw [← hoe] at hO
        simp only [← hoe] at hld
        obtain ⟨a, hae⟩ : ∃ a, a = s.objs.length := ⟨_, rfl⟩
        obtain ⟨t1, ht1⟩ : ∃ t1 : St, t1 = ⟨s.objs ++ [.cells o.cells], s.toks⟩ := ⟨_, rfl⟩
        have hst := opNew5 (σ := s) hO.b
        rw [← ht1, ← hae] at hst
        have Kt1 : KS [] s t1 := by rw [ht1]; exact KS.push _ _ _
        have ob1 : t1.objs[a]? = some (.cells o.cells) := by rw [ht1, hae]; exact push_new _ _
        have hoff : Off2 a r rm r2 fs q := T.off (by omega)
        have T1 := T.pushes Kt1
        have hlb := hO.bl
        obtain ⟨x0, x1, x2, x3⟩ := OAat ob1
        by_cases n0 : o.kind = 0
        · obtain ⟨p2', u2, c2, rfl, N2⟩ := save_sees (n := o.n) T1.D T1.ok (by omega) hO.b (by omega)
          obtain ⟨fs2, H2, ob2, off2⟩ := T1.call1 ob1 hoff N2
          obtain ⟨ok2, hw2⟩ := save_ok (n := o.n) (body := o.b) T.ok
          obtain ⟨p3', u3, c3, rfl, N3⟩ := rsave_sees (n := o.n) H2.R T.ok (by omega) hO.b (by omega)
          obtain ⟨q3, rs3, T8, ob3, off3⟩ := H2.call2 ok2 ob2 off2 N3
          obtain ⟨y0, y1, y2, y3⟩ := OAat ob2
          obtain ⟨z0, z1, z2, z3⟩ := OAat ob3
          simp only [k3_a, WK, vop, evAll, evOpt, evParts, vbuiltin, vun, vextract, Nat.reduceLT, Nat.reduceEqDiff, ↓reduceIte, reduceCtorEq, Nat.reduceAdd, Int.reduceLT, Int.reduceNeg, valloc_std, noSB, vhot, gD0, gD1, k60, g58, g59, g5, g6, hlt', decide_true, hwo.addr5 hlt, hld, ZOp5, vbox, hzo, ← hae, hst, op50, op51, op52, op53, x0, x1, x2, x3, n0, eq_self]
          refine KD.ret c2 ?_
          simp only [k3_a, WK, vop, evAll, evOpt, evParts, vbuiltin, vun, vextract, Nat.reduceLT, Nat.reduceEqDiff, ↓reduceIte, reduceCtorEq, Nat.reduceAdd, Int.reduceLT, Int.reduceNeg, valloc_std, noSB, vhot, gD0, gD1, g5, g6, op50, op51, op52, op53, x0, x1, x2, x3, y0, y1, y2, y3]
          refine KD.ret c3 ?_
          simp only [k3_a, WK, vop, evAll, evOpt, evParts, vbuiltin, vun, vextract, Nat.reduceLT, Nat.reduceEqDiff, ↓reduceIte, reduceCtorEq, Nat.reduceAdd, Int.reduceLT, Int.reduceNeg, valloc_std, noSB, vhot, gD0, gD1, g5, g6, op50, op51, op52, op53, x0, x1, x2, x3, y0, y1, y2, y3, z0, z1, z2, z3, eq_self, decide_true, Bool.not_true]
          obtain ⟨p9, s9, c9, ⟨rfl, K9⟩⟩ := held5_sees T8.D T8.R T8.ok
          refine KD.ret c9 ?_
          simp only [k3_a, WK, vop, evAll, evOpt, evParts, vbuiltin, vun, vextract, Nat.reduceLT, Nat.reduceEqDiff, ↓reduceIte, reduceCtorEq, Nat.reduceAdd, Int.reduceLT, Int.reduceNeg, valloc_std, noSB, vhot, gD0, gD1, k60, Bool.not_true, hwi]
          exact ⟨i + 1, ⟨by simp [upd_some], by omega, _, _, _, _, T8.pushes K9, by omega⟩, by omega⟩
        by_cases n1 : o.kind = 1
        · obtain ⟨p2', u2, c2, v2, rfl, b2, J2⟩ := load_sees T1.D T1.ok
          have T2 := T1.pushes J2
          obtain ⟨p3', u3, c3, v3, rfl, b3, J3⟩ := rload_sees T2.R T2.ok
          have T8 := T2.pushes J3
          have ll : (loadD d).1.2.length ≤ 140737488355328 := by
            have := loadD_len (d := d) T.ok
            omega
          have hs := same5_does (σ := u3) (.inl b2 : RB u3 v2 _) (.inl b3 : RB u3 v3 _) ll
          rw [decide_eq_true rfl] at hs
          simp only [k3_a, WK, vop, evAll, evOpt, evParts, vbuiltin, vun, vextract, Nat.reduceLT, Nat.reduceEqDiff, ↓reduceIte, reduceCtorEq, Nat.reduceAdd, Int.reduceLT, Int.reduceNeg, valloc_std, noSB, vhot, gD0, gD1, k60, g58, g59, g5, g6, hlt', decide_true, decide_false, hwo.addr5 hlt, hld, ZOp5, vbox, hzo, ← hae, hst, op50, op51, op52, op53, x0, x1, x2, x3, n1, (by decide : ¬ (1 : Int) = 0), eq_self, nilEP]
          refine KD.ret c2 ?_
          simp only [k3_a, WK, vop, evAll, evOpt, evParts, vbuiltin, vun, vextract, Nat.reduceLT, Nat.reduceEqDiff, ↓reduceIte, reduceCtorEq, Nat.reduceAdd, Int.reduceLT, Int.reduceNeg, valloc_std, noSB, vhot, gD0, gD1, g6]
          refine KD.ret c3 ?_
          simp only [k3_a, WK, vop, evAll, evOpt, evParts, vbuiltin, vun, vextract, Nat.reduceLT, Nat.reduceEqDiff, ↓reduceIte, reduceCtorEq, Nat.reduceAdd, Int.reduceLT, Int.reduceNeg, valloc_std, noSB, vhot, gD0, gD1]
          refine KD.ret hs ?_
          simp only [k3_a, WK, vop, evAll, evOpt, evParts, vbuiltin, vun, vextract, Nat.reduceLT, Nat.reduceEqDiff, ↓reduceIte, reduceCtorEq, Nat.reduceAdd, Int.reduceLT, Int.reduceNeg, valloc_std, noSB, vhot, gD0, gD1, g5, g6, eq_self, decide_true, Bool.not_true]
          obtain ⟨p9, s9, c9, ⟨rfl, K9⟩⟩ := held5_sees T8.D T8.R T8.ok
          refine KD.ret c9 ?_
          simp only [k3_a, WK, vop, evAll, evOpt, evParts, vbuiltin, vun, vextract, Nat.reduceLT, Nat.reduceEqDiff, ↓reduceIte, reduceCtorEq, Nat.reduceAdd, Int.reduceLT, Int.reduceNeg, valloc_std, noSB, vhot, gD0, gD1, k60, Bool.not_true, hwi]
          exact ⟨i + 1, ⟨by simp [upd_some], by omega, _, _, _, _, T8.pushes K9, by omega⟩, by omega⟩
        by_cases n2 : o.kind = 2
        · obtain ⟨u2, c2, N2⟩ := arm_does T1.D o.n o.k
          obtain ⟨fs2, H2, ob2, off2⟩ := T1.call1 ob1 hoff N2
          have ok2 := arm_ok T.ok hO.n hO.k
          obtain ⟨u3, c3, N3⟩ := rarm_does H2.R o.n o.k
          obtain ⟨q3, rs3, T8, ob3, off3⟩ := H2.call2 ok2 ob2 off2 N3
          obtain ⟨y0, y1, y2, y3⟩ := OAat ob2
          simp only [k3_a, WK, vop, evAll, evOpt, evParts, vbuiltin, vun, vextract, Nat.reduceLT, Nat.reduceEqDiff, ↓reduceIte, reduceCtorEq, Nat.reduceAdd, Int.reduceLT, Int.reduceNeg, valloc_std, noSB, vhot, gD0, gD1, k60, g58, g59, g5, g6, hlt', decide_true, decide_false, hwo.addr5 hlt, hld, ZOp5, vbox, hzo, ← hae, hst, op50, op51, op52, op53, x0, x1, x2, x3, n2, (by decide : ¬ (2 : Int) = 0), (by decide : ¬ (2 : Int) = 1), eq_self]
          refine KD.ret c2 ?_
          simp only [k3_a, WK, vop, evAll, evOpt, evParts, vbuiltin, vun, vextract, Nat.reduceLT, Nat.reduceEqDiff, ↓reduceIte, reduceCtorEq, Nat.reduceAdd, Int.reduceLT, Int.reduceNeg, valloc_std, noSB, vhot, gD0, gD1, g6, op50, op51, op52, op53, y0, y1, y2, y3]
          refine KD.ret c3 ?_
          obtain ⟨p9, s9, c9, ⟨rfl, K9⟩⟩ := held5_sees T8.D T8.R T8.ok
          simp only [k3_a, WK, vop, evAll, evOpt, evParts, vbuiltin, vun, vextract, Nat.reduceLT, Nat.reduceEqDiff, ↓reduceIte, reduceCtorEq, Nat.reduceAdd, Int.reduceLT, Int.reduceNeg, valloc_std, noSB, vhot, gD0, gD1, g5, g6, eq_self, decide_true, Bool.not_true]
          refine KD.ret c9 ?_
          simp only [k3_a, WK, vop, evAll, evOpt, evParts, vbuiltin, vun, vextract, Nat.reduceLT, Nat.reduceEqDiff, ↓reduceIte, reduceCtorEq, Nat.reduceAdd, Int.reduceLT, Int.reduceNeg, valloc_std, noSB, vhot, gD0, gD1, k60, Bool.not_true, hwi]
          exact ⟨i + 1, ⟨by simp [upd_some], by omega, _, _, _, _, T8.pushes K9, by (show d.writes ≤ _; omega)⟩, by omega⟩
        by_cases n3 : o.kind = 3
        · obtain ⟨u2, fs2', c2, D2, J2, I2⟩ := off_does T1.D T1.ok o.k
          obtain ⟨fs2, H2, ob2, off2⟩ := T1.call1 ob1 hoff ⟨fs2', D2, J2, I2⟩
          have ok2 := T.ok.off o.k
          obtain ⟨u3, c3, N3⟩ := roff_does' o.k H2.R T.ok
          obtain ⟨q3, rs3, T8, ob3, off3⟩ := H2.call2 ok2 ob2 off2 N3
          obtain ⟨y0, y1, y2, y3⟩ := OAat ob2
          have hwo' := off_writes' o.k d
          simp only [k3_a, WK, vop, evAll, evOpt, evParts, vbuiltin, vun, vextract, Nat.reduceLT, Nat.reduceEqDiff, ↓reduceIte, reduceCtorEq, Nat.reduceAdd, Int.reduceLT, Int.reduceNeg, valloc_std, noSB, vhot, gD0, gD1, k60, g58, g59, g5, g6, hlt', decide_true, decide_false, hwo.addr5 hlt, hld, ZOp5, vbox, hzo, ← hae, hst, op50, op51, op52, op53, x0, x1, x2, x3, n3, (by decide : ¬ (3 : Int) = 0), (by decide : ¬ (3 : Int) = 1), (by decide : ¬ (3 : Int) = 2), eq_self]
          refine KD.ret c2 ?_
          simp only [k3_a, WK, vop, evAll, evOpt, evParts, vbuiltin, vun, vextract, Nat.reduceLT, Nat.reduceEqDiff, ↓reduceIte, reduceCtorEq, Nat.reduceAdd, Int.reduceLT, Int.reduceNeg, valloc_std, noSB, vhot, gD0, gD1, g6, op50, op51, op52, op53, y0, y1, y2, y3]
          refine KD.ret c3 ?_
          obtain ⟨p9, s9, c9, ⟨rfl, K9⟩⟩ := held5_sees T8.D T8.R T8.ok
          simp only [k3_a, WK, vop, evAll, evOpt, evParts, vbuiltin, vun, vextract, Nat.reduceLT, Nat.reduceEqDiff, ↓reduceIte, reduceCtorEq, Nat.reduceAdd, Int.reduceLT, Int.reduceNeg, valloc_std, noSB, vhot, gD0, gD1, g5, g6, eq_self, decide_true, Bool.not_true]
          refine KD.ret c9 ?_
          simp only [k3_a, WK, vop, evAll, evOpt, evParts, vbuiltin, vun, vextract, Nat.reduceLT, Nat.reduceEqDiff, ↓reduceIte, reduceCtorEq, Nat.reduceAdd, Int.reduceLT, Int.reduceNeg, valloc_std, noSB, vhot, gD0, gD1, k60, Bool.not_true, hwi]
          exact ⟨i + 1, ⟨by simp [upd_some], by omega, _, _, _, _, T8.pushes K9, by omega⟩, by omega⟩
        by_cases n4 : o.kind = 4
        · obtain ⟨u2, c2, N2⟩ := on_does T1.D
          obtain ⟨fs2, H2, ob2, off2⟩ := T1.call1 ob1 hoff N2
          have ok2 := on_ok T.ok
          obtain ⟨u3, c3, N3⟩ := ron_store H2.R
          obtain ⟨q3, rs3, T8, ob3, off3⟩ := H2.call2 ok2 ob2 off2 N3
          simp only [k3_a, WK, vop, evAll, evOpt, evParts, vbuiltin, vun, vextract, Nat.reduceLT, Nat.reduceEqDiff, ↓reduceIte, reduceCtorEq, Nat.reduceAdd, Int.reduceLT, Int.reduceNeg, valloc_std, noSB, vhot, gD0, gD1, k60, g58, g59, g5, g6, hlt', decide_true, decide_false, hwo.addr5 hlt, hld, ZOp5, vbox, hzo, ← hae, hst, op50, op51, op52, op53, x0, x1, x2, x3, n4, (by decide : ¬ (4 : Int) = 0), (by decide : ¬ (4 : Int) = 1), (by decide : ¬ (4 : Int) = 2), (by decide : ¬ (4 : Int) = 3), eq_self]
          refine KD.ret c2 ?_
          obtain ⟨p9, s9, c9, ⟨rfl, K9⟩⟩ := held5_sees T8.D T8.R T8.ok
          simp only [k3_a, WK, vop, evAll, evOpt, evParts, vbuiltin, vun, vextract, Nat.reduceLT, Nat.reduceEqDiff, ↓reduceIte, reduceCtorEq, Nat.reduceAdd, Int.reduceLT, Int.reduceNeg, valloc_std, noSB, vhot, gD0, gD1, g5, g6, rFA r2 2 (by omega), oT, c3, eq_self, decide_true, Bool.not_true]
          refine KD.ret c9 ?_
          simp only [k3_a, WK, vop, evAll, evOpt, evParts, vbuiltin, vun, vextract, Nat.reduceLT, Nat.reduceEqDiff, ↓reduceIte, reduceCtorEq, Nat.reduceAdd, Int.reduceLT, Int.reduceNeg, valloc_std, noSB, vhot, gD0, gD1, k60, Bool.not_true, hwi]
          exact ⟨i + 1, ⟨by simp [upd_some], by omega, _, _, _, _, T8.pushes K9, by (show d.writes ≤ _; omega)⟩, by omega⟩
        by_cases n5 : o.kind = 5
        · obtain ⟨u2, c2, N2⟩ := room_does T1.D o.n
          obtain ⟨fs2, H2, ob2, off2⟩ := T1.call1 ob1 hoff N2
          have ok2 := room_ok T.ok hO.n
          obtain ⟨u3, c3, N3⟩ := rroom_store H2.R o.n
          obtain ⟨q3, rs3, T8, ob3, off3⟩ := H2.call2 ok2 ob2 off2 N3
          obtain ⟨y0, y1, y2, y3⟩ := OAat ob2
          simp only [k3_a, WK, vop, evAll, evOpt, evParts, vbuiltin, vun, vextract, Nat.reduceLT, Nat.reduceEqDiff, ↓reduceIte, reduceCtorEq, Nat.reduceAdd, Int.reduceLT, Int.reduceNeg, valloc_std, noSB, vhot, gD0, gD1, k60, g58, g59, g5, g6, hlt', decide_true, decide_false, hwo.addr5 hlt, hld, ZOp5, vbox, hzo, ← hae, hst, op50, op51, op52, op53, x0, x1, x2, x3, n5, (by decide : ¬ (5 : Int) = 0), (by decide : ¬ (5 : Int) = 1), (by decide : ¬ (5 : Int) = 2), (by decide : ¬ (5 : Int) = 3), (by decide : ¬ (5 : Int) = 4), eq_self]
          refine KD.ret c2 ?_
          obtain ⟨p9, s9, c9, ⟨rfl, K9⟩⟩ := held5_sees T8.D T8.R T8.ok
          simp only [k3_a, WK, vop, evAll, evOpt, evParts, vbuiltin, vun, vextract, Nat.reduceLT, Nat.reduceEqDiff, ↓reduceIte, reduceCtorEq, Nat.reduceAdd, Int.reduceLT, Int.reduceNeg, valloc_std, noSB, vhot, gD0, gD1, g5, g6, op51, y1, rFA r2 1 (by omega), c3, eq_self, decide_true, Bool.not_true]
          refine KD.ret c9 ?_
          simp only [k3_a, WK, vop, evAll, evOpt, evParts, vbuiltin, vun, vextract, Nat.reduceLT, Nat.reduceEqDiff, ↓reduceIte, reduceCtorEq, Nat.reduceAdd, Int.reduceLT, Int.reduceNeg, valloc_std, noSB, vhot, gD0, gD1, k60, Bool.not_true, hwi]
          exact ⟨i + 1, ⟨by simp [upd_some], by omega, _, _, _, _, T8.pushes K9, by (show d.writes ≤ _; omega)⟩, by omega⟩
        · obtain ⟨p9, s9, c9, ⟨rfl, K9⟩⟩ := held5_sees T1.D T1.R T1.ok
          simp only [k3_a, WK, vop, evAll, evOpt, evParts, vbuiltin, vun, vextract, Nat.reduceLT, Nat.reduceEqDiff, ↓reduceIte, reduceCtorEq, Nat.reduceAdd, Int.reduceLT, Int.reduceNeg, valloc_std, noSB, vhot, gD0, gD1, k60, g58, g59, g5, g6, hlt', decide_true, decide_false, hwo.addr5 hlt, hld, ZOp5, vbox, hzo, ← hae, hst, op50, op51, op52, op53, x0, x1, x2, x3, n0, n1, n2, n3, n4, n5, eq_self, Bool.not_true]
          refine KD.ret c9 ?_
          simp only [k3_a, WK, vop, evAll, evOpt, evParts, vbuiltin, vun, vextract, Nat.reduceLT, Nat.reduceEqDiff, ↓reduceIte, reduceCtorEq, Nat.reduceAdd, Int.reduceLT, Int.reduceNeg, valloc_std, noSB, vhot, gD0, gD1, k60, Bool.not_true, hwi]
          exact ⟨i + 1, ⟨by simp [upd_some], by omega, _, _, _, _, T1.pushes K9, by omega⟩, by omega⟩
      have hlt' : ¬ (i : Int) < (lo.length : Nat) := by omega
      simp only [k3_a, WK, vop, evAll, evOpt, evParts, vbuiltin, vun, vextract, Nat.reduceLT, Nat.reduceEqDiff, ↓reduceIte, reduceCtorEq, Nat.reduceAdd, Int.reduceLT, Int.reduceNeg, valloc_std, noSB, vhot, gD0, gD1, k60, g59, hlt', decide_false, ofNilP, nilEP]
      refine KD.ret load_nil ?_
      simp only [k3_a, WK, vop, evAll, evOpt, evParts, vbuiltin, vun, vextract, Nat.reduceLT, Nat.reduceEqDiff, ↓reduceIte, reduceCtorEq, Nat.reduceAdd, Int.reduceLT, Int.reduceNeg, valloc_std, noSB, vhot, gD0, gD1, eq_self, decide_true, ofNilP, nilEP]
      refine KD.ret save_nil ?_
      simp only [k3_a, WK, vop, evAll, evOpt, evParts, vbuiltin, vun, vextract, Nat.reduceLT, Nat.reduceEqDiff, ↓reduceIte, reduceCtorEq, Nat.reduceAdd, Int.reduceLT, Int.reduceNeg, valloc_std, noSB, vhot, gD0, gD1, eq_self, decide_true]
    obtain ⟨r, σ', ⟨m, h⟩, rfl⟩ := key
    exact ⟨m, σ', h⟩
end Go.Proofs.YtnegdinonfjdfaaGreatDoor.Q
namespace Go.Proofs.YtnegdinonfjdfaaGreatDoor.Q
open Go Go.RowKit Go.Proofs Go.ChangeShapes Go.WideShapes Go.ChangeAt
noncomputable abbrev listL : List (String × DataW Unit) := Rows.snapDoesUptoRow.laid
theorem only_half : (listL.filter fun x => x.1 == "quern/crc.half") = [("quern/crc.half", Lib.tabData .u32 (half.map fun n : Nat => (n : Int)))] := by kernel_rfl
theorem only_pow : (listL.filter fun x => x.1 == "internal/strconv.uint64pow10") = [("internal/strconv.uint64pow10", Lib.tabData .u64 Lib.pow10Tab)] := by kernel_rfl
theorem only_err : (listL.filter fun x => x.1 == "strconv.ErrSyntax") = [("strconv.ErrSyntax", .iface "*errors.errorString" (.ptr (.agg [.lit (.string [105, 110, 118, 97, 108, 105, 100, 32, 115, 121, 110, 116, 97, 120])])))] := by kernel_rfl
theorem starErr : "*" ++ "errors.errorString" = "*errors.errorString" := by decide
theorem rowErr (u : TypeId) (h : Tryz.prog.typeName? 3 u = some "*errors.errorString") : u = 171 :=
  typeName_ptr_named (nm := "errors.errorString") (by rw [starErr]; kernel_rfl) (by kernel_rfl) (by decide) u (by rw [starErr]; exact h)
theorem lays_of {W : World} (h : laidMetH Tryz.prog listL W) : Lays W.heap.size W := by
  have h1 := h.filter fun x => x.1 == "quern/crc.half"
  have h2 := h.filter fun x => x.1 == "internal/strconv.uint64pow10"
  have h3 := h.filter fun x => x.1 == "strconv.ErrSyntax"
  rw [only_half] at h1
  rw [only_pow] at h2
  rw [only_err] at h3
  have t1 : Lib.TabIs Tryz.prog W "quern/crc.half" .u32 (half.map fun n : Nat => (n : Int)) := Lib.tabIs_of_head (rest := []) (g := 0) (by kernel_rfl) (by kernel_rfl) pTA pTU (by kernel_rfl) (by kernel_rfl) h1
  have t2 : Lib.TabIs Tryz.prog W "internal/strconv.uint64pow10" .u64 Lib.pow10Tab := Lib.tabIs_of_head (rest := []) (g := 3) (by kernel_rfl) (by kernel_rfl) Tryz.underlying166 Tryz.underlying119 (by kernel_rfl) (by kernel_rfl) h2
  obtain ⟨a, s, hv, _⟩ := laid_sentinel (r := []) (g := 1) h3 (by kernel_rfl) (by kernel_rfl) Tryz.underlying113 rowErr Tryz.underlying171 Tryz.underlying173 rfl rfl Tryz.underlying9 (by kernel_rfl) (by kernel_rfl)
  have hg2 : Tryz.prog.globalNamed "strconv.ErrSyntax" = some 1 := by kernel_rfl
  have hc2 : W.cell? ⟨1, 0, none⟩ = some (.iface 171 (.pointer (some a))) := by
    have := World.var?_cell hg2 hv 0
    simpa using this
  refine ⟨?_, fun i hi => ?_, t2, _, hc2, .inr ⟨_, _, rfl⟩⟩
  · have hg3 : Tryz.prog.globalNamed "internal/strconv.uint64pow10" = some 3 := by kernel_rfl
    have := World.block_lt_of_cell? _ _ (t2.cell hg3 0 (by decide))
    simp only at this
    omega
  · have hg : Tryz.prog.globalNamed "quern/crc.half" = some 0 := by kernel_rfl
    have := t1.cell hg i hi
    have e : ∀ j : Fin 16, (half.map fun n : Nat => (n : Int)).getD j.val 0 = ((half.getD j.val 0 : Nat) : Int) := by decide
    rw [e ⟨i, hi⟩] at this
    exact this
section
variable {H : Type} {enc : TypeId × Value → H} {P : Program}
theorem law_callsW {pr : Prim} {W : World} (hp : PrimOk P pr W.heap.size W) (hl : laidOutB P = true) {S : List TypeId} (hS : plainS P S = true) {F : FuncId} {ts : List TypeId} (hts : ∀ t, t ∈ ts → t ∈ S) (h20 : ts.length ≤ 20) (hT : LawTrue P pr F ts) {r : Reach} {b : Nat} {args : Array Value} {ds : List (DataW H)} {ps : List MemPlace}
    (hval : ∀ (j : Nat) t v, ts[j]? = some t → args.toList[j]? = some v → Value.okWide P W r b t v) (hA : DataW.TrodAll enc P W 0 (fun _ => true) true ts args.toList ds ps) (hk : Rows.uptoBulkAll ds ≤ 1048576) :
    Calls P F args W fun e W' => e = .returned (.bool true) ∧ Below W.heap.size W W' := by
  obtain ⟨xs, h1, h2, h3⟩ := args_V hl hS hts hval hA
  obtain ⟨n, σ', hn⟩ := hT xs h2 (by omega)
  have := vcall_sound hp hn (gh0 W) W args.toList (rel0 W) h1
  rw [Array.toArray_toList] at this
  refine this.mono fun e W' ⟨g', hE, hR, u, he, hV⟩ => ?_
  simp only [VR] at hV
  subst hV
  exact ⟨he, hR.below⟩
end
def cellsD : DataW Unit → Array Value
  | .agg l => (l.map fun | .lit (.int k z) => Value.int k z | _ => undef).toArray
  | _ => #[]
noncomputable def low : Nat := (World.holding Tryz.prog default ⟨#[], #[], []⟩).heap.size
def textR : ByteArray := ⟨#[118, 97, 108, 117, 101, 32, 111, 117, 116, 32, 111, 102, 32, 114, 97, 110, 103, 101]⟩
def textS : ByteArray := ⟨#[105, 110, 118, 97, 108, 105, 100, 32, 115, 121, 110, 116, 97, 120]⟩
noncomputable def laidWorld (os : Os) : World :=
  let w0 := World.holding Tryz.prog os ⟨#[.cells #[.string textR] 173, .cells #[.string textS] 173], #[], []⟩
  let put (h : Array Obj) (g : Nat) (cs : Array Value) : Array Obj := h.modify g fun
    | .cells _ t frozen => .cells cs t frozen
    | o => o
  let h1 := put w0.heap 0 (cellsD Rows.laid_quern_crc_half)
  let h2 := put h1 3 (cellsD Rows.laid_internal_strconv_uint64pow10)
  let h3 := put h2 1 #[.iface 171 (.pointer (some ⟨low + 1, 0, none⟩))]
  let h4 := put h3 2 #[.iface 171 (.pointer (some ⟨low, 0, none⟩))]
  let h5 := put h4 4 (cellsD Rows.laid_math_bits_deBruijn32tab)
  let h6 := put h5 5 (cellsD Rows.laid_math_bits_deBruijn64tab)
  { w0 with heap := h6 }
theorem laid_met (os : Os) (args : Array Value) : laidMet Tryz.prog listL ((laidWorld os).forCall (fun _ _ => 0) ⟨#[], args, []⟩).memory :=
  laidMet_of_run' 8 (by kernel_rfl) (by kernel_rfl)
end Go.Proofs.YtnegdinonfjdfaaGreatDoor.Q
