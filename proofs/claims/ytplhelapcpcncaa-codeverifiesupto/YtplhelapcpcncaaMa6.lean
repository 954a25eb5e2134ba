/- A part of the proof: Cd, Tk, Tp, Vb, Vc, Vd, Vf, Vg, Vh, Vi, Ve, Vj. -/
import Derived.Test.YtplhelapcpcncaaMa5
set_option linter.unusedVariables false
set_option linter.unusedSimpArgs false
set_option maxRecDepth 100000
namespace Go.Proofs.Ytplhelapcpcncaa.Q
open Go Go.RowKit Go.Proofs

theorem cfits_does {σ : St} {m : Mdl} {c : List V} (hm : MdlS σ m c) (st : Int) {n : Nat} (hn : n < m.funcs.length) (i : Ins) :
    ∃ σ', Does Try.prog prims 25 [.agg c, .int .i64 st, .int .i64 (n : Int), .agg (insC i)] σ (.ret (.bool (rightS m st n m.funcs[n] i))) σ' ∧ Keep σ σ' := by
  have key : ∃ q σ', Does Try.prog prims 25 [.agg c, .int .i64 st, .int .i64 (n : Int), .agg (insC i)] σ q σ' ∧ q = .ret (.bool (rightS m st n m.funcs[n] i)) ∧ Keep σ σ' := by
    apply k25_is.does (by simp)
    obtain ⟨w1, w2, hc, hv, hf⟩ := hm
    obtain ⟨s1, hs1⟩ : ∃ s1 : St, s1 = ⟨(σ.objs ++ [Ob.cells c]) ++ [Ob.cells (insC i)], σ.toks⟩ := ⟨_, rfl⟩
    have k1 : Keep σ s1 := by rw [hs1]; exact ((Keep.refl σ).push _).push _
    have o1 : s1.objs[σ.objs.length]? = some (.cells [w1, w2]) := by rw [hs1, ← hc]; simp
    have o2 : s1.objs[σ.objs.length + 1]? = some (.cells (insC i)) := by rw [hs1]; simp
    have hlen : (σ.objs ++ [Ob.cells c]).length = σ.objs.length + 1 := by simp
    obtain ⟨p, cf, hp, hF, hpl⟩ := fun_load hf hn
    obtain ⟨s2, s3, wc, hs2, st3, k3, o3, hcode, hl3⟩ := funmade s1 hF k1
    obtain ⟨f, hfe⟩ : ∃ f, f = m.funcs[n] := ⟨_, rfl⟩
    rw [← hfe] at hF o3 hcode ⊢
    have ldf : vload Try.prog s1.objs 23 (.optr σ.objs.length 1) = some w2 := by rw [vload_obj o1 FsG]; rfl
    have e1 := k3.1 _ _ o1
    have e2 := k3.1 _ _ o2
    have f0 : vload Try.prog s3.objs 22 (.optr σ.objs.length 0) = some w1 := by rw [vload_obj e1 VsG]; rfl
    have f1 : vload Try.prog s3.objs 3 (.optr s1.objs.length 1) = some (.int .i64 f.locals) := by rw [vload_obj o3 G3]; rfl
    have f4 : vload Try.prog s3.objs 35 (.optr s1.objs.length 4) = some wc := by rw [vload_obj o3 NsG]; rfl
    have g0 : vload Try.prog s3.objs 3 (.optr (σ.objs.length + 1) 0) = some (.int .i64 i.op) := by rw [vload_obj e2 G3]; rfl
    have g1 : vload Try.prog s3.objs 3 (.optr (σ.objs.length + 1) 1) = some (.int .i64 i.a) := by rw [vload_obj e2 G3]; rfl
    have lv := hv.len
    have lc : vlen Try.prog 35 wc = some (.int .i64 (f.code.length : Nat)) := RowS.len hcode NT
    have kend : Keep σ s3 := k1.trans k3
    have tf : ∀ p : Prop, p = True ∨ p = False := fun p => by by_cases h : p <;> simp [h]
    obtain ⟨o, a⟩ := i
    simp only [k25_a, WK, vop, evAll, evOpt, evParts, vbuiltin, vun, vextract, Nat.reduceLT, Nat.reduceEqDiff, ↓reduceIte, reduceCtorEq, Nat.reduceAdd, Int.reduceLT, Int.reduceNeg, valloc_std, noSB, vhot, vbox, vcells, hlen, ← hs1, MF1, MF0, ldf, hp, hpl s1 k1, FZ, ← hs2, st3, NF0, g0]
    by_cases ho : 1 ≤ o ∧ o ≤ 21
    · rcases ins_cases ho with rfl | rfl | rfl | rfl | rfl | rfl | rfl | rfl | rfl | rfl | rfl | rfl | rfl | rfl | rfl | rfl | rfl | rfl | rfl | rfl | rfl
      · have hR : rightS m st n f ⟨1, a⟩ = (decide (0 ≤ a) && decide (a < ((m.consts.length : Nat) : Int))) := by rw [Bool.eq_iff_iff]; simp [rightS, limL, lookI]; try omega
        rw [hR]
        rcases tf (0 ≤ a) with h1 | h1 <;> rcases tf (a < ((m.consts.length : Nat) : Int)) with h2 | h2 <;>
        (simp only [k25_a, WK, vop, evAll, evOpt, evParts, vbuiltin, vun, vextract, Nat.reduceLT, Nat.reduceEqDiff, ↓reduceIte, reduceCtorEq, Nat.reduceAdd, Int.reduceLT, Int.reduceNeg, valloc_std, noSB, vhot, MF0, FF1', FF4', NF0, NF1, f0, f1, f4, g0, g1, lv, lc, Int.reduceEq, Int.reduceLE, h1, h2, Bool.true_and, Bool.false_and, Bool.and_true, Bool.and_false]
         exact kend)
      · have hR : rightS m st n f ⟨2, a⟩ = (decide (0 ≤ a) && decide (a < f.locals)) := by rw [Bool.eq_iff_iff]; simp [rightS, limL, lookI]; try omega
        rw [hR]
        rcases tf (0 ≤ a) with h1 | h1 <;> rcases tf (a < f.locals) with h2 | h2 <;>
        (simp only [k25_a, WK, vop, evAll, evOpt, evParts, vbuiltin, vun, vextract, Nat.reduceLT, Nat.reduceEqDiff, ↓reduceIte, reduceCtorEq, Nat.reduceAdd, Int.reduceLT, Int.reduceNeg, valloc_std, noSB, vhot, MF0, FF1', FF4', NF0, NF1, f0, f1, f4, g0, g1, lv, lc, Int.reduceEq, Int.reduceLE, h1, h2, Bool.true_and, Bool.false_and, Bool.and_true, Bool.and_false]
         exact kend)
      · have hR : rightS m st n f ⟨3, a⟩ = (decide (0 ≤ a) && decide (a < f.locals)) := by rw [Bool.eq_iff_iff]; simp [rightS, limL, lookI]; try omega
        rw [hR]
        rcases tf (0 ≤ a) with h1 | h1 <;> rcases tf (a < f.locals) with h2 | h2 <;>
        (simp only [k25_a, WK, vop, evAll, evOpt, evParts, vbuiltin, vun, vextract, Nat.reduceLT, Nat.reduceEqDiff, ↓reduceIte, reduceCtorEq, Nat.reduceAdd, Int.reduceLT, Int.reduceNeg, valloc_std, noSB, vhot, MF0, FF1', FF4', NF0, NF1, f0, f1, f4, g0, g1, lv, lc, Int.reduceEq, Int.reduceLE, h1, h2, Bool.true_and, Bool.false_and, Bool.and_true, Bool.and_false]
         exact kend)
      · have hR : rightS m st n f ⟨4, a⟩ = (decide (0 ≤ a) && decide (a < st)) := by rw [Bool.eq_iff_iff]; simp [rightS, limL, lookI]; try omega
        rw [hR]
        rcases tf (0 ≤ a) with h1 | h1 <;> rcases tf (a < st) with h2 | h2 <;>
        (simp only [k25_a, WK, vop, evAll, evOpt, evParts, vbuiltin, vun, vextract, Nat.reduceLT, Nat.reduceEqDiff, ↓reduceIte, reduceCtorEq, Nat.reduceAdd, Int.reduceLT, Int.reduceNeg, valloc_std, noSB, vhot, MF0, FF1', FF4', NF0, NF1, f0, f1, f4, g0, g1, lv, lc, Int.reduceEq, Int.reduceLE, h1, h2, Bool.true_and, Bool.false_and, Bool.and_true, Bool.and_false]
         exact kend)
      · have hR : rightS m st n f ⟨5, a⟩ = (decide (0 ≤ a) && decide (a < st)) := by rw [Bool.eq_iff_iff]; simp [rightS, limL, lookI]; try omega
        rw [hR]
        rcases tf (0 ≤ a) with h1 | h1 <;> rcases tf (a < st) with h2 | h2 <;>
        (simp only [k25_a, WK, vop, evAll, evOpt, evParts, vbuiltin, vun, vextract, Nat.reduceLT, Nat.reduceEqDiff, ↓reduceIte, reduceCtorEq, Nat.reduceAdd, Int.reduceLT, Int.reduceNeg, valloc_std, noSB, vhot, MF0, FF1', FF4', NF0, NF1, f0, f1, f4, g0, g1, lv, lc, Int.reduceEq, Int.reduceLE, h1, h2, Bool.true_and, Bool.false_and, Bool.and_true, Bool.and_false]
         exact kend)
      · have hR : rightS m st n f ⟨6, a⟩ = (decide (0 ≤ a) && decide (a < 1)) := by rw [Bool.eq_iff_iff]; simp [rightS, limL, lookI]; try omega
        rw [hR]
        rcases tf (0 ≤ a) with h1 | h1 <;> rcases tf (a < 1) with h2 | h2 <;>
        (simp only [k25_a, WK, vop, evAll, evOpt, evParts, vbuiltin, vun, vextract, Nat.reduceLT, Nat.reduceEqDiff, ↓reduceIte, reduceCtorEq, Nat.reduceAdd, Int.reduceLT, Int.reduceNeg, valloc_std, noSB, vhot, MF0, FF1', FF4', NF0, NF1, f0, f1, f4, g0, g1, lv, lc, Int.reduceEq, Int.reduceLE, h1, h2, Bool.true_and, Bool.false_and, Bool.and_true, Bool.and_false]
         exact kend)
      · have hR : rightS m st n f ⟨7, a⟩ = (decide (0 ≤ a) && decide (a < ((f.code.length : Nat) : Int))) := by rw [Bool.eq_iff_iff]; simp [rightS, limL, lookI]; try omega
        rw [hR]
        rcases tf (0 ≤ a) with h1 | h1 <;> rcases tf (a < ((f.code.length : Nat) : Int)) with h2 | h2 <;>
        (simp only [k25_a, WK, vop, evAll, evOpt, evParts, vbuiltin, vun, vextract, Nat.reduceLT, Nat.reduceEqDiff, ↓reduceIte, reduceCtorEq, Nat.reduceAdd, Int.reduceLT, Int.reduceNeg, valloc_std, noSB, vhot, MF0, FF1', FF4', NF0, NF1, f0, f1, f4, g0, g1, lv, lc, Int.reduceEq, Int.reduceLE, h1, h2, Bool.true_and, Bool.false_and, Bool.and_true, Bool.and_false]
         exact kend)
      · have hR : rightS m st n f ⟨8, a⟩ = (decide (0 ≤ a) && decide (a < ((f.code.length : Nat) : Int))) := by rw [Bool.eq_iff_iff]; simp [rightS, limL, lookI]; try omega
        rw [hR]
        rcases tf (0 ≤ a) with h1 | h1 <;> rcases tf (a < ((f.code.length : Nat) : Int)) with h2 | h2 <;>
        (simp only [k25_a, WK, vop, evAll, evOpt, evParts, vbuiltin, vun, vextract, Nat.reduceLT, Nat.reduceEqDiff, ↓reduceIte, reduceCtorEq, Nat.reduceAdd, Int.reduceLT, Int.reduceNeg, valloc_std, noSB, vhot, MF0, FF1', FF4', NF0, NF1, f0, f1, f4, g0, g1, lv, lc, Int.reduceEq, Int.reduceLE, h1, h2, Bool.true_and, Bool.false_and, Bool.and_true, Bool.and_false]
         exact kend)
      · have hR : rightS m st n f ⟨9, a⟩ = (decide (0 ≤ a) && decide (a < ((n : Nat) : Int))) := by rw [Bool.eq_iff_iff]; simp [rightS, limL, lookI]; try omega
        rw [hR]
        rcases tf (0 ≤ a) with h1 | h1 <;> rcases tf (a < ((n : Nat) : Int)) with h2 | h2 <;>
        (simp only [k25_a, WK, vop, evAll, evOpt, evParts, vbuiltin, vun, vextract, Nat.reduceLT, Nat.reduceEqDiff, ↓reduceIte, reduceCtorEq, Nat.reduceAdd, Int.reduceLT, Int.reduceNeg, valloc_std, noSB, vhot, MF0, FF1', FF4', NF0, NF1, f0, f1, f4, g0, g1, lv, lc, Int.reduceEq, Int.reduceLE, h1, h2, Bool.true_and, Bool.false_and, Bool.and_true, Bool.and_false]
         exact kend)
      · have hR : rightS m st n f ⟨10, a⟩ = (decide (0 ≤ a) && decide (a < 1)) := by rw [Bool.eq_iff_iff]; simp [rightS, limL, lookI]; try omega
        rw [hR]
        rcases tf (0 ≤ a) with h1 | h1 <;> rcases tf (a < 1) with h2 | h2 <;>
        (simp only [k25_a, WK, vop, evAll, evOpt, evParts, vbuiltin, vun, vextract, Nat.reduceLT, Nat.reduceEqDiff, ↓reduceIte, reduceCtorEq, Nat.reduceAdd, Int.reduceLT, Int.reduceNeg, valloc_std, noSB, vhot, MF0, FF1', FF4', NF0, NF1, f0, f1, f4, g0, g1, lv, lc, Int.reduceEq, Int.reduceLE, h1, h2, Bool.true_and, Bool.false_and, Bool.and_true, Bool.and_false]
         exact kend)
      · have hR : rightS m st n f ⟨11, a⟩ = (decide (0 ≤ a) && decide (a < 1099511627777)) := by rw [Bool.eq_iff_iff]; simp [rightS, limL, lookI]; try omega
        rw [hR]
        rcases tf (0 ≤ a) with h1 | h1 <;> rcases tf (a < 1099511627777) with h2 | h2 <;>
        (simp only [k25_a, WK, vop, evAll, evOpt, evParts, vbuiltin, vun, vextract, Nat.reduceLT, Nat.reduceEqDiff, ↓reduceIte, reduceCtorEq, Nat.reduceAdd, Int.reduceLT, Int.reduceNeg, valloc_std, noSB, vhot, MF0, FF1', FF4', NF0, NF1, f0, f1, f4, g0, g1, lv, lc, Int.reduceEq, Int.reduceLE, h1, h2, Bool.true_and, Bool.false_and, Bool.and_true, Bool.and_false]
         exact kend)
      · have hR : rightS m st n f ⟨12, a⟩ = (decide (3 ≤ a) && decide (a < 14)) := by rw [Bool.eq_iff_iff]; simp [rightS, limL, lookI]; try omega
        rw [hR]
        rcases tf (3 ≤ a) with h1 | h1 <;> rcases tf (a < 14) with h2 | h2 <;>
        (simp only [k25_a, WK, vop, evAll, evOpt, evParts, vbuiltin, vun, vextract, Nat.reduceLT, Nat.reduceEqDiff, ↓reduceIte, reduceCtorEq, Nat.reduceAdd, Int.reduceLT, Int.reduceNeg, valloc_std, noSB, vhot, MF0, FF1', FF4', NF0, NF1, f0, f1, f4, g0, g1, lv, lc, Int.reduceEq, Int.reduceLE, h1, h2, Bool.true_and, Bool.false_and, Bool.and_true, Bool.and_false]
         exact kend)
      · have hR : rightS m st n f ⟨13, a⟩ = (decide (0 ≤ a) && decide (a < 1)) := by rw [Bool.eq_iff_iff]; simp [rightS, limL, lookI]; try omega
        rw [hR]
        rcases tf (0 ≤ a) with h1 | h1 <;> rcases tf (a < 1) with h2 | h2 <;>
        (simp only [k25_a, WK, vop, evAll, evOpt, evParts, vbuiltin, vun, vextract, Nat.reduceLT, Nat.reduceEqDiff, ↓reduceIte, reduceCtorEq, Nat.reduceAdd, Int.reduceLT, Int.reduceNeg, valloc_std, noSB, vhot, MF0, FF1', FF4', NF0, NF1, f0, f1, f4, g0, g1, lv, lc, Int.reduceEq, Int.reduceLE, h1, h2, Bool.true_and, Bool.false_and, Bool.and_true, Bool.and_false]
         exact kend)
      · have hR : rightS m st n f ⟨14, a⟩ = (decide (0 ≤ a) && decide (a < 1)) := by rw [Bool.eq_iff_iff]; simp [rightS, limL, lookI]; try omega
        rw [hR]
        rcases tf (0 ≤ a) with h1 | h1 <;> rcases tf (a < 1) with h2 | h2 <;>
        (simp only [k25_a, WK, vop, evAll, evOpt, evParts, vbuiltin, vun, vextract, Nat.reduceLT, Nat.reduceEqDiff, ↓reduceIte, reduceCtorEq, Nat.reduceAdd, Int.reduceLT, Int.reduceNeg, valloc_std, noSB, vhot, MF0, FF1', FF4', NF0, NF1, f0, f1, f4, g0, g1, lv, lc, Int.reduceEq, Int.reduceLE, h1, h2, Bool.true_and, Bool.false_and, Bool.and_true, Bool.and_false]
         exact kend)
      · have hR : rightS m st n f ⟨15, a⟩ = (decide (0 ≤ a) && decide (a < 1)) := by rw [Bool.eq_iff_iff]; simp [rightS, limL, lookI]; try omega
        rw [hR]
        rcases tf (0 ≤ a) with h1 | h1 <;> rcases tf (a < 1) with h2 | h2 <;>
        (simp only [k25_a, WK, vop, evAll, evOpt, evParts, vbuiltin, vun, vextract, Nat.reduceLT, Nat.reduceEqDiff, ↓reduceIte, reduceCtorEq, Nat.reduceAdd, Int.reduceLT, Int.reduceNeg, valloc_std, noSB, vhot, MF0, FF1', FF4', NF0, NF1, f0, f1, f4, g0, g1, lv, lc, Int.reduceEq, Int.reduceLE, h1, h2, Bool.true_and, Bool.false_and, Bool.and_true, Bool.and_false]
         exact kend)
      · have hR : rightS m st n f ⟨16, a⟩ = (decide (0 ≤ a) && decide (a < 1)) := by rw [Bool.eq_iff_iff]; simp [rightS, limL, lookI]; try omega
        rw [hR]
        rcases tf (0 ≤ a) with h1 | h1 <;> rcases tf (a < 1) with h2 | h2 <;>
        (simp only [k25_a, WK, vop, evAll, evOpt, evParts, vbuiltin, vun, vextract, Nat.reduceLT, Nat.reduceEqDiff, ↓reduceIte, reduceCtorEq, Nat.reduceAdd, Int.reduceLT, Int.reduceNeg, valloc_std, noSB, vhot, MF0, FF1', FF4', NF0, NF1, f0, f1, f4, g0, g1, lv, lc, Int.reduceEq, Int.reduceLE, h1, h2, Bool.true_and, Bool.false_and, Bool.and_true, Bool.and_false]
         exact kend)
      · have hR : rightS m st n f ⟨17, a⟩ = (decide (0 ≤ a) && decide (a < 1)) := by rw [Bool.eq_iff_iff]; simp [rightS, limL, lookI]; try omega
        rw [hR]
        rcases tf (0 ≤ a) with h1 | h1 <;> rcases tf (a < 1) with h2 | h2 <;>
        (simp only [k25_a, WK, vop, evAll, evOpt, evParts, vbuiltin, vun, vextract, Nat.reduceLT, Nat.reduceEqDiff, ↓reduceIte, reduceCtorEq, Nat.reduceAdd, Int.reduceLT, Int.reduceNeg, valloc_std, noSB, vhot, MF0, FF1', FF4', NF0, NF1, f0, f1, f4, g0, g1, lv, lc, Int.reduceEq, Int.reduceLE, h1, h2, Bool.true_and, Bool.false_and, Bool.and_true, Bool.and_false]
         exact kend)
      · have hR : rightS m st n f ⟨18, a⟩ = (decide (0 ≤ a) && decide (a < 1)) := by rw [Bool.eq_iff_iff]; simp [rightS, limL, lookI]; try omega
        rw [hR]
        rcases tf (0 ≤ a) with h1 | h1 <;> rcases tf (a < 1) with h2 | h2 <;>
        (simp only [k25_a, WK, vop, evAll, evOpt, evParts, vbuiltin, vun, vextract, Nat.reduceLT, Nat.reduceEqDiff, ↓reduceIte, reduceCtorEq, Nat.reduceAdd, Int.reduceLT, Int.reduceNeg, valloc_std, noSB, vhot, MF0, FF1', FF4', NF0, NF1, f0, f1, f4, g0, g1, lv, lc, Int.reduceEq, Int.reduceLE, h1, h2, Bool.true_and, Bool.false_and, Bool.and_true, Bool.and_false]
         exact kend)
      · have hR : rightS m st n f ⟨19, a⟩ = (decide (0 ≤ a) && decide (a < 1)) := by rw [Bool.eq_iff_iff]; simp [rightS, limL, lookI]; try omega
        rw [hR]
        rcases tf (0 ≤ a) with h1 | h1 <;> rcases tf (a < 1) with h2 | h2 <;>
        (simp only [k25_a, WK, vop, evAll, evOpt, evParts, vbuiltin, vun, vextract, Nat.reduceLT, Nat.reduceEqDiff, ↓reduceIte, reduceCtorEq, Nat.reduceAdd, Int.reduceLT, Int.reduceNeg, valloc_std, noSB, vhot, MF0, FF1', FF4', NF0, NF1, f0, f1, f4, g0, g1, lv, lc, Int.reduceEq, Int.reduceLE, h1, h2, Bool.true_and, Bool.false_and, Bool.and_true, Bool.and_false]
         exact kend)
      · have hR : rightS m st n f ⟨20, a⟩ = (decide (0 ≤ a) && decide (a < 1)) := by rw [Bool.eq_iff_iff]; simp [rightS, limL, lookI]; try omega
        rw [hR]
        rcases tf (0 ≤ a) with h1 | h1 <;> rcases tf (a < 1) with h2 | h2 <;>
        (simp only [k25_a, WK, vop, evAll, evOpt, evParts, vbuiltin, vun, vextract, Nat.reduceLT, Nat.reduceEqDiff, ↓reduceIte, reduceCtorEq, Nat.reduceAdd, Int.reduceLT, Int.reduceNeg, valloc_std, noSB, vhot, MF0, FF1', FF4', NF0, NF1, f0, f1, f4, g0, g1, lv, lc, Int.reduceEq, Int.reduceLE, h1, h2, Bool.true_and, Bool.false_and, Bool.and_true, Bool.and_false]
         exact kend)
      · have hR : rightS m st n f ⟨21, a⟩ = (decide (0 ≤ a) && decide (a < 1)) := by rw [Bool.eq_iff_iff]; simp [rightS, limL, lookI]; try omega
        rw [hR]
        rcases tf (0 ≤ a) with h1 | h1 <;> rcases tf (a < 1) with h2 | h2 <;>
        (simp only [k25_a, WK, vop, evAll, evOpt, evParts, vbuiltin, vun, vextract, Nat.reduceLT, Nat.reduceEqDiff, ↓reduceIte, reduceCtorEq, Nat.reduceAdd, Int.reduceLT, Int.reduceNeg, valloc_std, noSB, vhot, MF0, FF1', FF4', NF0, NF1, f0, f1, f4, g0, g1, lv, lc, Int.reduceEq, Int.reduceLE, h1, h2, Bool.true_and, Bool.false_and, Bool.and_true, Bool.and_false]
         exact kend)
    · have ne : ∀ k : Int, 1 ≤ k → k ≤ 21 → (o = k) = False := fun k h1 h2 => eq_false fun e => ho (by omega)
      have hR : rightS m st n f ⟨o, a⟩ = false := by
        have hl : lookI (limL m st n f) o = none := by
          have n1 : ∀ k : Int, 1 ≤ k → k ≤ 21 → ¬ k = o := fun k h1 h2 e => ho (by omega)
          simp [limL, lookI, n1 1, n1 2, n1 3, n1 4, n1 5, n1 7, n1 8, n1 9, n1 11, n1 12]
        unfold rightS
        simp only [hl]
        rw [Bool.eq_false_iff]
        simp
        intro h1 h2
        exact absurd ⟨h1, h2⟩ ho
      rw [hR]
      rcases tf (1 ≤ o) with h1 | h1 <;> rcases tf (o ≤ 21) with h2 | h2
      · exact absurd ⟨of_eq_true h1, of_eq_true h2⟩ ho
      all_goals
        simp only [k25_a, WK, vop, evAll, evOpt, evParts, vbuiltin, vun, vextract, Nat.reduceLT, Nat.reduceEqDiff, ↓reduceIte, reduceCtorEq, Nat.reduceAdd, Int.reduceLT, Int.reduceNeg, valloc_std, noSB, vhot, MF0, FF1', FF4', NF0, NF1, f0, f1, f4, g0, g1, lv, lc, ne 1 (by decide) (by decide), ne 2 (by decide) (by decide), ne 3 (by decide) (by decide), ne 4 (by decide) (by decide), ne 5 (by decide) (by decide), ne 7 (by decide) (by decide), ne 8 (by decide) (by decide), ne 9 (by decide) (by decide), ne 11 (by decide) (by decide), ne 12 (by decide) (by decide), h1, h2, Bool.true_and, Bool.false_and, Bool.and_true, Bool.and_false]
        exact kend
  obtain ⟨q, σ', h1, rfl, h2⟩ := key
  exact ⟨σ', h1, h2⟩
end Go.Proofs.Ytplhelapcpcncaa.Q

set_option linter.unusedVariables false
set_option linter.unusedSimpArgs false
set_option maxRecDepth 100000
namespace Go.Proofs.Ytplhelapcpcncaa.Q
open Go Go.RowKit Go.Proofs

def valN : List UInt8 → Nat
  | [] => 0
  | b :: bs => b.toNat % 128 + 128 * valN bs

def runN : List UInt8 → Nat
  | [] => 0
  | b :: bs => if 127 < b.toNat then runN bs + 1 else 0

def takeS (bs : List UInt8) : Nat × Nat :=
  if bs.length ≤ runN bs ∨ 9 ≤ runN bs ∨ (0 < runN bs ∧ (bs.getD (runN bs) 0).toNat = 0) then (0, 0) else (valN (bs.take (runN bs + 1)), runN bs + 1)

theorem valN_append (a b : List UInt8) : valN (a ++ b) = valN a + 128 ^ a.length * valN b := by
  induction a with
  | nil => simp [valN]
  | cons x a ih => simp only [List.cons_append, valN, ih, List.length_cons, Nat.pow_succ]; rw [Nat.mul_add, ← Nat.mul_assoc, Nat.mul_comm 128 (128 ^ a.length)]; omega

theorem valN_lt (a : List UInt8) : valN a < 128 ^ a.length := by
  induction a with
  | nil => simp [valN]
  | cons x a ih => simp only [valN, List.length_cons, Nat.pow_succ]; omega

theorem valN_take_succ {bs : List UInt8} {i : Nat} (h : i < bs.length) : valN (bs.take (i + 1)) = valN (bs.take i) + 128 ^ i * (bs[i].toNat % 128) := by
  rw [List.take_succ_eq_append_getElem h, valN_append]
  simp [valN, Nat.min_eq_left (Nat.le_of_lt h)]

theorem runN_ge {bs : List UInt8} : ∀ {i : Nat}, i ≤ runN bs → ∀ j (h : j < bs.length), j < i → 127 < bs[j].toNat := by
  induction bs with
  | nil => intro i _ j h; simp at h
  | cons b bs ih =>
    intro i hi j h hj
    simp only [runN] at hi
    split at hi
    · cases j with
      | zero => simpa
      | succ j => simpa using ih (i := i - 1) (by omega) j (by simpa using h) (by omega)
    · omega

theorem runN_len (bs : List UInt8) : runN bs ≤ bs.length := by
  induction bs with
  | nil => simp [runN]
  | cons b bs ih => simp only [runN, List.length_cons]; split <;> omega

theorem runN_at {bs : List UInt8} : (h : runN bs < bs.length) → bs[runN bs].toNat ≤ 127 := by
  induction bs with
  | nil => intro h; simp at h
  | cons b bs ih =>
    intro h
    by_cases hb : 127 < b.toNat
    · simp only [runN, hb, if_true] at h ⊢
      exact ih (by simpa using h)
    · simp only [runN, hb, if_false] at h ⊢
      simpa using hb

theorem runN_lt {bs : List UInt8} {i : Nat} (hi : i ≤ runN bs) (h : i < bs.length) : 127 < bs[i].toNat ↔ i < runN bs := by
  constructor
  · intro hb
    rcases Nat.lt_or_ge i (runN bs) with h1 | h1
    · exact h1
    · have he : i = runN bs := by omega
      subst he
      have := runN_at h
      omega
  · intro h1
    exact runN_ge (i := i + 1) (by omega) i h (by omega)

theorem and127 : ∀ b : UInt8, bitOp .and .u8 (b.toNat : Int) 127 = some ((b.toNat % 128 : Nat) : Int) := by
  intro b
  have : ∀ n : Nat, n < 256 → bitOp .and .u8 (n : Int) 127 = some ((n % 128 : Nat) : Int) := by decide +kernel
  exact this _ b.toNat_lt

theorem or_i64 {a c s : Nat} (ha : a < 2 ^ s) (hc : c * 2 ^ s + a < 2 ^ 63) : bitOp .or .i64 (a : Int) ((c * 2 ^ s : Nat) : Int) = some ((a + c * 2 ^ s : Nat) : Int) := by
  have h1 : a ||| c * 2 ^ s = a + c * 2 ^ s := by
    have := Nat.shiftLeft_add_eq_or_of_lt ha c
    rw [Nat.shiftLeft_eq] at this
    rw [Nat.or_comm, ← this, Nat.add_comm]
  simp only [bitOp, IntKind.bits]
  congr 1
  have h2 : (BitVec.ofInt 64 (a : Int) ||| BitVec.ofInt 64 ((c * 2 ^ s : Nat) : Int)).toNat = a + c * 2 ^ s := by
    rw [BitVec.toNat_or, BitVec.ofInt_natCast, BitVec.ofInt_natCast, BitVec.toNat_ofNat, BitVec.toNat_ofNat, Nat.mod_eq_of_lt (by omega), Nat.mod_eq_of_lt (by omega), h1]
  exact (congrArg (fun n : Nat => IntKind.i64.wrap (n : Int)) h2).trans (wrap_i64 (by omega) (by omega))

def I12 (v : V) (σ : St) (bs : List UInt8) : Nat → (Nat → V) → St → Prop := fun i e σ' => σ' = σ ∧ e 0 = v ∧ e 5 = .int .i64 i ∧ e 4 = .int .i64 (valN (bs.take i) : Nat) ∧ i ≤ runN bs ∧ i ≤ 9


theorem take_does {v : V} {bs : List UInt8} (hv : BtsV v bs) (hlen : bs.length ≤ maxLen) (σ : St) : Does Try.prog prims 53 [v] σ (.ret (.tuple [.int .i64 ((takeS bs).1 : Nat), .int .i64 ((takeS bs).2 : Nat)])) σ := by
  apply k53_is.ret (by simp)
  have hrl := runN_len bs
  simp only [k53_a, WK, vop, evAll, evOpt, evParts, vbuiltin, vun, vextract, Nat.reduceLT, Nat.reduceEqDiff, ↓reduceIte, reduceCtorEq, Nat.reduceAdd, Int.reduceLT, Int.reduceNeg, valloc_std, noSB, vhot]
  refine Ev.loop' (I12 v σ bs) (fun i => 9 - i) 0 ?_ ?_
  · simp [I12, upd_some, valN]
  · rintro i e σ' ⟨rfl, h0, h5, h4, hi1, hi2⟩
    by_cases h1 : i < bs.length
    · have h1' : (i : Int) < bs.length := Int.ofNat_lt.2 h1
      by_cases h2 : i < 9
      · have h2' : (i : Int) < 9 := by omega
        have hn : ¬ (7 * (i : Int) < 0) := by omega
        have hw1 : IntKind.i64.wrap (7 * (i : Int)) = 7 * (i : Int) := wrap_i64 (by omega) (by omega)
        have ht : (7 * (i : Int)).toNat = 7 * i := by omega
        have hm : min (7 * i) IntKind.i64.bits = 7 * i := by simp only [IntKind.bits]; omega
        have hp : 128 ^ i = 2 ^ (7 * i) := by rw [Nat.pow_mul]
        have hpow : 2 ^ (7 * i) ≤ 2 ^ 56 := Nat.pow_le_pow_right (by omega) (by omega)
        have hlt := valN_lt (bs.take i)
        rw [List.length_take, Nat.min_eq_left (Nat.le_of_lt h1), hp] at hlt
        have hm128 : bs[i].toNat % 128 ≤ 127 := by omega
        have hmul : bs[i].toNat % 128 * 2 ^ (7 * i) ≤ 127 * 2 ^ 56 := Nat.mul_le_mul hm128 hpow
        have hc1 : IntKind.i64.wrap ((bs[i].toNat % 128 : Nat) : Int) = (bs[i].toNat % 128 : Nat) := wrap_nat (by omega)
        have hc2 : IntKind.i64.wrap (((bs[i].toNat % 128 : Nat) : Int) * 2 ^ (7 * i)) = ((bs[i].toNat % 128 * 2 ^ (7 * i) : Nat) : Int) := by
          have : ((bs[i].toNat % 128 : Nat) : Int) * 2 ^ (7 * i) = ((bs[i].toNat % 128 * 2 ^ (7 * i) : Nat) : Int) := by rw [Int.natCast_mul, Int.natCast_pow]; rfl
          rw [this]; exact wrap_nat (by omega)
        have hor := or_i64 (a := valN (bs.take i)) (c := bs[i].toNat % 128) hlt (by omega)
        have hval := valN_take_succ h1
        rw [hp, Nat.mul_comm (2 ^ (7 * i))] at hval
        rw [← hval] at hor
        have hwi : IntKind.i64.wrap ((i : Int) + 1) = ((i + 1 : Nat) : Int) := by rw [show ((i : Int) + 1) = ((i + 1 : Nat) : Int) from by omega]; exact wrap_nat (by omega)
        have hrun := runN_lt hi1 h1
        by_cases h3 : 127 < bs[i].toNat
        · have h3' : (127 : Int) < bs[i].toNat := Int.ofNat_lt.2 h3
          simp only [k53_a, WK, vop, evAll, evOpt, evParts, vbuiltin, vun, vextract, Nat.reduceLT, Nat.reduceEqDiff, ↓reduceIte, reduceCtorEq, Nat.reduceAdd, Int.reduceLT, Int.reduceNeg, valloc_std, noSB, vhot, h0, h5, h4, hv.len T22, hv.addr T22 S5 (Int.natCast_nonneg i) h1', BtsV.load G5 h1, h1', h2', h3', Int.toNat_natCast, and127, vconv, T5, T3, hc1, hw1, hn, ht, hm, hc2, hor, hwi]
          refine ⟨i + 1, ⟨rfl, ?_⟩, by omega⟩
          simp only [upd_some, Nat.reduceEqDiff, ↓reduceIte, h0, true_and]
          exact ⟨by have := hrun.1 h3; omega, by omega⟩
        · have h3' : ¬ (127 : Int) < bs[i].toNat := fun h => h3 (Int.ofNat_lt.1 h)
          have hri : i = runN bs := by
            have : ¬ i < runN bs := fun h => h3 (hrun.2 h)
            omega
          have hget : bs.getD (runN bs) 0 = bs[i] := by
            rw [← hri, List.getD_eq_getElem?_getD, List.getElem?_eq_getElem h1]
            rfl
          by_cases h4z : bs[i].toNat = 0
          · have hz : decide (((bs[i].toNat : Nat) : Int) = 0) = true := by simp [h4z]
            by_cases h5z : 0 < i
            · have h5' : (0 : Int) < i := by omega
              simp only [k53_a, WK, vop, evAll, evOpt, evParts, vbuiltin, vun, vextract, Nat.reduceLT, Nat.reduceEqDiff, ↓reduceIte, reduceCtorEq, Nat.reduceAdd, Int.reduceLT, Int.reduceNeg, valloc_std, noSB, vhot, h5', h0, h5, h4, hv.len T22, hv.addr T22 S5 (Int.natCast_nonneg i) h1', BtsV.load G5 h1, h1', h2', h3', hz, Int.toNat_natCast, and127, vconv, T5, T3, hc1, hw1, hn, ht, hm, hc2, hor, hwi]
              have : takeS bs = (0, 0) := by unfold takeS; rw [if_pos (.inr (.inr ⟨by omega, by rw [hget]; exact h4z⟩))]
              simp [this]
            · have h5' : ¬ (0 : Int) < i := by omega
              simp only [k53_a, WK, vop, evAll, evOpt, evParts, vbuiltin, vun, vextract, Nat.reduceLT, Nat.reduceEqDiff, ↓reduceIte, reduceCtorEq, Nat.reduceAdd, Int.reduceLT, Int.reduceNeg, valloc_std, noSB, vhot, h5', h0, h5, h4, hv.len T22, hv.addr T22 S5 (Int.natCast_nonneg i) h1', BtsV.load G5 h1, h1', h2', h3', hz, Int.toNat_natCast, and127, vconv, T5, T3, hc1, hw1, hn, ht, hm, hc2, hor, hwi]
              have : takeS bs = (valN (bs.take (i + 1)), i + 1) := by unfold takeS; rw [if_neg (by omega), hri]
              simp [this]
          · have hz : decide (((bs[i].toNat : Nat) : Int) = 0) = false := by simp only [decide_eq_false_iff_not]; omega
            simp only [k53_a, WK, vop, evAll, evOpt, evParts, vbuiltin, vun, vextract, Nat.reduceLT, Nat.reduceEqDiff, ↓reduceIte, reduceCtorEq, Nat.reduceAdd, Int.reduceLT, Int.reduceNeg, valloc_std, noSB, vhot, h0, h5, h4, hv.len T22, hv.addr T22 S5 (Int.natCast_nonneg i) h1', BtsV.load G5 h1, h1', h2', h3', hz, Int.toNat_natCast, and127, vconv, T5, T3, hc1, hw1, hn, ht, hm, hc2, hor, hwi]
            have : takeS bs = (valN (bs.take (i + 1)), i + 1) := by unfold takeS; rw [if_neg (by rw [hget]; omega), hri]
            simp [this]
      · have h2' : ¬ (i : Int) < 9 := by omega
        simp only [k53_a, WK, vop, evAll, evOpt, evParts, vbuiltin, vun, vextract, Nat.reduceLT, Nat.reduceEqDiff, ↓reduceIte, reduceCtorEq, Nat.reduceAdd, Int.reduceLT, Int.reduceNeg, valloc_std, noSB, vhot, h0, h5, h4, hv.len T22, h1', h2']
        have : takeS bs = (0, 0) := by unfold takeS; rw [if_pos (by omega)]
        simp [this]
    · have h1' : ¬ (i : Int) < bs.length := by omega
      simp only [k53_a, WK, vop, evAll, evOpt, evParts, vbuiltin, vun, vextract, Nat.reduceLT, Nat.reduceEqDiff, ↓reduceIte, reduceCtorEq, Nat.reduceAdd, Int.reduceLT, Int.reduceNeg, valloc_std, noSB, vhot, h0, h5, h4, hv.len T22, h1']
      have : takeS bs = (0, 0) := by unfold takeS; rw [if_pos (by omega)]
      simp [this]
theorem takeS_lt (l : List UInt8) : (takeS l).1 < 2 ^ 63 ∧ (takeS l).2 ≤ 9 ∧ (takeS l).2 ≤ l.length := by
  unfold takeS
  split
  · simp
  · rename_i h
    simp only [not_or, Nat.not_le] at h
    have h1 := valN_lt (l.take (runN l + 1))
    have h2 : 128 ^ (l.take (runN l + 1)).length ≤ 128 ^ 9 := Nat.pow_le_pow_right (by omega) (by rw [List.length_take]; omega)
    refine ⟨?_, by omega, by omega⟩
    have : (128 : Nat) ^ 9 = 2 ^ 63 := by decide
    simp only
    omega

theorem takeS_none {l : List UInt8} (h : (takeS l).2 = 0) : (takeS l).1 = 0 := by
  unfold takeS at h ⊢
  split at h
  · rename_i hc; rw [if_pos hc]
  · simp at h
end Go.Proofs.Ytplhelapcpcncaa.Q

set_option linter.unusedVariables false
set_option linter.unusedSimpArgs false
set_option maxRecDepth 100000
namespace Go.Proofs.Ytplhelapcpcncaa.Q
open Go Go.RowKit Go.Proofs

theorem IT : IntT Try.prog 70 3 := ⟨by kernel_rfl, T3, by kernel_rfl, by kernel_rfl, by kernel_rfl, by kernel_rfl, by kernel_rfl⟩

/-- The bytes of a number. -/
def putN (x : Nat) : List UInt8 := if h : 127 < x then UInt8.ofNat (x % 128 + 128) :: putN (x / 128) else [UInt8.ofNat x]
termination_by x
decreasing_by omega

def putS (xs : List Int) : List UInt8 := xs.flatMap fun x => putN x.toNat

theorem putN_len (x : Nat) (k : Nat) (hk : x < 128 ^ (k + 1)) : (putN x).length ≤ k + 1 := by
  induction k generalizing x with
  | zero => rw [putN, dif_neg (by omega)]; simp
  | succ k ih =>
    rw [putN]
    split
    · simp only [List.length_cons]
      have := ih (x / 128) (by rw [Nat.pow_succ] at hk; omega)
      omega
    · simp

theorem and127i {x : Nat} (h : x < 2 ^ 63) : bitOp .and .i64 (x : Int) 127 = some ((x % 128 : Nat) : Int) := by
  simp only [bitOp, IntKind.bits]
  congr 1
  have h2 : (BitVec.ofInt 64 (x : Int) &&& BitVec.ofInt 64 127).toNat = x % 128 := by
    have h3 : (BitVec.ofInt 64 127) = BitVec.ofNat 64 127 := rfl
    rw [h3, BitVec.toNat_and, BitVec.ofInt_natCast, BitVec.toNat_ofNat, BitVec.toNat_ofNat, Nat.mod_eq_of_lt (by omega), Nat.mod_eq_of_lt (by omega)]
    exact Nat.and_two_pow_sub_one_eq_mod x 7
  exact (congrArg (fun n : Nat => IntKind.i64.wrap (n : Int)) h2).trans (wrap_i64 (by omega) (by omega))

theorem or128i {x : Nat} (h : x < 128) : bitOp .or .i64 (x : Int) 128 = some ((x + 128 : Nat) : Int) := by
  have := or_i64 (a := x) (c := 1) (s := 7) (by omega) (by omega)
  simpa using this

/-- The inner loop of Put. -/
def I14 (n : Nat) (σ0 : St) (out : List UInt8) (x : Nat) : Nat → (Nat → V) → St → Prop := fun y e σ => y < 2 ^ 63 ∧ e 7 = .int .i64 y ∧ ∃ bs, OwnV 5 n σ (e 5) bs ∧ Keep σ0 σ ∧ bs ++ putN y = out ++ putN x ∧ bs.length + 9 ≤ 9 + out.length + 9

theorem put_inner {n : Nat} {σ0 σ : St} (hn : n = σ0.toks.length) {out : List UInt8} {x : Nat} (hx : x < 2 ^ 63) (hlen : out.length ≤ 140737488355000) {e : Nat → V} (h7 : e 7 = .int .i64 x) (h5 : OwnV 5 n σ (e 5) out) (hk : Keep σ0 σ) :
    Ev Try.prog prims 43 (.loop k49_l1) e σ (fun ex e' σ' => ex = .exit 2 ∧ Keep σ0 σ' ∧ ∃ y bs, y ≤ 127 ∧ e' 7 = .int .i64 (y : Nat) ∧ OwnV 5 n σ' (e' 5) bs ∧ bs ++ putN y = out ++ putN x) := by
  have hpl : (putN x).length ≤ 9 := putN_len x 8 (by omega)
  refine Ev.loopF (I14 n σ0 out x) (fun y => y) x ⟨hx, h7, out, h5, hk, rfl, by omega⟩ ?_
  rintro y e σ ⟨hy, h7, bs, h5, hk, hbs, hbl⟩ hf
  have hlb : bs.length + (putN y).length = out.length + (putN x).length := by rw [← List.length_append, hbs, List.length_append]
  by_cases hgt : 127 < y
  · have hgt' : (127 : Int) < y := by omega
    have hb := buildByte BT (n := y % 128 + 128) (by omega)
    have hwb : IntKind.u8.wrap ((y % 128 + 128 : Nat) : Int) = ((y % 128 + 128 : Nat) : Int) := wrap_u8 (by omega) (by omega)
    have hor : bitOp .or .i64 ((y % 128 : Nat) : Int) 128 = some ((y % 128 + 128 : Nat) : Int) := or128i (by omega)
    have hsh : (y : Int) / 2 ^ (min (7 : Int).toNat IntKind.i64.bits) = ((y / 128 : Nat) : Int) := by
      have : min (7 : Int).toNat IntKind.i64.bits = 7 := by decide
      rw [this]
      omega
    obtain ⟨v', σ', ha, ho, hk'⟩ := h5.append BT hn hk T22 hb.2 (by simp; omega)
    simp only [k49_a, WK, vop, evAll, evOpt, evParts, vbuiltin, vun, vextract, Nat.reduceLT, Nat.reduceEqDiff, ↓reduceIte, reduceCtorEq, Nat.reduceAdd, Int.reduceLT, Int.reduceNeg, valloc_std, noSB, vhot, h7, hgt', and127i hy, hor, vconv, T3, T5, hwb, hb.1, ha, hsh]
    have hput : putN y = UInt8.ofNat (y % 128 + 128) :: putN (y / 128) := by rw [putN, dif_pos hgt]
    refine ⟨y / 128, ⟨by omega, by simp [upd_some], _, by simp only [upd_some, ↓reduceIte, Nat.reduceEqDiff]; exact ho, hk', ?_, ?_⟩, by omega⟩
    · rw [← hbs, hput, List.append_assoc]; rfl
    · have : (putN y).length = (putN (y / 128)).length + 1 := by rw [hput]; rfl
      simp
      omega
  · have hgt' : ¬ (127 : Int) < y := by omega
    simp only [k49_a, WK, vop, evAll, evOpt, evParts, vbuiltin, vun, vextract, Nat.reduceLT, Nat.reduceEqDiff, ↓reduceIte, reduceCtorEq, Nat.reduceAdd, Int.reduceLT, Int.reduceNeg, valloc_std, noSB, vhot, h7, hgt']
    exact ⟨hk, y, bs, by omega, rfl, h5, hbs⟩

theorem putS_take {xs : List Int} {i : Nat} (h : i < xs.length) : putS (xs.take (i + 1)) = putS (xs.take i) ++ putN (xs[i].toNat) := by
  unfold putS
  rw [List.take_succ_eq_append_getElem h, List.flatMap_append]
  simp only [List.flatMap_cons, List.flatMap_nil, List.append_nil]

theorem putS_len : ∀ {xs : List Int}, (∀ x ∈ xs, InI64 x) → (putS xs).length ≤ 9 * xs.length
  | [], _ => by simp [putS]
  | x :: xs, h => by
    have h1 := putS_len (xs := xs) fun y hy => h y (List.mem_cons_of_mem _ hy)
    have h2 := h x (List.mem_cons_self ..)
    unfold InI64 at h2
    have h3 := putN_len x.toNat 8 (by omega)
    simp only [putS, List.flatMap_cons, List.length_append, List.length_cons] at h1 ⊢
    omega

def I14o (n : Nat) (σ0 : St) (bs : List UInt8) (xs : List Int) : Nat → (Nat → V) → St → Prop := fun i e σ => e 19 = .int .i64 i ∧ i ≤ xs.length ∧ OwnV 5 n σ (e 5) (bs ++ putS (xs.take i)) ∧ Keep σ0 σ

theorem put_does {v w : V} {bs : List UInt8} {xs : List Int} (hv : BtsV v bs) (hw : IntsV w xs) (hlen : bs.length + 9 * xs.length ≤ 140737488300000) (σ : St) :
    ∃ r σ', Does Try.prog prims 49 [v, w] σ (.ret r) σ' ∧ Keep σ σ' ∧ OwnV 5 σ.toks.length σ' r (bs ++ putS xs) := by
  have key : ∃ r σ', Does Try.prog prims 49 [v, w] σ r σ' ∧ ∃ r', r = .ret r' ∧ Keep σ σ' ∧ OwnV 5 σ.toks.length σ' r' (bs ++ putS xs) := by
    apply k49_is.does (by simp)
    have hw1 : IntKind.i64.wrap (2 * (xs.length : Int)) = 2 * (xs.length : Int) := wrap_i64 (by omega) (by omega)
    have hw2 : IntKind.i64.wrap ((bs.length : Int) + 2 * (xs.length : Int)) = (bs.length : Int) + 2 * (xs.length : Int) := wrap_i64 (by omega) (by omega)
    have hmk := make0 BT (σ := σ) (c := (bs.length : Int) + 2 * (xs.length : Int)) (by omega) (by omega)
    have hk1 : Keep σ ⟨σ.objs, σ.toks ++ [true]⟩ := ⟨fun _ _ h => h, by simp, fun k h => tokLive_app h⟩
    have ho1 : OwnV 5 σ.toks.length ⟨σ.objs, σ.toks ++ [true]⟩ (.slice (.tok σ.toks.length 5) 1 [] 0) [] := .inr ⟨_, rfl, .inr ⟨_, rfl, tokLive_new _, Nat.le_refl _⟩⟩
    obtain ⟨v', σ', ha, ho, hk⟩ := ho1.append BT rfl hk1 T22 hv (by simp; omega)
    simp only [k49_a, WK, vop, evAll, evOpt, evParts, vbuiltin, vun, vextract, Nat.reduceLT, Nat.reduceEqDiff, ↓reduceIte, reduceCtorEq, Nat.reduceAdd, Int.reduceLT, Int.reduceNeg, valloc_std, noSB, vhot, List.getD_cons_zero, List.getD_cons_succ, hv.len T22, hw.len IT, hw1, hw2, hmk, ha]
    refine Ev.loopF (I14o σ.toks.length σ bs xs) (fun i => xs.length - i) 0 ⟨by simp [upd_some], by simp, by simpa [upd_some, putS] using ho, hk⟩ ?_
    rintro i e σ1 ⟨h19, hi, h5, hk1⟩ hf
    have h17 : e 17 = w := (hf 17 (by decide)).trans (by simp [upd_some])
    have h18 : e 18 = .int .i64 xs.length := (hf 18 (by decide)).trans (by simp [upd_some])
    by_cases hlt : i < xs.length
    · have hlt' : (i : Int) < xs.length := by omega
      have hI := hw.2 xs[i] (List.getElem_mem hlt)
      have hI2 : xs[i].toNat < 2 ^ 63 := by unfold InI64 at hI; omega
      have hwi : IntKind.i64.wrap ((i : Int) + 1) = ((i + 1 : Nat) : Int) := by rw [show ((i : Int) + 1) = ((i + 1 : Nat) : Int) from by omega]; exact wrap_nat (by omega)
      have hmx : vmm true (.int .i64 xs[i]) (.int .i64 0) = some (.int .i64 (xs[i].toNat : Nat)) := by
        simp only [vmm, if_true]
        congr 2
        split <;> omega
      simp only [k49_a, WK, vop, evAll, evOpt, evParts, vbuiltin, vun, vextract, Nat.reduceLT, Nat.reduceEqDiff, ↓reduceIte, reduceCtorEq, Nat.reduceAdd, Int.reduceLT, Int.reduceNeg, valloc_std, noSB, vhot, h17, h18, h19, hlt', hw.addr IT (Int.natCast_nonneg i) hlt', IntsV.load IT hlt, Int.toNat_natCast, hmx]
      have hpl := putS_len (xs := xs.take i) fun x hx => hw.2 x (List.mem_of_mem_take hx)
      rw [List.length_take, Nat.min_eq_left (Nat.le_of_lt hlt)] at hpl
      have hpn := putN_len xs[i].toNat 8 (by omega)
      clear hf
      refine Ev.cut (put_inner (out := bs ++ putS (xs.take i)) (x := xs[i].toNat) rfl hI2 (by rw [List.length_append]; omega) (by simp [upd_some]) (by first | exact h5 | (simp only [upd_some, ↓reduceIte, Nat.reduceEqDiff]; exact h5)) hk1) ?_
      rintro ex e' σ2 ⟨rfl, hk2, y, bs2, hy, h7, h5', heq⟩ hf2
      have g19 : e' 19 = .int .i64 i := (hf2 19 (by decide)).trans (by simp [upd_some, h19])
      clear hf2
      have hputy : putN y = [UInt8.ofNat y] := by rw [putN, dif_neg (by omega)]
      have hb := buildByte BT (n := y) (by omega)
      have hwb : IntKind.u8.wrap (y : Int) = y := wrap_u8 (by omega) (by omega)
      have hl2 : bs2.length + 1 = (bs ++ putS (xs.take i)).length + (putN xs[i].toNat).length := by rw [← List.length_append, ← heq, List.length_append, hputy]; rfl
      simp only [List.length_append] at hl2
      obtain ⟨v2, σ3, ha, ho, hk'⟩ := h5'.append BT rfl hk2 T22 hb.2 (by simp; omega)
      simp only [k49_a, WK, vop, evAll, evOpt, evParts, vbuiltin, vun, vextract, Nat.reduceLT, Nat.reduceEqDiff, ↓reduceIte, reduceCtorEq, Nat.reduceAdd, Int.reduceLT, Int.reduceNeg, valloc_std, noSB, vhot, h7, g19, vconv, T3, T5, hwb, hb.1, ha, hwi]
      refine ⟨i + 1, ⟨by simp [upd_some], hlt, ?_, hk'⟩, by omega⟩
      simp only [upd_some, ↓reduceIte, Nat.reduceEqDiff]
      rw [putS_take hlt, ← List.append_assoc, ← heq, hputy]
      exact ho
    · have hlt' : ¬ (i : Int) < xs.length := by omega
      simp only [k49_a, WK, vop, evAll, evOpt, evParts, vbuiltin, vun, vextract, Nat.reduceLT, Nat.reduceEqDiff, ↓reduceIte, reduceCtorEq, Nat.reduceAdd, Int.reduceLT, Int.reduceNeg, valloc_std, noSB, vhot, h17, h18, h19, hlt']
      have : xs.take i = xs := List.take_of_length_le (by omega)
      rw [this] at h5
      exact ⟨_, rfl, hk1, h5⟩
  obtain ⟨r, σ', h1, r', rfl, h2, h3⟩ := key
  exact ⟨r', σ', h1, h2, h3⟩

end Go.Proofs.Ytplhelapcpcncaa.Q

set_option linter.unusedVariables false
set_option linter.unusedSimpArgs false
namespace Go.Proofs.Ytplhelapcpcncaa.Q
open Go Go.RowKit Go.Proofs


/-- The order of numbers. -/
def sgn (a b : Int) : Int := if a < b then -1 else if b < a then 1 else 0
/-- The first that is not 0. -/
def orI : List Int → Int
  | [] => 0
  | x :: l => if x = 0 then orI l else x

theorem nan_does (x : Int) (σ : St) : Does Try.prog prims 78 [.int .i64 x] σ (.ret (.bool false)) σ := by
  apply k78_is.ret (by simp)
  simp only [k78_a, WK, vop, evAll, evOpt, evParts, vbuiltin, vun, vextract, Nat.reduceLT, Nat.reduceEqDiff, ↓reduceIte, reduceCtorEq, Nat.reduceAdd, Int.reduceLT, Int.reduceNeg, valloc_std, noSB, vhot, List.getD_cons_zero]

theorem sgn_does (a b : Int) (σ : St) : Does Try.prog prims 73 [.int .i64 a, .int .i64 b] σ (.ret (.int .i64 (sgn a b))) σ := by
  apply k73_is.ret (by simp)
  simp only [k73_a, WK, vop, evAll, evOpt, evParts, vbuiltin, vun, vextract, Nat.reduceLT, Nat.reduceEqDiff, ↓reduceIte, reduceCtorEq, Nat.reduceAdd, Int.reduceLT, Int.reduceNeg, valloc_std, noSB, vhot, List.getD_cons_zero, List.getD_cons_succ]
  refine KD.ret (nan_does a σ) ?_
  simp only [k73_a, WK, vop, evAll, evOpt, evParts, vbuiltin, vun, vextract, Nat.reduceLT, Nat.reduceEqDiff, ↓reduceIte, reduceCtorEq, Nat.reduceAdd, Int.reduceLT, Int.reduceNeg, valloc_std, noSB, vhot, List.getD_cons_zero, List.getD_cons_succ]
  refine KD.ret (nan_does b σ) ?_
  unfold sgn
  by_cases h1 : a < b
  · simp only [k73_a, WK, vop, evAll, evOpt, evParts, vbuiltin, vun, vextract, Nat.reduceLT, Nat.reduceEqDiff, ↓reduceIte, reduceCtorEq, Nat.reduceAdd, Int.reduceLT, Int.reduceNeg, valloc_std, noSB, vhot, List.getD_cons_zero, List.getD_cons_succ, h1]
    try rfl
  · by_cases h2 : b < a
    · simp only [k73_a, WK, vop, evAll, evOpt, evParts, vbuiltin, vun, vextract, Nat.reduceLT, Nat.reduceEqDiff, ↓reduceIte, reduceCtorEq, Nat.reduceAdd, Int.reduceLT, Int.reduceNeg, valloc_std, noSB, vhot, List.getD_cons_zero, List.getD_cons_succ, h1, h2]
      try rfl
    · simp only [k73_a, WK, vop, evAll, evOpt, evParts, vbuiltin, vun, vextract, Nat.reduceLT, Nat.reduceEqDiff, ↓reduceIte, reduceCtorEq, Nat.reduceAdd, Int.reduceLT, Int.reduceNeg, valloc_std, noSB, vhot, List.getD_cons_zero, List.getD_cons_succ, h1, h2]
      try rfl

theorem or_does {w : V} {xs : List Int} (hw : IntsV w xs) (hl : xs.length ≤ 1000) (σ : St) : Does Try.prog prims 72 [w] σ (.ret (.int .i64 (orI xs))) σ := by
  apply k72_is.ret (by simp)
  simp only [k72_a, WK, vop, evAll, evOpt, evParts, vbuiltin, vun, vextract, Nat.reduceLT, Nat.reduceEqDiff, ↓reduceIte, reduceCtorEq, Nat.reduceAdd, Int.reduceLT, Int.reduceNeg, valloc_std, noSB, vhot, List.getD_cons_zero, hw.len IT]
  refine Ev.loopF (fun i e σ' => e 8 = .int .i64 (i : Nat) ∧ i ≤ xs.length ∧ orI xs = orI (xs.drop i) ∧ σ' = σ) (fun i => xs.length - i) 0 ⟨by simp [upd_some], by simp, by simp, rfl⟩ ?_
  rintro i e σ' ⟨h8, hi, hor, rfl⟩ hf
  have h7 : e 7 = .int .i64 xs.length := (hf 7 (by decide)).trans (by simp [upd_some])
  have h6 : e 6 = w := (hf 6 (by decide)).trans (by simp [upd_some])
  have h3 : e 3 = .int .i64 0 := (hf 3 (by decide)).trans (by simp [upd_some])
  clear hf
  by_cases hlt : i < xs.length
  · have hlt' : (i : Int) < xs.length := by omega
    have hwi : IntKind.i64.wrap ((i : Int) + 1) = ((i + 1 : Nat) : Int) := by rw [show ((i : Int) + 1) = ((i + 1 : Nat) : Int) from by omega]; exact wrap_nat (by omega)
    rw [List.drop_eq_getElem_cons hlt, orI] at hor
    by_cases hx : xs[i] = 0
    · rw [if_pos hx] at hor
      simp only [k72_a, WK, vop, evAll, evOpt, evParts, vbuiltin, vun, vextract, Nat.reduceLT, Nat.reduceEqDiff, ↓reduceIte, reduceCtorEq, Nat.reduceAdd, Int.reduceLT, Int.reduceNeg, valloc_std, noSB, vhot, h3, h6, h7, h8, hlt', hw.addr IT (Int.natCast_nonneg i) hlt', IntsV.load IT hlt, Int.toNat_natCast, hx, hwi]
      exact ⟨i + 1, ⟨by simp [upd_some], hlt, hor⟩, by omega⟩
    · rw [if_neg hx] at hor
      simp only [k72_a, WK, vop, evAll, evOpt, evParts, vbuiltin, vun, vextract, Nat.reduceLT, Nat.reduceEqDiff, ↓reduceIte, reduceCtorEq, Nat.reduceAdd, Int.reduceLT, Int.reduceNeg, valloc_std, noSB, vhot, h3, h6, h7, h8, hlt', hw.addr IT (Int.natCast_nonneg i) hlt', IntsV.load IT hlt, Int.toNat_natCast, hx]
      rw [hor]
  · have hlt' : ¬ (i : Int) < xs.length := by omega
    have : xs.drop i = [] := List.drop_of_length_le (by omega)
    rw [this, orI] at hor
    simp only [k72_a, WK, vop, evAll, evOpt, evParts, vbuiltin, vun, vextract, Nat.reduceLT, Nat.reduceEqDiff, ↓reduceIte, reduceCtorEq, Nat.reduceAdd, Int.reduceLT, Int.reduceNeg, valloc_std, noSB, vhot, h3, h6, h7, h8, hlt']
    rw [hor]

mutual
def cmpV : Val → Val → Int
  | .mk k n t l, .mk k' n' t' l' => orI [sgn k k', sgn n n', Lib.compareBytes t t', cmpL l l']
def cmpL : List Val → List Val → Int
  | [], [] => 0
  | [], _ :: _ => -1
  | _ :: _, [] => 1
  | a :: l, b :: m => if cmpV a b = 0 then cmpL l m else cmpV a b
end
theorem cmpL_nil (m : List Val) : cmpL [] m = if (0 : Nat) < m.length then -1 else 0 := by cases m <;> simp [cmpL]
theorem cmpL_cons_nil (a : Val) (l : List Val) : cmpL (a :: l) [] = 1 := by rw [cmpL]

theorem compareBytes_in : ∀ a b : List UInt8, Lib.compareBytes a b = -1 ∨ Lib.compareBytes a b = 0 ∨ Lib.compareBytes a b = 1
  | [], [] => by simp [Lib.compareBytes]
  | [], _ :: _ => by simp [Lib.compareBytes]
  | _ :: _, [] => by simp [Lib.compareBytes]
  | a :: l, b :: m => by
    rw [Lib.compareBytes]
    split
    · simp
    · split
      · simp
      · exact compareBytes_in l m
theorem sgn_in (a b : Int) : sgn a b = -1 ∨ sgn a b = 0 ∨ sgn a b = 1 := by
  unfold sgn; split
  · simp
  · split <;> simp
theorem orI_in : ∀ {l : List Int}, (∀ x ∈ l, x = -1 ∨ x = 0 ∨ x = 1) → orI l = -1 ∨ orI l = 0 ∨ orI l = 1
  | [], _ => by simp [orI]
  | x :: l, h => by
    rw [orI]
    split
    · exact orI_in fun y hy => h y (List.mem_cons_of_mem _ hy)
    · exact h x (List.mem_cons_self ..)
theorem cmp_in : ∀ (n : Nat) (a b : Val), weight a ≤ n → cmpV a b = -1 ∨ cmpV a b = 0 ∨ cmpV a b = 1
  | 0, a, b, h => by have := weight_pos a; omega
  | n + 1, .mk k m t l, .mk k' m' t' l', h => by
    rw [weight] at h
    have rows : ∀ (l m : List Val), weights l ≤ n → cmpL l m = -1 ∨ cmpL l m = 0 ∨ cmpL l m = 1 := by
      intro l
      induction l with
      | nil => intro m _; cases m <;> simp [cmpL]
      | cons a l ih =>
        intro m hl
        rw [weights] at hl
        cases m with
        | nil => simp [cmpL]
        | cons b m =>
          rw [cmpL]
          split
          · exact ih m (by omega)
          · exact cmp_in n a b (by omega)
    rw [cmpV]
    refine orI_in ?_
    intro x hx
    simp only [List.mem_cons, List.not_mem_nil, or_false] at hx
    rcases hx with rfl | rfl | rfl | rfl
    · exact sgn_in _ _
    · exact sgn_in _ _
    · exact compareBytes_in _ _
    · exact rows l l' (by omega)
theorem cmpV_in (a b : Val) : cmpV a b = -1 ∨ cmpV a b = 0 ∨ cmpV a b = 1 := cmp_in _ a b (Nat.le_refl _)
theorem cmpL_in : ∀ (l m : List Val), cmpL l m = -1 ∨ cmpL l m = 0 ∨ cmpL l m = 1
  | [], m => by cases m <;> simp [cmpL]
  | a :: l, [] => by simp [cmpL]
  | a :: l, b :: m => by
    rw [cmpL]
    split
    · exact cmpL_in l m
    · exact cmpV_in a b
theorem in64 {x : Int} (h : x = -1 ∨ x = 0 ∨ x = 1) : InI64 x := by unfold InI64; omega

theorem buildInts4 {a b c d : Int} (h : ∀ x ∈ [a, b, c, d], InI64 x) : ∃ v, vbuildSlice Try.prog 70 4 [(0, .int .i64 a), (1, .int .i64 b), (2, .int .i64 c), (3, .int .i64 d)] = some v ∧ IntsV v [a, b, c, d] := by
  refine ⟨.slice .exact 1 [i64V a, i64V b, i64V c, i64V d] 4, ?_, .inr ⟨.exact, rfl⟩, h⟩
  simp [vbuildSlice, IT.u, IT.s, IT.z, vcells, vfill, zeroCellsV, setAll, i64V]
  simp [List.range, List.range.loop]

/-- What is known of a comparison of the parts. -/
def CmpOk (F : FuncId) (l : List Val) : Prop := ∀ a ∈ l, ∀ (b : Val) (c1 c2 : List V) (σ : St), ValC a c1 → ValC b c2 → ∃ σ', Does Try.prog prims F [.agg c1, .agg c2] σ (.ret (.int .i64 (cmpV a b))) σ' ∧ Keep σ σ'

def I59 (σ0 : St) (l m : List Val) : Nat → (Nat → V) → St → Prop := fun i e σ => e 13 = .int .i64 i ∧ i ≤ l.length ∧ i ≤ m.length ∧ cmpL l m = cmpL (l.drop i) (m.drop i) ∧ Keep σ0 σ

theorem comparefunc_does {F : FuncId} {l m : List Val} (H : CmpOk F l) {v w : V} (hv : ValsW l v) (hw : ValsW m w) (hl : l.length ≤ 4294967296) (σ : St) :
    ∃ σ', Does Try.prog prims 75 [v, w, .func F []] σ (.ret (.int .i64 (cmpL l m))) σ' ∧ Keep σ σ' := by
  have key : ∃ q σ', Does Try.prog prims 75 [v, w, .func F []] σ q σ' ∧ q = .ret (.int .i64 (cmpL l m)) ∧ Keep σ σ' := by
    apply k75_is.does (by simp)
    simp only [k75_a, WK, vop, evAll, evOpt, evParts, vbuiltin, vun, vextract, Nat.reduceLT, Nat.reduceEqDiff, ↓reduceIte, reduceCtorEq, Nat.reduceAdd, Int.reduceLT, Int.reduceNeg, valloc_std, noSB, vhot, List.getD_cons_zero, List.getD_cons_succ, hv.len]
    refine Ev.loopF (I59 σ l m) (fun i => l.length - i) 0 ⟨by simp [upd_some], by simp, by simp, by simp, Keep.refl σ⟩ ?_
    rintro i e σ1 ⟨h13, hi, him, heq, hk⟩ hf
    have h12 : e 12 = .int .i64 l.length := (hf 12 (by decide)).trans (by simp [upd_some])
    have h11 : e 11 = v := (hf 11 (by decide)).trans (by simp [upd_some])
    have h0 : e 0 = v := (hf 0 (by decide)).trans (by simp [upd_some])
    have h1 : e 1 = w := (hf 1 (by decide)).trans (by simp [upd_some])
    have h2 : e 2 = .func F [] := (hf 2 (by decide)).trans (by simp [upd_some])
    clear hf
    by_cases hlt : i < l.length
    · have hlt' : (i : Int) < l.length := by omega
      have hwi : IntKind.i64.wrap ((i : Int) + 1) = ((i + 1 : Nat) : Int) := by rw [show ((i : Int) + 1) = ((i + 1 : Nat) : Int) from by omega]; exact wrap_nat (by omega)
      obtain ⟨cs, c, ha, hld, hc⟩ := hv.get hlt
      obtain ⟨s2, hs2⟩ : ∃ s2 : St, s2 = ⟨(σ1.objs ++ [Ob.cells val0C]).set σ1.objs.length (Ob.cells c), σ1.toks⟩ := ⟨_, rfl⟩
      have q2 : IsV s2 σ1.objs.length c := by rw [hs2]; exact IsV.made
      have k2 : Keep σ1 s2 := by rw [hs2]; exact (Keep.refl σ1).madeV _ _
      rw [List.drop_eq_getElem_cons hlt] at heq
      by_cases hge : (m.length : Int) ≤ (i : Int)
      · have hmi : m.drop i = [] := List.drop_of_length_le (by omega)
        rw [hmi, cmpL_cons_nil] at heq
        simp only [k75_a, WK, vop, evAll, evOpt, evParts, vbuiltin, vun, vextract, Nat.reduceLT, Nat.reduceEqDiff, ↓reduceIte, reduceCtorEq, Nat.reduceAdd, Int.reduceLT, Int.reduceNeg, valloc_std, noSB, vhot, h1, h11, h12, h13, hlt', ha, hld, VZ24, vbox, vcells, IsV.new hc.len (show val0C.length = 4 from rfl) hc.one, ← hs2, hw.len, hge]
        exact ⟨by rw [heq], hk.trans k2⟩
      · have hltm : i < m.length := by omega
        obtain ⟨cs', c', ha', hld', hc'⟩ := hw.get hltm
        rw [List.drop_eq_getElem_cons hltm, cmpL] at heq
        obtain ⟨s3, hs3⟩ : ∃ s3 : St, s3 = ⟨(s2.objs ++ [Ob.cells val0C]).set s2.objs.length (Ob.cells c'), s2.toks⟩ := ⟨_, rfl⟩
        have q3 : IsV s3 s2.objs.length c' := by rw [hs3]; exact IsV.made
        have k3 : Keep s2 s3 := by rw [hs3]; exact (Keep.refl s2).madeV _ _
        have p3 := k3.atV q2
        obtain ⟨s4, d4, k4⟩ := H l[i] (List.getElem_mem hlt) m[i] c c' s3 hc hc'
        simp only [k75_a, WK, vop, evAll, evOpt, evParts, vbuiltin, vun, vextract, Nat.reduceLT, Nat.reduceEqDiff, ↓reduceIte, reduceCtorEq, Nat.reduceAdd, Int.reduceLT, Int.reduceNeg, valloc_std, noSB, vhot, h1, h2, h11, h12, h13, hlt', ha, hld, VZ24, vbox, vcells, IsV.new hc.len (show val0C.length = 4 from rfl) hc.one, ← hs2, hw.len, hge, ha', hld', IsV.new hc'.len (show val0C.length = 4 from rfl) hc'.one, ← hs3, p3.load hc.len, q3.load hc'.len]
        refine KD.ret d4 ?_
        by_cases hz : cmpV l[i] m[i] = 0
        · rw [if_pos hz] at heq
          simp only [k75_a, WK, vop, evAll, evOpt, evParts, vbuiltin, vun, vextract, Nat.reduceLT, Nat.reduceEqDiff, ↓reduceIte, reduceCtorEq, Nat.reduceAdd, Int.reduceLT, Int.reduceNeg, valloc_std, noSB, vhot, h13, hz, hwi]
          exact ⟨i + 1, ⟨by simp [upd_some], hlt, hltm, heq, ((hk.trans k2).trans k3).trans k4⟩, by omega⟩
        · rw [if_neg hz] at heq
          simp only [k75_a, WK, vop, evAll, evOpt, evParts, vbuiltin, vun, vextract, Nat.reduceLT, Nat.reduceEqDiff, ↓reduceIte, reduceCtorEq, Nat.reduceAdd, Int.reduceLT, Int.reduceNeg, valloc_std, noSB, vhot, h13, hz]
          exact ⟨by rw [heq], ((hk.trans k2).trans k3).trans k4⟩
    · have hlt' : ¬ (i : Int) < l.length := by omega
      have hli : l.drop i = [] := List.drop_of_length_le (by omega)
      rw [hli, cmpL_nil, List.length_drop] at heq
      by_cases hs : (l.length : Int) < m.length
      · rw [if_pos (by omega)] at heq
        simp only [k75_a, WK, vop, evAll, evOpt, evParts, vbuiltin, vun, vextract, Nat.reduceLT, Nat.reduceEqDiff, ↓reduceIte, reduceCtorEq, Nat.reduceAdd, Int.reduceLT, Int.reduceNeg, valloc_std, noSB, vhot, h0, h1, h11, h12, h13, hlt', hv.len, hw.len, hs]
        exact ⟨by rw [heq], hk⟩
      · rw [if_neg (by omega)] at heq
        simp only [k75_a, WK, vop, evAll, evOpt, evParts, vbuiltin, vun, vextract, Nat.reduceLT, Nat.reduceEqDiff, ↓reduceIte, reduceCtorEq, Nat.reduceAdd, Int.reduceLT, Int.reduceNeg, valloc_std, noSB, vhot, h0, h1, h11, h12, h13, hlt', hv.len, hw.len, hs]
        exact ⟨by rw [heq], hk⟩
  obtain ⟨q, σ', h1, rfl, h3⟩ := key
  exact ⟨σ', h1, h3⟩

theorem compare_ok : ∀ (n : Nat), n ≤ 4294967296 → ∀ {a b : Val} {c1 c2 : List V} (σ : St), weight a ≤ n → ValC a c1 → ValC b c2 → ∃ σ', Does Try.prog prims 62 [.agg c1, .agg c2] σ (.ret (.int .i64 (cmpV a b))) σ' ∧ Keep σ σ' := by
  intro n
  induction n with
  | zero => intro _ a b c1 c2 σ h; have := weight_pos a; omega
  | succ n ih =>
    intro hn a b c1 c2 σ hwt ha hb
    have key : ∃ q σ', Does Try.prog prims 62 [.agg c1, .agg c2] σ q σ' ∧ q = .ret (.int .i64 (cmpV a b)) ∧ Keep σ σ' := by
      obtain ⟨k, m, t, l, w, rfl, rfl, hw, ik, im⟩ := ha.inv
      obtain ⟨k', m', t', l', w', rfl, rfl, hw', ik', im'⟩ := hb.inv
      rw [weight] at hwt
      have hll := weights_len l
      have H : CmpOk 62 l := fun x hx b d1 d2 σ h1 h2 => by
        have := weights_mem hx
        exact ih (by omega) σ (by omega) h1 h2
      apply k62_is.does (by simp)
      obtain ⟨σ2, hσ2⟩ : ∃ σ2 : St, σ2 = ⟨(σ.objs ++ [Ob.cells [.int .i64 k, .int .i64 m, .str t, w]]) ++ [Ob.cells [.int .i64 k', .int .i64 m', .str t', w']], σ.toks⟩ := ⟨_, rfl⟩
      have hk2 : Keep σ σ2 := by rw [hσ2]; exact ((Keep.refl σ).push _).push _
      have q2 : IsV σ2 σ.objs.length [.int .i64 k, .int .i64 m, .str t, w] := by rw [hσ2]; show ((σ.objs ++ [_]) ++ [_])[_]? = _; rw [List.getElem?_append_left (by simp)]; exact push_new _ _
      have p2 : IsV σ2 (σ.objs.length + 1) [.int .i64 k', .int .i64 m', .str t', w'] := by rw [hσ2]; simp [IsV]
      obtain ⟨σ3, d3, k3⟩ := comparefunc_does H hw hw' (by omega) σ2
      have hI : ∀ x ∈ [sgn k k', sgn m m', Lib.compareBytes t t', cmpL l l'], InI64 x := by
        intro x hx
        simp only [List.mem_cons, List.not_mem_nil, or_false] at hx
        rcases hx with rfl | rfl | rfl | rfl
        · exact in64 (sgn_in _ _)
        · exact in64 (sgn_in _ _)
        · exact in64 (compareBytes_in _ _)
        · exact in64 (cmpL_in _ _)
      obtain ⟨b4, hb4, hb4i⟩ := buildInts4 hI
      have dor := or_does hb4i (by simp) σ3
      simp only [k62_a, WK, vop, evAll, evOpt, evParts, vbuiltin, vun, vextract, Nat.reduceLT, Nat.reduceEqDiff, ↓reduceIte, reduceCtorEq, Nat.reduceAdd, Int.reduceLT, Int.reduceNeg, valloc_std, noSB, vhot, List.getD_cons_zero, List.getD_cons_succ, vbox, vcells, List.length_append, List.length_cons, List.length_nil, ← hσ2, FV0, FV1, FV2, FV3, q2.kind, p2.kind]
      refine KD.ret (sgn_does _ _ _) ?_
      simp only [k62_a, WK, vop, evAll, evOpt, evParts, vbuiltin, vun, vextract, Nat.reduceLT, Nat.reduceEqDiff, ↓reduceIte, reduceCtorEq, Nat.reduceAdd, Int.reduceLT, Int.reduceNeg, valloc_std, noSB, vhot, FV0, FV1, FV2, FV3, q2.num, p2.num]
      refine KD.ret (sgn_does _ _ _) ?_
      simp only [k62_a, WK, vop, evAll, evOpt, evParts, vbuiltin, vun, vextract, Nat.reduceLT, Nat.reduceEqDiff, ↓reduceIte, reduceCtorEq, Nat.reduceAdd, Int.reduceLT, Int.reduceNeg, valloc_std, noSB, vhot, FV0, FV1, FV2, FV3, q2.text, p2.text]
      refine KD.ret (Does_compare t t' σ2) ?_
      simp only [k62_a, WK, vop, evAll, evOpt, evParts, vbuiltin, vun, vextract, Nat.reduceLT, Nat.reduceEqDiff, ↓reduceIte, reduceCtorEq, Nat.reduceAdd, Int.reduceLT, Int.reduceNeg, valloc_std, noSB, vhot, FV0, FV1, FV2, FV3, q2.list, p2.list]
      refine KD.ret d3 ?_
      simp only [k62_a, WK, vop, evAll, evOpt, evParts, vbuiltin, vun, vextract, Nat.reduceLT, Nat.reduceEqDiff, ↓reduceIte, reduceCtorEq, Nat.reduceAdd, Int.reduceLT, Int.reduceNeg, valloc_std, noSB, vhot, hb4]
      refine KD.ret dor ?_
      simp only [k62_a, WK, vop, evAll, evOpt, evParts, vbuiltin, vun, vextract, Nat.reduceLT, Nat.reduceEqDiff, ↓reduceIte, reduceCtorEq, Nat.reduceAdd, Int.reduceLT, Int.reduceNeg, valloc_std, noSB, vhot, q2.kind, q2.num, q2.text, q2.list, p2.kind, p2.num, p2.text, p2.list]
      rw [cmpV]
      exact ⟨rfl, hk2.trans k3⟩
    obtain ⟨q, σ', h1, rfl, h3⟩ := key
    exact ⟨σ', h1, h3⟩
theorem compare_does {a b : Val} {c1 c2 : List V} (σ : St) (hw : weight a ≤ 4294967296) (ha : ValC a c1) (hb : ValC b c2) : ∃ σ', Does Try.prog prims 62 [.agg c1, .agg c2] σ (.ret (.int .i64 (cmpV a b))) σ' ∧ Keep σ σ' :=
  compare_ok _ (Nat.le_refl _) σ hw ha hb
end Go.Proofs.Ytplhelapcpcncaa.Q

set_option linter.unusedVariables false
set_option linter.unusedSimpArgs false
namespace Go.Proofs.Ytplhelapcpcncaa.Q
open Go Go.RowKit Go.Proofs

theorem compareBytes_eq : ∀ a b : List UInt8, Lib.compareBytes a b = if a = b then 0 else if bytesLt a b = true then -1 else 1
  | [], [] => by simp [Lib.compareBytes]
  | [], _ :: _ => by simp [Lib.compareBytes, bytesLt]
  | _ :: _, [] => by simp [Lib.compareBytes, bytesLt]
  | a :: l, b :: m => by
    rw [Lib.compareBytes, bytesLt]
    by_cases h1 : a < b
    · have hne : ¬ a = b := by rintro rfl; exact absurd h1 (by simp)
      simp [h1, hne]
    · by_cases h2 : b < a
      · have hne : ¬ a = b := by rintro rfl; exact absurd h2 (by simp)
        have : (a == b) = false := by simpa using hne
        simp [h1, h2, hne, this]
      · have he : a = b := by
          have e1 : ¬ a.toNat < b.toNat := h1
          have e2 : ¬ b.toNat < a.toNat := h2
          exact UInt8.toNat_inj.1 (by omega)
        subst he
        rw [if_neg h1, if_neg h2, compareBytes_eq l m]
        simp

theorem sgn_eq {a b : Int} (h : a = b) : sgn a b = 0 := by subst h; simp [sgn]
theorem sgn_lt {a b : Int} (h : a < b) : sgn a b = -1 := by simp [sgn, h]
theorem sgn_gt {a b : Int} (h : b < a) : sgn a b = 1 := by
  have : ¬ a < b := by omega
  simp [sgn, h, this]

def I27 (σ0 : St) (q p : Nat) (l m : List Val) (c d : List V) : Nat → (Nat → V) → St → Prop := fun i e σ => e 5 = .int .i64 i ∧ i ≤ l.length ∧ i ≤ m.length ∧ cmpL l m = cmpL (l.drop i) (m.drop i) ∧ Keep σ0 σ ∧ IsV σ q c ∧ IsV σ p d

theorem refcompare_ok : ∀ (n : Nat), n ≤ 4294967296 → ∀ {a b : Val} {c1 c2 : List V} (σ : St), weight a ≤ n → ValC a c1 → ValC b c2 → ∃ σ', Does Try.prog prims 67 [.agg c1, .agg c2] σ (.ret (.int .i64 (cmpV a b))) σ' ∧ Keep σ σ' := by
  intro n
  induction n with
  | zero => intro _ a b c1 c2 σ h; have := weight_pos a; omega
  | succ n ih =>
    intro hn a b c1 c2 σ hwt ha hb
    have key : ∃ q σ', Does Try.prog prims 67 [.agg c1, .agg c2] σ q σ' ∧ q = .ret (.int .i64 (cmpV a b)) ∧ Keep σ σ' := by
      obtain ⟨k, m, t, l, w, rfl, rfl, hw, ik, im⟩ := ha.inv
      obtain ⟨k', m', t', l', w', rfl, rfl, hw', ik', im'⟩ := hb.inv
      rw [weight] at hwt
      have hll := weights_len l
      have H : CmpOk 67 l := fun x hx b d1 d2 σ h1 h2 => by
        have := weights_mem hx
        exact ih (by omega) σ (by omega) h1 h2
      apply k67_is.does (by simp)
      obtain ⟨c, hc⟩ : ∃ c : List V, c = [.int .i64 k, .int .i64 m, .str t, w] := ⟨_, rfl⟩
      obtain ⟨d, hd⟩ : ∃ d : List V, d = [.int .i64 k', .int .i64 m', .str t', w'] := ⟨_, rfl⟩
      obtain ⟨σ2, hσ2⟩ : ∃ σ2 : St, σ2 = ⟨(σ.objs ++ [Ob.cells c]) ++ [Ob.cells d], σ.toks⟩ := ⟨_, rfl⟩
      have hk2 : Keep σ σ2 := by rw [hσ2]; exact ((Keep.refl σ).push _).push _
      have q2 : IsV σ2 σ.objs.length c := by rw [hσ2]; show ((σ.objs ++ [_]) ++ [_])[_]? = _; rw [List.getElem?_append_left (by simp)]; exact push_new _ _
      have p2 : IsV σ2 (σ.objs.length + 1) d := by rw [hσ2]; simp [IsV]
      have q2' := q2
      have p2' := p2
      rw [hc] at q2'
      rw [hd] at p2'
      rw [← hc, ← hd]
      simp only [k67_a, WK, vop, evAll, evOpt, evParts, vbuiltin, vun, vextract, Nat.reduceLT, Nat.reduceEqDiff, ↓reduceIte, reduceCtorEq, Nat.reduceAdd, Int.reduceLT, Int.reduceNeg, valloc_std, noSB, vhot, List.getD_cons_zero, List.getD_cons_succ, vbox, vcells, List.length_append, List.length_cons, List.length_nil, ← hσ2, FV0, FV1, FV2, FV3, q2'.kind, p2'.kind]
      rw [cmpV]
      by_cases hk : k = k'
      case neg =>
        simp only [hk, k67_a, WK, vop, evAll, evOpt, evParts, vbuiltin, vun, vextract, Nat.reduceLT, Nat.reduceEqDiff, ↓reduceIte, reduceCtorEq, Nat.reduceAdd, Int.reduceLT, Int.reduceNeg, valloc_std, noSB, vhot, FV0, q2'.kind, p2'.kind]
        by_cases hlt : k < k'
        · simp only [hlt, k67_a, WK, vop, evAll, evOpt, evParts, vbuiltin, vun, vextract, Nat.reduceLT, Nat.reduceEqDiff, ↓reduceIte, reduceCtorEq, Nat.reduceAdd, Int.reduceLT, Int.reduceNeg, valloc_std, noSB, vhot]
          rw [orI, sgn_lt hlt]
          exact ⟨rfl, hk2⟩
        · simp only [hlt, k67_a, WK, vop, evAll, evOpt, evParts, vbuiltin, vun, vextract, Nat.reduceLT, Nat.reduceEqDiff, ↓reduceIte, reduceCtorEq, Nat.reduceAdd, Int.reduceLT, Int.reduceNeg, valloc_std, noSB, vhot]
          rw [orI, sgn_gt (by omega)]
          exact ⟨rfl, hk2⟩
      rw [orI, sgn_eq hk, if_pos rfl]
      simp only [hk, k67_a, WK, vop, evAll, evOpt, evParts, vbuiltin, vun, vextract, Nat.reduceLT, Nat.reduceEqDiff, ↓reduceIte, reduceCtorEq, Nat.reduceAdd, Int.reduceLT, Int.reduceNeg, valloc_std, noSB, vhot, FV1, q2'.num, p2'.num]
      by_cases hm : m = m'
      case neg =>
        simp only [hm, k67_a, WK, vop, evAll, evOpt, evParts, vbuiltin, vun, vextract, Nat.reduceLT, Nat.reduceEqDiff, ↓reduceIte, reduceCtorEq, Nat.reduceAdd, Int.reduceLT, Int.reduceNeg, valloc_std, noSB, vhot, FV1, q2'.num, p2'.num]
        by_cases hlt : m < m'
        · simp only [hlt, k67_a, WK, vop, evAll, evOpt, evParts, vbuiltin, vun, vextract, Nat.reduceLT, Nat.reduceEqDiff, ↓reduceIte, reduceCtorEq, Nat.reduceAdd, Int.reduceLT, Int.reduceNeg, valloc_std, noSB, vhot]
          rw [orI, sgn_lt hlt]
          exact ⟨rfl, hk2⟩
        · simp only [hlt, k67_a, WK, vop, evAll, evOpt, evParts, vbuiltin, vun, vextract, Nat.reduceLT, Nat.reduceEqDiff, ↓reduceIte, reduceCtorEq, Nat.reduceAdd, Int.reduceLT, Int.reduceNeg, valloc_std, noSB, vhot]
          rw [orI, sgn_gt (by omega)]
          exact ⟨rfl, hk2⟩
      rw [orI, sgn_eq hm, if_pos rfl]
      simp only [hm, k67_a, WK, vop, evAll, evOpt, evParts, vbuiltin, vun, vextract, Nat.reduceLT, Nat.reduceEqDiff, ↓reduceIte, reduceCtorEq, Nat.reduceAdd, Int.reduceLT, Int.reduceNeg, valloc_std, noSB, vhot, FV2, q2'.text, p2'.text, strBin]
      have hcb := compareBytes_eq t t'
      by_cases ht : t = t'
      case neg =>
        rw [if_neg ht] at hcb
        simp only [ht, k67_a, WK, vop, evAll, evOpt, evParts, vbuiltin, vun, vextract, Nat.reduceLT, Nat.reduceEqDiff, ↓reduceIte, reduceCtorEq, Nat.reduceAdd, Int.reduceLT, Int.reduceNeg, valloc_std, noSB, vhot, FV2, q2'.text, p2'.text, strBin]
        cases hlt : bytesLt t t' with
        | true =>
          rw [hlt, if_pos rfl] at hcb
          simp only [k67_a, WK, vop, evAll, evOpt, evParts, vbuiltin, vun, vextract, Nat.reduceLT, Nat.reduceEqDiff, ↓reduceIte, reduceCtorEq, Nat.reduceAdd, Int.reduceLT, Int.reduceNeg, valloc_std, noSB, vhot]
          rw [orI, hcb]
          exact ⟨rfl, hk2⟩
        | false =>
          rw [hlt, if_neg (by simp)] at hcb
          simp only [k67_a, WK, vop, evAll, evOpt, evParts, vbuiltin, vun, vextract, Nat.reduceLT, Nat.reduceEqDiff, ↓reduceIte, reduceCtorEq, Nat.reduceAdd, Int.reduceLT, Int.reduceNeg, valloc_std, noSB, vhot]
          rw [orI, hcb]
          exact ⟨rfl, hk2⟩
      rw [if_pos ht] at hcb
      rw [orI, hcb, if_pos rfl]
      have hor : orI [cmpL l l'] = cmpL l l' := by
        rw [orI, orI]
        split
        · rename_i h; exact h.symm
        · rfl
      rw [hor]
      simp only [ht, k67_a, WK, vop, evAll, evOpt, evParts, vbuiltin, vun, vextract, Nat.reduceLT, Nat.reduceEqDiff, ↓reduceIte, reduceCtorEq, Nat.reduceAdd, Int.reduceLT, Int.reduceNeg, valloc_std, noSB, vhot]
      refine Ev.loopF (I27 σ σ.objs.length (σ.objs.length + 1) l l' c d) (fun i => l.length - i) 0 ⟨by simp [upd_some], by simp, by simp, by simp, hk2, q2, p2⟩ ?_
      rintro i e σ1 ⟨h5, hi, him, heq, hkk, q1, p1⟩ hf
      have h2 : e 2 = .optr σ.objs.length 0 := (hf 2 (by decide)).trans (by simp [upd_some])
      have h3 : e 3 = .optr (σ.objs.length + 1) 0 := (hf 3 (by decide)).trans (by simp [upd_some])
      clear hf
      have q1' := q1
      have p1' := p1
      rw [hc] at q1'
      rw [hd] at p1'
      by_cases hlt : i < l.length
      · have hlt' : (i : Int) < l.length := by omega
        by_cases hltm : i < l'.length
        · have hltm' : (i : Int) < l'.length := by omega
          have hwi : IntKind.i64.wrap ((i : Int) + 1) = ((i + 1 : Nat) : Int) := by rw [show ((i : Int) + 1) = ((i + 1 : Nat) : Int) from by omega]; exact wrap_nat (by omega)
          obtain ⟨cs, c0, ha0, hld, hc0⟩ := hw.get hlt
          obtain ⟨cs', c0', ha', hld', hc'⟩ := hw'.get hltm
          rw [List.drop_eq_getElem_cons hlt, List.drop_eq_getElem_cons hltm, cmpL] at heq
          obtain ⟨s4, d4, k4⟩ := H l[i] (List.getElem_mem hlt) l'[i] c0 c0' σ1 hc0 hc'
          simp only [k67_a, WK, vop, evAll, evOpt, evParts, vbuiltin, vun, vextract, Nat.reduceLT, Nat.reduceEqDiff, ↓reduceIte, reduceCtorEq, Nat.reduceAdd, Int.reduceLT, Int.reduceNeg, valloc_std, noSB, vhot, h2, h3, h5, FV3, q1'.list, p1'.list, hw.len, hw'.len, hlt', hltm', ha0, hld, ha', hld']
          refine KD.ret d4 ?_
          by_cases hz : cmpV l[i] l'[i] = 0
          · rw [if_pos hz] at heq
            simp only [k67_a, WK, vop, evAll, evOpt, evParts, vbuiltin, vun, vextract, Nat.reduceLT, Nat.reduceEqDiff, ↓reduceIte, reduceCtorEq, Nat.reduceAdd, Int.reduceLT, Int.reduceNeg, valloc_std, noSB, vhot, h5, hz, hwi]
            exact ⟨i + 1, ⟨by simp [upd_some], hlt, hltm, heq, hkk.trans k4, k4.atV q1, k4.atV p1⟩, by omega⟩
          · rw [if_neg hz] at heq
            simp only [k67_a, WK, vop, evAll, evOpt, evParts, vbuiltin, vun, vextract, Nat.reduceLT, Nat.reduceEqDiff, ↓reduceIte, reduceCtorEq, Nat.reduceAdd, Int.reduceLT, Int.reduceNeg, valloc_std, noSB, vhot, h5, hz]
            exact ⟨by rw [heq], hkk.trans k4⟩
        · have hltm' : ¬ (i : Int) < l'.length := by omega
          have hmi : l'.drop i = [] := List.drop_of_length_le (by omega)
          rw [List.drop_eq_getElem_cons hlt, hmi, cmpL_cons_nil] at heq
          have e1 : ¬ (l.length : Int) < l'.length := by omega
          have e2 : (l'.length : Int) < l.length := by omega
          simp only [k67_a, WK, vop, evAll, evOpt, evParts, vbuiltin, vun, vextract, Nat.reduceLT, Nat.reduceEqDiff, ↓reduceIte, reduceCtorEq, Nat.reduceAdd, Int.reduceLT, Int.reduceNeg, valloc_std, noSB, vhot, h2, h3, h5, FV3, q1'.list, p1'.list, hw.len, hw'.len, hlt', hltm', e1, e2]
          exact ⟨by rw [heq], hkk⟩
      · have hlt' : ¬ (i : Int) < l.length := by omega
        have hli : l.drop i = [] := List.drop_of_length_le (by omega)
        rw [hli, cmpL_nil, List.length_drop] at heq
        have e2 : ¬ (l'.length : Int) < l.length := by omega
        by_cases hs : (l.length : Int) < l'.length
        · rw [if_pos (by omega)] at heq
          simp only [k67_a, WK, vop, evAll, evOpt, evParts, vbuiltin, vun, vextract, Nat.reduceLT, Nat.reduceEqDiff, ↓reduceIte, reduceCtorEq, Nat.reduceAdd, Int.reduceLT, Int.reduceNeg, valloc_std, noSB, vhot, h2, h3, h5, FV3, q1'.list, p1'.list, hw.len, hw'.len, hlt', hs]
          exact ⟨by rw [heq], hkk⟩
        · rw [if_neg (by omega)] at heq
          simp only [k67_a, WK, vop, evAll, evOpt, evParts, vbuiltin, vun, vextract, Nat.reduceLT, Nat.reduceEqDiff, ↓reduceIte, reduceCtorEq, Nat.reduceAdd, Int.reduceLT, Int.reduceNeg, valloc_std, noSB, vhot, h2, h3, h5, FV3, q1'.list, p1'.list, hw.len, hw'.len, hlt', hs, e2]
          exact ⟨by rw [heq], hkk⟩
    obtain ⟨q, σ', h1, rfl, h3⟩ := key
    exact ⟨σ', h1, h3⟩
theorem refcompare_does {a b : Val} {c1 c2 : List V} (σ : St) (hw : weight a ≤ 4294967296) (ha : ValC a c1) (hb : ValC b c2) : ∃ σ', Does Try.prog prims 67 [.agg c1, .agg c2] σ (.ret (.int .i64 (cmpV a b))) σ' ∧ Keep σ σ' :=
  refcompare_ok _ (Nat.le_refl _) σ hw ha hb

/-! ### Weights -/
def I28 (σ0 : St) (s : Nat) (l : List Val) : Nat → (Nat → V) → St → Prop := fun i e σ => e 13 = .int .i64 i ∧ i ≤ l.length ∧ e 3 = .int .i64 (s + weights (l.take i) : Nat) ∧ Keep σ0 σ

theorem weight_ok : ∀ (n : Nat), n ≤ 4294967296 → ∀ {a : Val} {c1 : List V} (σ : St), weight a ≤ n → ValC a c1 → ∃ σ', Does Try.prog prims 40 [.agg c1] σ (.ret (.int .i64 (weight a : Nat))) σ' ∧ Keep σ σ' := by
  intro n
  induction n with
  | zero => intro _ a c1 σ h; have := weight_pos a; omega
  | succ n ih =>
    intro hn a c1 σ hwt ha
    have key : ∃ q σ', Does Try.prog prims 40 [.agg c1] σ q σ' ∧ q = .ret (.int .i64 (weight a : Nat)) ∧ Keep σ σ' := by
      obtain ⟨k, m, t, l, w, rfl, rfl, hw, ik, im⟩ := ha.inv
      rw [weight] at hwt ⊢
      have hll := weights_len l
      apply k40_is.does (by simp)
      obtain ⟨σ2, hσ2⟩ : ∃ σ2 : St, σ2 = ⟨σ.objs ++ [Ob.cells [.int .i64 k, .int .i64 m, .str t, w]], σ.toks⟩ := ⟨_, rfl⟩
      have hk2 : Keep σ σ2 := by rw [hσ2]; exact (Keep.refl σ).push _
      have q2 : IsV σ2 σ.objs.length [.int .i64 k, .int .i64 m, .str t, w] := by rw [hσ2]; exact push_new _ _
      have w1 : IntKind.i64.wrap (1 + (t.length : Int)) = ((1 + t.length : Nat) : Int) := by rw [wrap_i64 (by omega) (by omega)]; omega
      simp only [k40_a, WK, vop, evAll, evOpt, evParts, vbuiltin, vun, vextract, Nat.reduceLT, Nat.reduceEqDiff, ↓reduceIte, reduceCtorEq, Nat.reduceAdd, Int.reduceLT, Int.reduceNeg, valloc_std, noSB, vhot, List.getD_cons_zero, vbox, vcells, ← hσ2, FV2, FV3, q2.text, q2.list, vlen_str T9, hw.len, w1]
      refine Ev.loopF (I28 σ (1 + t.length) l) (fun i => l.length - i) 0 ⟨by simp [upd_some], by simp, by simp [upd_some, weights], hk2⟩ ?_
      rintro i e σ1 ⟨h13, hi, h3, hk⟩ hf
      have h11 : e 11 = w := (hf 11 (by decide)).trans (by simp [upd_some])
      have h12 : e 12 = .int .i64 l.length := (hf 12 (by decide)).trans (by simp [upd_some])
      clear hf
      by_cases hlt : i < l.length
      · have hlt' : (i : Int) < l.length := by omega
        have hwi : IntKind.i64.wrap ((i : Int) + 1) = ((i + 1 : Nat) : Int) := by rw [show ((i : Int) + 1) = ((i + 1 : Nat) : Int) from by omega]; exact wrap_nat (by omega)
        obtain ⟨cs, c, ha0, hld, hc⟩ := hw.get hlt
        obtain ⟨s2, hs2⟩ : ∃ s2 : St, s2 = ⟨(σ1.objs ++ [Ob.cells val0C]).set σ1.objs.length (Ob.cells c), σ1.toks⟩ := ⟨_, rfl⟩
        have p2 : IsV s2 σ1.objs.length c := by rw [hs2]; exact IsV.made
        have k2 : Keep σ1 s2 := by rw [hs2]; exact (Keep.refl σ1).madeV _ _
        have hmem := weights_mem (List.getElem_mem hlt)
        obtain ⟨s3, d3, k3⟩ := ih (by omega) s2 (by omega) hc
        have hts := weights_take_succ hlt
        have htl := weights_take_le l (i + 1)
        have w2 : IntKind.i64.wrap (((1 + t.length + weights (l.take i) : Nat) : Int) + (weight l[i] : Nat)) = ((1 + t.length + weights (l.take (i + 1)) : Nat) : Int) := by rw [wrap_i64 (by omega) (by omega)]; omega
        simp only [k40_a, WK, vop, evAll, evOpt, evParts, vbuiltin, vun, vextract, Nat.reduceLT, Nat.reduceEqDiff, ↓reduceIte, reduceCtorEq, Nat.reduceAdd, Int.reduceLT, Int.reduceNeg, valloc_std, noSB, vhot, h3, h11, h12, h13, hlt', ha0, hld, VZ24, vbox, vcells, IsV.new hc.len (show val0C.length = 4 from rfl) hc.one, ← hs2, p2.load hc.len]
        refine KD.ret d3 ?_
        simp only [k40_a, WK, vop, evAll, evOpt, evParts, vbuiltin, vun, vextract, Nat.reduceLT, Nat.reduceEqDiff, ↓reduceIte, reduceCtorEq, Nat.reduceAdd, Int.reduceLT, Int.reduceNeg, valloc_std, noSB, vhot, h3, h13, w2, hwi]
        exact ⟨i + 1, ⟨by simp [upd_some], hlt, by simp [upd_some], (hk.trans k2).trans k3⟩, by omega⟩
      · have hlt' : ¬ (i : Int) < l.length := by omega
        simp only [k40_a, WK, vop, evAll, evOpt, evParts, vbuiltin, vun, vextract, Nat.reduceLT, Nat.reduceEqDiff, ↓reduceIte, reduceCtorEq, Nat.reduceAdd, Int.reduceLT, Int.reduceNeg, valloc_std, noSB, vhot, h3, h11, h12, h13, hlt']
        rw [List.take_of_length_le (by omega)]
        exact ⟨rfl, hk⟩
    obtain ⟨q, σ', h1, rfl, h3⟩ := key
    exact ⟨σ', h1, h3⟩
theorem weight_does {a : Val} {c1 : List V} (σ : St) (hw : weight a ≤ 4294967296) (ha : ValC a c1) : ∃ σ', Does Try.prog prims 40 [.agg c1] σ (.ret (.int .i64 (weight a : Nat))) σ' ∧ Keep σ σ' :=
  weight_ok _ (Nat.le_refl _) σ hw ha
end Go.Proofs.Ytplhelapcpcncaa.Q

set_option linter.unusedVariables false
set_option linter.unusedSimpArgs false
namespace Go.Proofs.Ytplhelapcpcncaa.Q
open Go Go.RowKit Go.Proofs

theorem refweight_ok : ∀ (n : Nat), n ≤ 4294967296 → ∀ {a : Val} {c1 : List V} (σ : St), weight a ≤ n → ValC a c1 → ∃ σ', Does Try.prog prims 43 [.agg c1] σ (.ret (.int .i64 (weight a : Nat))) σ' ∧ Keep σ σ' := by
  intro n
  induction n with
  | zero => intro _ a c1 σ h; have := weight_pos a; omega
  | succ n ih =>
    intro hn a c1 σ hwt ha
    have key : ∃ q σ', Does Try.prog prims 43 [.agg c1] σ q σ' ∧ q = .ret (.int .i64 (weight a : Nat)) ∧ Keep σ σ' := by
      obtain ⟨k, m, t, l, w, rfl, rfl, hw, ik, im⟩ := ha.inv
      rw [weight] at hwt ⊢
      have hll := weights_len l
      apply k43_is.does (by simp)
      obtain ⟨σ2, hσ2⟩ : ∃ σ2 : St, σ2 = ⟨σ.objs ++ [Ob.cells [.int .i64 k, .int .i64 m, .str t, w]], σ.toks⟩ := ⟨_, rfl⟩
      have hk2 : Keep σ σ2 := by rw [hσ2]; exact (Keep.refl σ).push _
      have q2 : IsV σ2 σ.objs.length [.int .i64 k, .int .i64 m, .str t, w] := by rw [hσ2]; exact push_new _ _
      have w1 : IntKind.i64.wrap (1 + (t.length : Int)) = ((1 + t.length : Nat) : Int) := by rw [wrap_i64 (by omega) (by omega)]; omega
      simp only [k43_a, WK, vop, evAll, evOpt, evParts, vbuiltin, vun, vextract, Nat.reduceLT, Nat.reduceEqDiff, ↓reduceIte, reduceCtorEq, Nat.reduceAdd, Int.reduceLT, Int.reduceNeg, valloc_std, noSB, vhot, List.getD_cons_zero, vbox, vcells, ← hσ2, FV2, FV3, q2.text, q2.list, vlen_str T9, hw.len, w1]
      refine Ev.loopF (I28 σ (1 + t.length) l) (fun i => l.length - i) 0 ⟨by simp [upd_some], by simp, by simp [upd_some, weights], hk2⟩ ?_
      rintro i e σ1 ⟨h13, hi, h3, hk⟩ hf
      have h11 : e 11 = w := (hf 11 (by decide)).trans (by simp [upd_some])
      have h12 : e 12 = .int .i64 l.length := (hf 12 (by decide)).trans (by simp [upd_some])
      clear hf
      by_cases hlt : i < l.length
      · have hlt' : (i : Int) < l.length := by omega
        have hwi : IntKind.i64.wrap ((i : Int) + 1) = ((i + 1 : Nat) : Int) := by rw [show ((i : Int) + 1) = ((i + 1 : Nat) : Int) from by omega]; exact wrap_nat (by omega)
        obtain ⟨cs, c, ha0, hld, hc⟩ := hw.get hlt
        obtain ⟨s2, hs2⟩ : ∃ s2 : St, s2 = ⟨(σ1.objs ++ [Ob.cells val0C]).set σ1.objs.length (Ob.cells c), σ1.toks⟩ := ⟨_, rfl⟩
        have p2 : IsV s2 σ1.objs.length c := by rw [hs2]; exact IsV.made
        have k2 : Keep σ1 s2 := by rw [hs2]; exact (Keep.refl σ1).madeV _ _
        have hmem := weights_mem (List.getElem_mem hlt)
        obtain ⟨s3, d3, k3⟩ := ih (by omega) s2 (by omega) hc
        have hts := weights_take_succ hlt
        have htl := weights_take_le l (i + 1)
        have w2 : IntKind.i64.wrap (((1 + t.length + weights (l.take i) : Nat) : Int) + (weight l[i] : Nat)) = ((1 + t.length + weights (l.take (i + 1)) : Nat) : Int) := by rw [wrap_i64 (by omega) (by omega)]; omega
        simp only [k43_a, WK, vop, evAll, evOpt, evParts, vbuiltin, vun, vextract, Nat.reduceLT, Nat.reduceEqDiff, ↓reduceIte, reduceCtorEq, Nat.reduceAdd, Int.reduceLT, Int.reduceNeg, valloc_std, noSB, vhot, h3, h11, h12, h13, hlt', ha0, hld, VZ24, vbox, vcells, IsV.new hc.len (show val0C.length = 4 from rfl) hc.one, ← hs2, p2.load hc.len]
        refine KD.ret d3 ?_
        simp only [k43_a, WK, vop, evAll, evOpt, evParts, vbuiltin, vun, vextract, Nat.reduceLT, Nat.reduceEqDiff, ↓reduceIte, reduceCtorEq, Nat.reduceAdd, Int.reduceLT, Int.reduceNeg, valloc_std, noSB, vhot, h3, h13, w2, hwi]
        exact ⟨i + 1, ⟨by simp [upd_some], hlt, by simp [upd_some], (hk.trans k2).trans k3⟩, by omega⟩
      · have hlt' : ¬ (i : Int) < l.length := by omega
        simp only [k43_a, WK, vop, evAll, evOpt, evParts, vbuiltin, vun, vextract, Nat.reduceLT, Nat.reduceEqDiff, ↓reduceIte, reduceCtorEq, Nat.reduceAdd, Int.reduceLT, Int.reduceNeg, valloc_std, noSB, vhot, h3, h11, h12, h13, hlt']
        rw [List.take_of_length_le (by omega)]
        exact ⟨rfl, hk⟩
    obtain ⟨q, σ', h1, rfl, h3⟩ := key
    exact ⟨σ', h1, h3⟩
theorem refweight_does {a : Val} {c1 : List V} (σ : St) (hw : weight a ≤ 4294967296) (ha : ValC a c1) : ∃ σ', Does Try.prog prims 43 [.agg c1] σ (.ret (.int .i64 (weight a : Nat))) σ' ∧ Keep σ σ' :=
  refweight_ok _ (Nat.le_refl _) σ hw ha

/-! ### How large -/
theorem Keep.viaX' {σ σ1 σ2 : St} {r : Nat} (h : Keep σ σ1) (h2 : KeepX r σ1 σ2) (hr : σ.objs.length ≤ r) : Keep σ σ2 :=
  ⟨fun q o ho => h2.1 q o (by have := (List.getElem?_eq_some_iff.1 ho).1; omega) (h.1 q o ho), Nat.le_trans h.2.1 h2.2.1, fun k hk => h2.2.2 k (h.2.2 k hk)⟩
def IsN (σ : St) (p : Nat) (x : Nat) : Prop := σ.objs[p]? = some (.cells [.int .i64 (x : Nat)])
theorem IsN.load {σ : St} {p x : Nat} (h : IsN σ p x) : vload Try.prog σ.objs 3 (.optr p 0) = some (.int .i64 (x : Nat)) := by rw [vload_obj h G3]; rfl
theorem IsN.put {σ : St} {p x : Nat} (h : IsN σ p x) (y : Nat) : vstore Try.prog σ 3 (.optr p 0) (.int .i64 (y : Nat)) = some ⟨σ.objs.set p (Ob.cells [.int .i64 (y : Nat)]), σ.toks⟩ := by
  rw [vstore_obj h S3 rfl (by simp)]; rfl
theorem KeepX.atV {σ σ' : St} {p : Nat} (h : KeepX p σ σ') {q : Nat} {c : List V} (hne : q ≠ p) (hq : IsV σ q c) : IsV σ' q c := h.1 _ _ hne hq
theorem KeepX.atN {σ σ' : St} {q : Nat} (h : Keep σ σ') {p x : Nat} (hq : IsN σ p x) : IsN σ' p x := h.1 _ _ hq
theorem IsN.lt {σ : St} {p x : Nat} (h : IsN σ p x) : p < σ.objs.length := (List.getElem?_eq_some_iff.1 h).1

theorem Z3 : zeroT Try.prog 3 = some (.int .i64 0) := by kernel_rfl
end Go.Proofs.Ytplhelapcpcncaa.Q

set_option linter.unusedVariables false
set_option linter.unusedSimpArgs false
namespace Go.Proofs.Ytplhelapcpcncaa.Q
open Go Go.RowKit Go.Proofs

/-! ### Types and their texts -/
inductive Ty where
  | int | bool | text
  | list (e : Ty) | mapI (e : Ty) | mapT (e : Ty)
  deriving DecidableEq
def intB : List UInt8 := [105, 110, 116]
def boolB : List UInt8 := [98, 111, 111, 108]
def textB : List UInt8 := [116, 101, 120, 116]
def mI : List UInt8 := [123, 105, 110, 116, 58]
def mT : List UInt8 := [123, 116, 101, 120, 116, 58]
def tyB : Ty → List UInt8
  | .int => intB
  | .bool => boolB
  | .text => textB
  | .list e => 91 :: (tyB e ++ [93])
  | .mapI e => mI ++ tyB e ++ [125]
  | .mapT e => mT ++ tyB e ++ [125]
def tyD : Ty → Nat
  | .int => 1 | .bool => 1 | .text => 1
  | .list e => tyD e + 1 | .mapI e => tyD e + 1 | .mapT e => tyD e + 1

def isPre (p l : List UInt8) : Bool := decide (p.length ≤ l.length) && decide (l.take p.length = p)
def mid (k : Nat) (s : List UInt8) : List UInt8 := s.dropLast.drop k
/-- The type of a text, of a depth at most r. -/
def tyOf : Nat → List UInt8 → Option Ty
  | 0, _ => none
  | r + 1, s => if s = intB then some .int else if s = boolB then some .bool else if s = textB then some .text
    else if s.length < 2 ∨ r = 0 then none
    else if isPre [91] s.dropLast = true then (if s.getLast? = some 93 then (tyOf r (mid 1 s)).map .list else none)
    else if isPre mI s.dropLast = true then (if s.getLast? = some 125 then (tyOf r (mid 5 s)).map .mapI else none)
    else if isPre mT s.dropLast = true then (if s.getLast? = some 125 then (tyOf r (mid 6 s)).map .mapT else none)
    else none

theorem isPre_append (p l : List UInt8) : isPre p (p ++ l) = true := by simp [isPre]
theorem dropLast_snoc (l : List UInt8) (x : UInt8) : (l ++ [x]).dropLast = l := List.dropLast_concat
theorem isPre_split {p s : List UInt8} {x : UInt8} (h : isPre p s.dropLast = true) (hx : s.getLast? = some x) : s = p ++ mid p.length s ++ [x] := by
  simp only [isPre, Bool.and_eq_true, decide_eq_true_eq] at h
  have h1 : s.dropLast ++ [x] = s := by
    rw [List.getLast?_eq_some_iff] at hx
    obtain ⟨ys, rfl⟩ := hx
    rw [List.dropLast_concat]
  conv => lhs; rw [← h1, ← List.take_append_drop p.length s.dropLast, h.2]
  rfl

theorem tyOf_some : ∀ {r : Nat} {s : List UInt8} {T : Ty}, tyOf r s = some T → s = tyB T ∧ tyD T ≤ r
  | 0, s, T, h => by cases h
  | r + 1, s, T, h => by
    rw [tyOf] at h
    split at h
    · rename_i hs; injection h with h; subst h; exact ⟨hs, by simp [tyD]⟩
    split at h
    · rename_i hs; injection h with h; subst h; exact ⟨hs, by simp [tyD]⟩
    split at h
    · rename_i hs; injection h with h; subst h; exact ⟨hs, by simp [tyD]⟩
    split at h
    · cases h
    split at h
    · rename_i hp
      split at h
      · rename_i hl
        rw [Option.map_eq_some_iff] at h
        obtain ⟨e, he, rfl⟩ := h
        obtain ⟨h1, h2⟩ := tyOf_some he
        have := isPre_split hp hl
        refine ⟨?_, by simp [tyD]; omega⟩
        rw [this, show ([91] : List UInt8).length = 1 from rfl, h1]
        rfl
      · cases h
    split at h
    · rename_i hp
      split at h
      · rename_i hl
        rw [Option.map_eq_some_iff] at h
        obtain ⟨e, he, rfl⟩ := h
        obtain ⟨h1, h2⟩ := tyOf_some he
        have := isPre_split hp hl
        refine ⟨?_, by simp [tyD]; omega⟩
        rw [this, show mI.length = 5 from rfl, h1]
        rfl
      · cases h
    split at h
    · rename_i hp
      split at h
      · rename_i hl
        rw [Option.map_eq_some_iff] at h
        obtain ⟨e, he, rfl⟩ := h
        obtain ⟨h1, h2⟩ := tyOf_some he
        have := isPre_split hp hl
        refine ⟨?_, by simp [tyD]; omega⟩
        rw [this, show mT.length = 6 from rfl, h1]
        rfl
      · cases h
    · cases h

theorem tyB_len : ∀ T : Ty, 3 ≤ (tyB T).length ∧ (tyB T).length ≤ 7 * tyD T
  | .int => by simp [tyB, tyD, intB]
  | .bool => by simp [tyB, tyD, boolB]
  | .text => by simp [tyB, tyD, textB]
  | .list e => by have := tyB_len e; simp [tyB, tyD]; omega
  | .mapI e => by have := tyB_len e; simp [tyB, tyD, mI]; omega
  | .mapT e => by have := tyB_len e; simp [tyB, tyD, mT]; omega
theorem tyD_pos (T : Ty) : 1 ≤ tyD T := by cases T <;> simp [tyD]

theorem tyOf_tyB : ∀ {T : Ty} {r : Nat}, tyD T ≤ r → tyOf r (tyB T) = some T
  | T, 0, h => by have := tyD_pos T; omega
  | .int, r + 1, h => by rw [tyOf, show tyB .int = intB from rfl]; exact if_pos rfl
  | .bool, r + 1, h => by rw [tyOf, show tyB .bool = boolB from rfl, if_neg (by decide)]; exact if_pos rfl
  | .text, r + 1, h => by rw [tyOf, show tyB .text = textB from rfl, if_neg (by decide), if_neg (by decide)]; exact if_pos rfl
  | .list e, r + 1, h => by
    have hl := tyB_len e
    have hr : r ≠ 0 := by have := tyD_pos e; simp only [tyD] at h; omega
    have hb1 : ¬ tyB (.list e) = intB := by simp [tyB, intB]
    have hb2 : ¬ tyB (.list e) = boolB := by simp [tyB, boolB]
    have hb3 : ¬ tyB (.list e) = textB := by simp [tyB, textB]
    have hd : (tyB (.list e)).dropLast = [91] ++ tyB e := by rw [tyB, ← List.cons_append, dropLast_snoc]; rfl
    have hg : (tyB (.list e)).getLast? = some 93 := by rw [tyB, ← List.cons_append, List.getLast?_concat]
    rw [tyOf, if_neg hb1, if_neg hb2, if_neg hb3, if_neg (by rw [tyB]; simp [hr]), hd, if_pos (isPre_append _ _), if_pos hg]
    have : mid 1 (tyB (.list e)) = tyB e := by rw [mid, hd]; rfl
    rw [this, tyOf_tyB (by simp only [tyD] at h; omega)]
    rfl
  | .mapI e, r + 1, h => by
    have hl := tyB_len e
    have hr : r ≠ 0 := by have := tyD_pos e; simp only [tyD] at h; omega
    have hb1 : ¬ tyB (.mapI e) = intB := by simp [tyB, intB, mI]
    have hb2 : ¬ tyB (.mapI e) = boolB := by simp [tyB, boolB, mI]
    have hb3 : ¬ tyB (.mapI e) = textB := by simp [tyB, textB, mI]
    have hd : (tyB (.mapI e)).dropLast = mI ++ tyB e := by rw [tyB, dropLast_snoc]
    have hg : (tyB (.mapI e)).getLast? = some 125 := by rw [tyB, List.getLast?_concat]
    have hp : ¬ isPre [91] (tyB (.mapI e)).dropLast = true := by rw [hd]; simp [isPre, mI]
    rw [tyOf, if_neg hb1, if_neg hb2, if_neg hb3, if_neg (by rw [tyB]; simp [hr, mI]), if_neg hp, hd, if_pos (isPre_append _ _), if_pos hg]
    have : mid 5 (tyB (.mapI e)) = tyB e := by rw [mid, hd]; rfl
    rw [this, tyOf_tyB (by simp only [tyD] at h; omega)]
    rfl
  | .mapT e, r + 1, h => by
    have hl := tyB_len e
    have hr : r ≠ 0 := by have := tyD_pos e; simp only [tyD] at h; omega
    have hb1 : ¬ tyB (.mapT e) = intB := by simp [tyB, intB, mT]
    have hb2 : ¬ tyB (.mapT e) = boolB := by simp [tyB, boolB, mT]
    have hb3 : ¬ tyB (.mapT e) = textB := by simp [tyB, textB, mT]
    have hd : (tyB (.mapT e)).dropLast = mT ++ tyB e := by rw [tyB, dropLast_snoc]
    have hg : (tyB (.mapT e)).getLast? = some 125 := by rw [tyB, List.getLast?_concat]
    have hp : ¬ isPre [91] (tyB (.mapT e)).dropLast = true := by rw [hd]; simp [isPre, mT]
    have hp2 : ¬ isPre mI (tyB (.mapT e)).dropLast = true := by rw [hd]; simp [isPre, mT, mI]
    rw [tyOf, if_neg hb1, if_neg hb2, if_neg hb3, if_neg (by rw [tyB]; simp [hr, mT]), if_neg hp, if_neg hp2, hd, if_pos (isPre_append _ _), if_pos hg]
    have : mid 6 (tyB (.mapT e)) = tyB e := by rw [mid, hd]; rfl
    rw [this, tyOf_tyB (by simp only [tyD] at h; omega)]
    rfl
theorem tyOf_iff {r : Nat} {s : List UInt8} {T : Ty} : tyOf r s = some T ↔ s = tyB T ∧ tyD T ≤ r :=
  ⟨tyOf_some, fun ⟨h1, h2⟩ => by rw [h1]; exact tyOf_tyB h2⟩
theorem tyB_inj {T U : Ty} (h : tyB T = tyB U) : T = U := by
  have h1 := tyOf_tyB (T := T) (r := max (tyD T) (tyD U)) (Nat.le_max_left _ _)
  rw [h, tyOf_tyB (Nat.le_max_right _ _)] at h1
  injection h1 with h1
  exact h1.symm
end Go.Proofs.Ytplhelapcpcncaa.Q

set_option linter.unusedVariables false
set_option linter.unusedSimpArgs false
namespace Go.Proofs.Ytplhelapcpcncaa.Q
open Go Go.RowKit Go.Proofs

theorem ofVal_str {a : ByteArray} : ofVal (.string a) = some (.str a.data.toList) := rfl
theorem str_hi {s : List UInt8} {n : Nat} (h : n ≤ s.length) {k : IntKind} : vslice Try.prog 9 (.str s) none (some (.int k (n : Int))) none = some (.str (s.take n)) := by
  have := vbounds_hi (len := s.length) (k := k) (n := n) (by omega) (by omega)
  simp [vslice, T9, this]
theorem str_lo {s : List UInt8} {n : Nat} (h : n ≤ s.length) {k : IntKind} : vslice Try.prog 9 (.str s) (some (.int k (n : Int))) none none = some (.str (s.drop n)) := by
  have := vbounds_lo (len := s.length) (k := k) (n := n) (by omega) (by omega)
  have h2 : List.take (s.length - n) (List.drop n s) = List.drop n s := List.take_of_length_le (by rw [List.length_drop]; omega)
  simp [vslice, T9, this, h2]
theorem str_lohi {s : List UInt8} {n m : Nat} (h : n ≤ m) (hm : m ≤ s.length) {k k' : IntKind} : vslice Try.prog 9 (.str s) (some (.int k (n : Int))) (some (.int k' (m : Int))) none = some (.str ((s.take m).drop n)) := by
  have := vbounds_lohi (len := s.length) (k := k) (k' := k') (n := n) (m := m) (by omega) (by omega) (by omega)
  simp [vslice, T9, this, List.drop_take]
theorem str_at {s : List UInt8} {n : Nat} {c : UInt8} (h : s[n]? = some c) {k : IntKind} : vindex Try.prog 9 (.str s) (.int k (n : Int)) = some (.int .u8 (c.toNat : Int)) := by
  simp [vindex, T9, h]
theorem u8_eq {c d : UInt8} : decide ((c.toNat : Int) = (d.toNat : Int)) = decide (c = d) := by
  rw [decide_eq_decide]
  constructor
  · intro h; exact UInt8.toNat_inj.1 (by omega)
  · rintro rfl; rfl

theorem hasprefix_does (s p : List UInt8) (σ : St) : Does Try.prog prims 80 [.str s, .str p] σ (.ret (.bool (isPre p s))) σ := by
  apply k80_is.ret (by simp)
  unfold isPre
  by_cases h : (p.length : Int) ≤ s.length
  · have h' : p.length ≤ s.length := by omega
    simp only [k80_a, WK, vop, evAll, evOpt, evParts, vbuiltin, vun, vextract, Nat.reduceLT, Nat.reduceEqDiff, ↓reduceIte, reduceCtorEq, Nat.reduceAdd, Int.reduceLT, Int.reduceNeg, valloc_std, noSB, vhot, List.getD_cons_zero, List.getD_cons_succ, vlen_str T9, h, T9, str_hi h', strBin, h', Bool.true_and]
  · have h' : ¬ p.length ≤ s.length := by omega
    simp only [k80_a, WK, vop, evAll, evOpt, evParts, vbuiltin, vun, vextract, Nat.reduceLT, Nat.reduceEqDiff, ↓reduceIte, reduceCtorEq, Nat.reduceAdd, Int.reduceLT, Int.reduceNeg, valloc_std, noSB, vhot, List.getD_cons_zero, List.getD_cons_succ, vlen_str T9, h, h', Bool.false_and]

def cutS (s p : List UInt8) : List UInt8 := if isPre p s then s.drop p.length else s
theorem cut1_does (s p : List UInt8) (σ : St) : Does Try.prog prims 76 [.str s, .str p] σ (.ret (.tuple [.str (cutS s p), .bool (isPre p s)])) σ := by
  apply k76_is.ret (by simp)
  simp only [k76_a, WK, vop, evAll, evOpt, evParts, vbuiltin, vun, vextract, Nat.reduceLT, Nat.reduceEqDiff, ↓reduceIte, reduceCtorEq, Nat.reduceAdd, Int.reduceLT, Int.reduceNeg, valloc_std, noSB, vhot, ofVal_str, List.getD_cons_zero, List.getD_cons_succ]
  refine KD.ret (hasprefix_does s p σ) ?_
  unfold cutS
  cases h : isPre p s with
  | false => simp only [k76_a, WK, vop, evAll, evOpt, evParts, vbuiltin, vun, vextract, Nat.reduceLT, Nat.reduceEqDiff, ↓reduceIte, reduceCtorEq, Nat.reduceAdd, Int.reduceLT, Int.reduceNeg, valloc_std, noSB, vhot, List.getD_cons_zero, List.getD_cons_succ]
  | true =>
    have h' : p.length ≤ s.length := by
      simp only [isPre, Bool.and_eq_true, decide_eq_true_eq] at h
      exact h.1
    simp only [k76_a, WK, vop, evAll, evOpt, evParts, vbuiltin, vun, vextract, Nat.reduceLT, Nat.reduceEqDiff, ↓reduceIte, reduceCtorEq, Nat.reduceAdd, Int.reduceLT, Int.reduceNeg, valloc_std, noSB, vhot, List.getD_cons_zero, List.getD_cons_succ, vlen_str T9, T9, str_lo h']
theorem cut_does (s p : List UInt8) (σ : St) : Does Try.prog prims 69 [.str s, .str p] σ (.ret (.tuple [.str (cutS s p), .bool (isPre p s)])) σ := by
  apply k69_is.ret (by simp)
  simp only [k69_a, WK, vop, evAll, evOpt, evParts, vbuiltin, vun, vextract, Nat.reduceLT, Nat.reduceEqDiff, ↓reduceIte, reduceCtorEq, Nat.reduceAdd, Int.reduceLT, Int.reduceNeg, valloc_std, noSB, vhot, ofVal_str, List.getD_cons_zero, List.getD_cons_succ]
  refine KD.ret (cut1_does s p σ) ?_
  simp only [k69_a, WK, vop, evAll, evOpt, evParts, vbuiltin, vun, vextract, Nat.reduceLT, Nat.reduceEqDiff, ↓reduceIte, reduceCtorEq, Nat.reduceAdd, Int.reduceLT, Int.reduceNeg, valloc_std, noSB, vhot, List.getD_cons_zero, List.getD_cons_succ]

def strsV (l : List (List UInt8)) : List V := l.map .str
theorem TS98 : Try.prog.underlying 49 = some (.slice 9) := by kernel_rfl
theorem build2S (a b : List UInt8) : vbuildSlice Try.prog 49 2 [(0, .str a), (1, .str b)] = some (.slice .exact 1 [.str a, .str b] 2) := by kernel_rfl

theorem str2_addr0 (a b : List UInt8) : vindexAddr Try.prog 49 (.slice .exact 1 [.str a, .str b] 2) (.int .i64 ((0 : Nat) : Int)) = some (.eptr [.str a, .str b] 0) := by simp [vindexAddr, TS98, S9]
theorem str2_addr1 (a b : List UInt8) : vindexAddr Try.prog 49 (.slice .exact 1 [.str a, .str b] 2) (.int .i64 ((1 : Nat) : Int)) = some (.eptr [.str a, .str b] 1) := by simp [vindexAddr, TS98, S9]
theorem str2_load0 (a b : List UInt8) (objs : List Ob) : vload Try.prog objs 9 (.eptr [.str a, .str b] 0) = some (.str a) := by simp [vload, vcellsAt, vpart, G9]
theorem str2_load1 (a b : List UInt8) (objs : List Ob) : vload Try.prog objs 9 (.eptr [.str a, .str b] 1) = some (.str b) := by simp [vload, vcellsAt, vpart, G9]
theorem str2_len (a b : List UInt8) : vlen Try.prog 49 (.slice .exact 1 [.str a, .str b] 2) = some (.int .i64 2) := by simp [vlen, TS98]

set_option maxRecDepth 100000 in
set_option maxHeartbeats 1000000 in
theorem kind_does : ∀ (r : Nat), r ≤ 3 → ∀ (s : List UInt8) (σ : St), s.length ≤ 4294967296 → Does Try.prog prims 57 [.str s, .int .i64 ((4 - r : Nat) : Int)] σ (.ret (.bool (tyOf (r + 1) s).isSome)) σ := by
  intro r
  induction r with
  | zero =>
    intro hr s σ hl
    apply k57_is.ret (by simp)
    rw [tyOf]
    by_cases h1 : s = [105, 110, 116]
    · subst h1
      simp only [k57_a, WK, vop, evAll, evOpt, evParts, vbuiltin, vun, vextract, Nat.reduceLT, Nat.reduceEqDiff, ↓reduceIte, reduceCtorEq, Nat.reduceAdd, Int.reduceLT, Int.reduceNeg, valloc_std, noSB, vhot, List.getD_cons_zero, List.getD_cons_succ, ofVal_str, strBin, eq_self, Nat.sub_zero, Int.reduceLE, Int.cast_ofNat_Int, intB]
      rfl
    by_cases h2 : s = [98, 111, 111, 108]
    · subst h2
      simp only [k57_a, WK, vop, evAll, evOpt, evParts, vbuiltin, vun, vextract, Nat.reduceLT, Nat.reduceEqDiff, ↓reduceIte, reduceCtorEq, Nat.reduceAdd, Int.reduceLT, Int.reduceNeg, valloc_std, noSB, vhot, List.getD_cons_zero, List.getD_cons_succ, ofVal_str, strBin, h1, eq_self, Nat.sub_zero, Int.reduceLE, Int.cast_ofNat_Int, intB, boolB]
      rfl
    by_cases h3 : s = [116, 101, 120, 116]
    · subst h3
      simp only [k57_a, WK, vop, evAll, evOpt, evParts, vbuiltin, vun, vextract, Nat.reduceLT, Nat.reduceEqDiff, ↓reduceIte, reduceCtorEq, Nat.reduceAdd, Int.reduceLT, Int.reduceNeg, valloc_std, noSB, vhot, List.getD_cons_zero, List.getD_cons_succ, ofVal_str, strBin, h1, h2, eq_self, Nat.sub_zero, Int.reduceLE, Int.cast_ofNat_Int, intB, boolB, textB]
      rfl
    rw [if_neg (show ¬ s = intB from h1), if_neg (show ¬ s = boolB from h2), if_neg (show ¬ s = textB from h3), if_pos (.inr rfl)]
    by_cases hlen : (s.length : Int) < 2
    · simp only [k57_a, WK, vop, evAll, evOpt, evParts, vbuiltin, vun, vextract, Nat.reduceLT, Nat.reduceEqDiff, ↓reduceIte, reduceCtorEq, Nat.reduceAdd, Int.reduceLT, Int.reduceNeg, valloc_std, noSB, vhot, List.getD_cons_zero, List.getD_cons_succ, ofVal_str, strBin, h1, h2, h3, vlen_str T9, hlen, Option.isSome_none]
    · simp only [k57_a, WK, vop, evAll, evOpt, evParts, vbuiltin, vun, vextract, Nat.reduceLT, Nat.reduceEqDiff, ↓reduceIte, reduceCtorEq, Nat.reduceAdd, Int.reduceLT, Int.reduceNeg, valloc_std, noSB, vhot, List.getD_cons_zero, List.getD_cons_succ, ofVal_str, strBin, h1, h2, h3, vlen_str T9, hlen, Nat.sub_zero, Int.reduceLE, Int.cast_ofNat_Int, Option.isSome_none]
  | succ r ih =>
    intro hr s σ hl
    apply k57_is.ret (by simp)
    rw [tyOf]
    have hd4 : ((4 - (r + 1) : Nat) : Int) ≤ 4 := by omega
    have hd4' : ¬ (4 : Int) ≤ ((4 - (r + 1) : Nat) : Int) := by omega
    obtain ⟨d, hd⟩ : ∃ d : Int, d = ((4 - (r + 1) : Nat) : Int) := ⟨_, rfl⟩
    rw [← hd] at hd4 hd4' ⊢
    by_cases h1 : s = [105, 110, 116]
    · subst h1
      simp only [k57_a, WK, vop, evAll, evOpt, evParts, vbuiltin, vun, vextract, Nat.reduceLT, Nat.reduceEqDiff, ↓reduceIte, reduceCtorEq, Nat.reduceAdd, Int.reduceLT, Int.reduceNeg, valloc_std, noSB, vhot, List.getD_cons_zero, List.getD_cons_succ, ofVal_str, strBin, eq_self, hd4, intB]
      rfl
    by_cases h2 : s = [98, 111, 111, 108]
    · subst h2
      simp only [k57_a, WK, vop, evAll, evOpt, evParts, vbuiltin, vun, vextract, Nat.reduceLT, Nat.reduceEqDiff, ↓reduceIte, reduceCtorEq, Nat.reduceAdd, Int.reduceLT, Int.reduceNeg, valloc_std, noSB, vhot, List.getD_cons_zero, List.getD_cons_succ, ofVal_str, strBin, h1, eq_self, hd4, intB, boolB]
      rfl
    by_cases h3 : s = [116, 101, 120, 116]
    · subst h3
      simp only [k57_a, WK, vop, evAll, evOpt, evParts, vbuiltin, vun, vextract, Nat.reduceLT, Nat.reduceEqDiff, ↓reduceIte, reduceCtorEq, Nat.reduceAdd, Int.reduceLT, Int.reduceNeg, valloc_std, noSB, vhot, List.getD_cons_zero, List.getD_cons_succ, ofVal_str, strBin, h1, h2, eq_self, hd4, intB, boolB, textB]
      rfl
    rw [if_neg (show ¬ s = intB from h1), if_neg (show ¬ s = boolB from h2), if_neg (show ¬ s = textB from h3)]
    by_cases hlen : (s.length : Int) < 2
    · rw [if_pos (.inl (by omega))]
      simp only [k57_a, WK, vop, evAll, evOpt, evParts, vbuiltin, vun, vextract, Nat.reduceLT, Nat.reduceEqDiff, ↓reduceIte, reduceCtorEq, Nat.reduceAdd, Int.reduceLT, Int.reduceNeg, valloc_std, noSB, vhot, List.getD_cons_zero, List.getD_cons_succ, ofVal_str, strBin, h1, h2, h3, vlen_str T9, hlen, Option.isSome_none]
    rw [if_neg (by omega)]
    have w1 : IntKind.i64.wrap ((s.length : Int) - 1) = ((s.length - 1 : Nat) : Int) := by rw [wrap_i64 (by omega) (by omega)]; omega
    have w2 : IntKind.i64.wrap (d + 1) = ((4 - r : Nat) : Int) := by rw [wrap_i64 (by omega) (by omega)]; omega
    obtain ⟨c, hc⟩ : ∃ c, s[s.length - 1]? = some c := ⟨_, List.getElem?_eq_getElem (by omega)⟩
    have hg : s.getLast? = some c := by rw [List.getLast?_eq_getElem?]; exact hc
    have hdl : s.take (s.length - 1) = s.dropLast := (List.dropLast_eq_take).symm
    have c93 : decide ((c.toNat : Int) = 93) = decide (c = 93) := u8_eq (d := 93)
    have c125 : decide ((c.toNat : Int) = 125) = decide (c = 125) := u8_eq (d := 125)
    have ln : ∀ k, (mid k s).length ≤ 4294967296 := fun k => by unfold mid; rw [List.length_drop, List.length_dropLast]; omega
    have hsome : ∀ x : UInt8, (s.getLast? = some x) = (c = x) := fun x => by rw [hg, Option.some.injEq]
    simp only [hsome]
    simp only [k57_a, WK, vop, evAll, evOpt, evParts, vbuiltin, vun, vextract, Nat.reduceLT, Nat.reduceEqDiff, ↓reduceIte, reduceCtorEq, Nat.reduceAdd, Int.reduceLT, Int.reduceNeg, valloc_std, noSB, vhot, List.getD_cons_zero, List.getD_cons_succ, ofVal_str, strBin, h1, h2, h3, vlen_str T9, hlen, hd4', w1, T9, str_hi (show s.length - 1 ≤ s.length by omega), hdl]
    refine KD.ret (cut_does s.dropLast [91] σ) ?_
    cases hp : isPre [91] s.dropLast with
    | true =>
      have hcut : cutS s.dropLast [91] = mid 1 s := by unfold cutS; rw [if_pos hp]; rfl
      by_cases hcc : c = 93
      · have hb : decide ((c.toNat : Int) = 93) = true := by rw [c93]; exact decide_eq_true hcc
        have hcc' : (c = 93) = True := eq_true hcc
        simp only [k57_a, WK, vop, evAll, evOpt, evParts, vbuiltin, vun, vextract, Nat.reduceLT, Nat.reduceEqDiff, ↓reduceIte, reduceCtorEq, Nat.reduceAdd, Int.reduceLT, Int.reduceNeg, valloc_std, noSB, vhot, List.getD_cons_zero, List.getD_cons_succ, vlen_str T9, w1, w2, str_at hc, hb, hcc', hcut, eq_self, if_true]
        refine KD.ret (ih (by omega) (mid 1 s) σ (ln 1)) ?_
        simp only [k57_a, WK, vop, evAll, evOpt, evParts, vbuiltin, vun, vextract, Nat.reduceLT, Nat.reduceEqDiff, ↓reduceIte, reduceCtorEq, Nat.reduceAdd, Int.reduceLT, Int.reduceNeg, valloc_std, noSB, vhot, Option.isSome_map]
      · have hb : decide ((c.toNat : Int) = 93) = false := by rw [c93]; exact decide_eq_false hcc
        have hcc' : (c = 93) = False := eq_false hcc
        simp only [k57_a, WK, vop, evAll, evOpt, evParts, vbuiltin, vun, vextract, Nat.reduceLT, Nat.reduceEqDiff, ↓reduceIte, reduceCtorEq, Nat.reduceAdd, Int.reduceLT, Int.reduceNeg, valloc_std, noSB, vhot, List.getD_cons_zero, List.getD_cons_succ, vlen_str T9, w1, w2, str_at hc, hb, hcc', hcut, if_true, if_false, Option.isSome_none]
    | false =>
      simp only [k57_a, WK, vop, evAll, evOpt, evParts, vbuiltin, vun, vextract, Nat.reduceLT, Nat.reduceEqDiff, ↓reduceIte, reduceCtorEq, Nat.reduceAdd, Int.reduceLT, Int.reduceNeg, valloc_std, noSB, vhot, ofVal_str, build2S, str2_len, Bool.false_eq_true, if_false]
      refine Ev.loopF (fun i e σ' => e 49 = .int .i64 (i : Nat) ∧ i ≤ 2 ∧ (1 ≤ i → isPre mI s.dropLast = false) ∧ (2 ≤ i → isPre mT s.dropLast = false) ∧ σ' = σ) (fun i => 2 - i) 0 ?_ ?_
      · exact ⟨by simp [upd_some], by omega, fun h => by omega, fun h => by omega, rfl⟩
      rintro i e σ' ⟨h49, hi, hm1, hm2, hσ⟩ hf
      subst hσ
      have h47 : e 47 = .slice .exact 1 [.str mI, .str mT] 2 := (hf 47 (by decide)).trans (by simp [upd_some, mI, mT])
      have h48 : e 48 = .int .i64 2 := (hf 48 (by decide)).trans (by simp [upd_some])
      have h0 : e 0 = .str s := (hf 0 (by decide)).trans (by simp [upd_some])
      have he1 : e 1 = .int .i64 d := (hf 1 (by decide)).trans (by simp [upd_some])
      clear hf
      have i3 : i = 0 ∨ i = 1 ∨ i = 2 := by omega
      rcases i3 with rfl | rfl | rfl
      · have hlt : ((0 : Nat) : Int) < 2 := by omega
        have hwi : IntKind.i64.wrap (((0 : Nat) : Int) + 1) = ((1 : Nat) : Int) := by rw [wrap_i64 (by omega) (by omega)]; omega
        simp only [k57_a, WK, vop, evAll, evOpt, evParts, vbuiltin, vun, vextract, Nat.reduceLT, Nat.reduceEqDiff, ↓reduceIte, reduceCtorEq, Nat.reduceAdd, Int.reduceLT, Int.reduceNeg, valloc_std, noSB, vhot, h0, he1, h47, h48, h49, hlt, str2_addr0, str2_load0, vlen_str T9, w1, T9, str_hi (show s.length - 1 ≤ s.length by omega), hdl]
        refine KD.ret (cut_does s.dropLast mI σ') ?_
        cases hp2 : isPre mI s.dropLast with
        | true =>
          have hcut : cutS s.dropLast mI = mid 5 s := by unfold cutS; rw [if_pos hp2]; rfl
          by_cases hcc : c = 125
          · have hb : decide ((c.toNat : Int) = 125) = true := by rw [c125]; exact decide_eq_true hcc
            have hcc' : (c = 125) = True := eq_true hcc
            simp only [k57_a, WK, vop, evAll, evOpt, evParts, vbuiltin, vun, vextract, Nat.reduceLT, Nat.reduceEqDiff, ↓reduceIte, reduceCtorEq, Nat.reduceAdd, Int.reduceLT, Int.reduceNeg, valloc_std, noSB, vhot, h0, he1, h49, vlen_str T9, w1, w2, str_at hc, hb, hcc', hcut, eq_self, if_true]
            refine KD.ret (ih (by omega) (mid 5 s) σ' (ln 5)) ?_
            simp only [k57_a, WK, vop, evAll, evOpt, evParts, vbuiltin, vun, vextract, Nat.reduceLT, Nat.reduceEqDiff, ↓reduceIte, reduceCtorEq, Nat.reduceAdd, Int.reduceLT, Int.reduceNeg, valloc_std, noSB, vhot, Option.isSome_map]
          · have hb : decide ((c.toNat : Int) = 125) = false := by rw [c125]; exact decide_eq_false hcc
            have hcc' : (c = 125) = False := eq_false hcc
            simp only [k57_a, WK, vop, evAll, evOpt, evParts, vbuiltin, vun, vextract, Nat.reduceLT, Nat.reduceEqDiff, ↓reduceIte, reduceCtorEq, Nat.reduceAdd, Int.reduceLT, Int.reduceNeg, valloc_std, noSB, vhot, h0, he1, h49, vlen_str T9, w1, w2, str_at hc, hb, hcc', hcut, if_true, if_false, Option.isSome_none]
        | false =>
          simp only [k57_a, WK, vop, evAll, evOpt, evParts, vbuiltin, vun, vextract, Nat.reduceLT, Nat.reduceEqDiff, ↓reduceIte, reduceCtorEq, Nat.reduceAdd, Int.reduceLT, Int.reduceNeg, valloc_std, noSB, vhot, h49, hwi]
          exact ⟨1, ⟨by simp [upd_some], by omega, fun _ => by first | exact hp2 | exact trivial, fun h => by omega⟩, by omega⟩
      · have hlt : ((1 : Nat) : Int) < 2 := by omega
        have hwi : IntKind.i64.wrap (((1 : Nat) : Int) + 1) = ((2 : Nat) : Int) := by rw [wrap_i64 (by omega) (by omega)]; omega
        have hp1 := hm1 (by omega)
        simp only [k57_a, WK, vop, evAll, evOpt, evParts, vbuiltin, vun, vextract, Nat.reduceLT, Nat.reduceEqDiff, ↓reduceIte, reduceCtorEq, Nat.reduceAdd, Int.reduceLT, Int.reduceNeg, valloc_std, noSB, vhot, h0, he1, h47, h48, h49, hlt, str2_addr1, str2_load1, vlen_str T9, w1, T9, str_hi (show s.length - 1 ≤ s.length by omega), hdl]
        refine KD.ret (cut_does s.dropLast mT σ') ?_
        simp only [hp1, Bool.false_eq_true, if_false]
        cases hp2 : isPre mT s.dropLast with
        | true =>
          have hcut : cutS s.dropLast mT = mid 6 s := by unfold cutS; rw [if_pos hp2]; rfl
          by_cases hcc : c = 125
          · have hb : decide ((c.toNat : Int) = 125) = true := by rw [c125]; exact decide_eq_true hcc
            have hcc' : (c = 125) = True := eq_true hcc
            simp only [k57_a, WK, vop, evAll, evOpt, evParts, vbuiltin, vun, vextract, Nat.reduceLT, Nat.reduceEqDiff, ↓reduceIte, reduceCtorEq, Nat.reduceAdd, Int.reduceLT, Int.reduceNeg, valloc_std, noSB, vhot, h0, he1, h49, vlen_str T9, w1, w2, str_at hc, hb, hcc', hcut, eq_self, if_true]
            refine KD.ret (ih (by omega) (mid 6 s) σ' (ln 6)) ?_
            simp only [k57_a, WK, vop, evAll, evOpt, evParts, vbuiltin, vun, vextract, Nat.reduceLT, Nat.reduceEqDiff, ↓reduceIte, reduceCtorEq, Nat.reduceAdd, Int.reduceLT, Int.reduceNeg, valloc_std, noSB, vhot, Option.isSome_map]
          · have hb : decide ((c.toNat : Int) = 125) = false := by rw [c125]; exact decide_eq_false hcc
            have hcc' : (c = 125) = False := eq_false hcc
            simp only [k57_a, WK, vop, evAll, evOpt, evParts, vbuiltin, vun, vextract, Nat.reduceLT, Nat.reduceEqDiff, ↓reduceIte, reduceCtorEq, Nat.reduceAdd, Int.reduceLT, Int.reduceNeg, valloc_std, noSB, vhot, h0, he1, h49, vlen_str T9, w1, w2, str_at hc, hb, hcc', hcut, if_true, if_false, Option.isSome_none]
        | false =>
          simp only [k57_a, WK, vop, evAll, evOpt, evParts, vbuiltin, vun, vextract, Nat.reduceLT, Nat.reduceEqDiff, ↓reduceIte, reduceCtorEq, Nat.reduceAdd, Int.reduceLT, Int.reduceNeg, valloc_std, noSB, vhot, h49, hwi]
          exact ⟨2, ⟨by simp [upd_some], by omega, fun _ => by first | exact hp1 | exact trivial, fun _ => by first | exact hp2 | exact trivial⟩, by omega⟩
      · have hlt : ¬ ((2 : Nat) : Int) < 2 := by omega
        have hp1 := hm1 (by omega)
        have hp2 := hm2 (by omega)
        simp only [k57_a, WK, vop, evAll, evOpt, evParts, vbuiltin, vun, vextract, Nat.reduceLT, Nat.reduceEqDiff, ↓reduceIte, reduceCtorEq, Nat.reduceAdd, Int.reduceLT, Int.reduceNeg, valloc_std, noSB, vhot, h47, h48, h49, hlt, hp1, hp2, Bool.false_eq_true, if_false, Option.isSome_none]

/-- The type that a text is. -/
def tyS (s : List UInt8) : Option Ty := tyOf 4 s
theorem type_does (s : List UInt8) (hl : s.length ≤ 4294967296) (σ : St) : Does Try.prog prims 39 [.str s] σ (.ret (.bool (tyS s).isSome)) σ := by
  apply k39_is.ret (by simp)
  simp only [k39_a, WK, vop, evAll, evOpt, evParts, vbuiltin, vun, vextract, Nat.reduceLT, Nat.reduceEqDiff, ↓reduceIte, reduceCtorEq, Nat.reduceAdd, Int.reduceLT, Int.reduceNeg, valloc_std, noSB, vhot, List.getD_cons_zero, List.getD_cons_succ]
  refine KD.ret (kind_does 3 (by omega) s σ hl) ?_
  simp only [k39_a, WK, vop, evAll, evOpt, evParts, vbuiltin, vun, vextract, Nat.reduceLT, Nat.reduceEqDiff, ↓reduceIte, reduceCtorEq, Nat.reduceAdd, Int.reduceLT, Int.reduceNeg, valloc_std, noSB, vhot]
  rfl
end Go.Proofs.Ytplhelapcpcncaa.Q

set_option linter.unusedVariables false
set_option linter.unusedSimpArgs false
namespace Go.Proofs.Ytplhelapcpcncaa.Q
open Go Go.RowKit Go.Proofs

def is1 (s : List UInt8) : Bool := decide (2 < s.length) && (decide (s[0]? = some 91) && decide (s.getLast? = some 93))
def isM (k : Nat) (m s : List UInt8) : Bool := decide (k < s.length) && (decide (s.take m.length = m) && decide (s.getLast? = some 125))
def innerS (s : List UInt8) : Option (List UInt8) := if is1 s then some (mid 1 s) else if isM 6 mI s then some (mid 5 s) else if isM 7 mT s then some (mid 6 s) else none
def depF : Nat → List UInt8 → Nat
  | 0, _ => 0
  | n + 1, s => if s = intB ∨ s = boolB ∨ s = textB then 1 else match innerS s with
    | none => 0
    | some t => if 200 < s.length then 0 else if depF n t = 0 then 0 else depF n t + 1

theorem last_of {s : List UInt8} (h : 0 < s.length) : ∃ c, s[s.length - 1]? = some c ∧ s.getLast? = some c := by
  refine ⟨_, List.getElem?_eq_getElem (by omega), ?_⟩
  rw [List.getLast?_eq_getElem?]
  exact List.getElem?_eq_getElem (by omega)
theorem wrap_len {s : List UInt8} (h : 0 < s.length) (hl : s.length ≤ 4294967296) : IntKind.i64.wrap ((s.length : Int) - 1) = ((s.length - 1 : Nat) : Int) := by rw [wrap_i64 (by omega) (by omega)]; omega
theorem some_u8 (c d : UInt8) : decide (some c = some d) = decide ((c.toNat : Int) = (d.toNat : Int)) := by rw [u8_eq, decide_eq_decide, Option.some.injEq]

theorem depth_r4 {s : List UInt8} (hl : s.length ≤ 4294967296) {e : Nat → V} {σ : St} (h0 : e 0 = .str s) : Ev Try.prog prims 87 (.region k63_r4) e σ (fun x e' σ' => x = .normal ∧ σ' = σ ∧ e' 30 = .bool (is1 s)) := by
  unfold is1
  by_cases h2 : (2 : Int) < s.length
  · have h2' : 2 < s.length := by omega
    obtain ⟨c, hc, hg⟩ := last_of (s := s) (by omega)
    obtain ⟨a, ha⟩ : ∃ a, s[0]? = some a := ⟨_, List.getElem?_eq_getElem (by omega)⟩
    have w1 := wrap_len (s := s) (by omega) hl
    have e91 : (91 : Int) = ((91 : UInt8).toNat : Int) := rfl
    have e93 : (93 : Int) = ((93 : UInt8).toNat : Int) := rfl
    have i0 : vindex Try.prog 9 (.str s) (.int .i64 0) = some (.int .u8 (a.toNat : Int)) := str_at (n := 0) ha
    rw [ha, hg, some_u8, some_u8, ← e91, ← e93]
    cases h3 : decide ((a.toNat : Int) = 91) with
    | true => simp only [k63_r4_e, WK, vop, evAll, evOpt, evParts, vbuiltin, vun, vextract, Nat.reduceLT, Nat.reduceEqDiff, ↓reduceIte, reduceCtorEq, Nat.reduceAdd, Int.reduceLT, Int.reduceNeg, valloc_std, noSB, vhot, h0, h2, h2', vlen_str T9, i0, h3, w1, str_at hc, Bool.true_and]
    | false => simp only [k63_r4_e, WK, vop, evAll, evOpt, evParts, vbuiltin, vun, vextract, Nat.reduceLT, Nat.reduceEqDiff, ↓reduceIte, reduceCtorEq, Nat.reduceAdd, Int.reduceLT, Int.reduceNeg, valloc_std, noSB, vhot, h0, h2, h2', vlen_str T9, i0, h3, Bool.true_and, Bool.false_and]
  · have h2' : ¬ 2 < s.length := by omega
    simp only [k63_r4_e, WK, vop, evAll, evOpt, evParts, vbuiltin, vun, vextract, Nat.reduceLT, Nat.reduceEqDiff, ↓reduceIte, reduceCtorEq, Nat.reduceAdd, Int.reduceLT, Int.reduceNeg, valloc_std, noSB, vhot, h0, h2, h2', vlen_str T9, Bool.false_and]

theorem depth_r6 {s : List UInt8} (hl : s.length ≤ 4294967296) {e : Nat → V} {σ : St} (h0 : e 0 = .str s) : Ev Try.prog prims 87 (.region k63_r6) e σ (fun x e' σ' => x = .normal ∧ σ' = σ ∧ e' 51 = .bool (isM 6 mI s)) := by
  unfold isM
  by_cases h2 : (6 : Int) < s.length
  · have h2' : 6 < s.length := by omega
    obtain ⟨c, hc, hg⟩ := last_of (s := s) (by omega)
    have w1 := wrap_len (s := s) (by omega) hl
    have e125 : (125 : Int) = ((125 : UInt8).toNat : Int) := rfl
    have i5 : vslice Try.prog 9 (.str s) none (some (.int .i64 5)) none = some (.str (s.take 5)) := str_hi (n := 5) (by omega)
    rw [hg, some_u8, ← e125]
    cases h3 : decide (s.take mI.length = mI) with
    | true =>
      have h3' : decide (s.take 5 = [123, 105, 110, 116, 58]) = true := h3
      simp only [k63_r6_e, WK, vop, evAll, evOpt, evParts, vbuiltin, vun, vextract, Nat.reduceLT, Nat.reduceEqDiff, ↓reduceIte, reduceCtorEq, Nat.reduceAdd, Int.reduceLT, Int.reduceNeg, valloc_std, noSB, vhot, h0, h2, h2', vlen_str T9, T9, i5, ofVal_str, strBin, h3', w1, str_at hc, Bool.true_and]
    | false =>
      have h3' : decide (s.take 5 = [123, 105, 110, 116, 58]) = false := h3
      simp only [k63_r6_e, WK, vop, evAll, evOpt, evParts, vbuiltin, vun, vextract, Nat.reduceLT, Nat.reduceEqDiff, ↓reduceIte, reduceCtorEq, Nat.reduceAdd, Int.reduceLT, Int.reduceNeg, valloc_std, noSB, vhot, h0, h2, h2', vlen_str T9, T9, i5, ofVal_str, strBin, h3', Bool.true_and, Bool.false_and]
  · have h2' : ¬ 6 < s.length := by omega
    simp only [k63_r6_e, WK, vop, evAll, evOpt, evParts, vbuiltin, vun, vextract, Nat.reduceLT, Nat.reduceEqDiff, ↓reduceIte, reduceCtorEq, Nat.reduceAdd, Int.reduceLT, Int.reduceNeg, valloc_std, noSB, vhot, h0, h2, h2', vlen_str T9, Bool.false_and]

theorem depth_r8 {s : List UInt8} (hl : s.length ≤ 4294967296) {e : Nat → V} {σ : St} (h0 : e 0 = .str s) : Ev Try.prog prims 87 (.region k63_r8) e σ (fun x e' σ' => x = .normal ∧ σ' = σ ∧ e' 72 = .bool (isM 7 mT s)) := by
  unfold isM
  by_cases h2 : (7 : Int) < s.length
  · have h2' : 7 < s.length := by omega
    obtain ⟨c, hc, hg⟩ := last_of (s := s) (by omega)
    have w1 := wrap_len (s := s) (by omega) hl
    have e125 : (125 : Int) = ((125 : UInt8).toNat : Int) := rfl
    have i5 : vslice Try.prog 9 (.str s) none (some (.int .i64 6)) none = some (.str (s.take 6)) := str_hi (n := 6) (by omega)
    rw [hg, some_u8, ← e125]
    cases h3 : decide (s.take mT.length = mT) with
    | true =>
      have h3' : decide (s.take 6 = [123, 116, 101, 120, 116, 58]) = true := h3
      simp only [k63_r8_e, WK, vop, evAll, evOpt, evParts, vbuiltin, vun, vextract, Nat.reduceLT, Nat.reduceEqDiff, ↓reduceIte, reduceCtorEq, Nat.reduceAdd, Int.reduceLT, Int.reduceNeg, valloc_std, noSB, vhot, h0, h2, h2', vlen_str T9, T9, i5, ofVal_str, strBin, h3', w1, str_at hc, Bool.true_and]
    | false =>
      have h3' : decide (s.take 6 = [123, 116, 101, 120, 116, 58]) = false := h3
      simp only [k63_r8_e, WK, vop, evAll, evOpt, evParts, vbuiltin, vun, vextract, Nat.reduceLT, Nat.reduceEqDiff, ↓reduceIte, reduceCtorEq, Nat.reduceAdd, Int.reduceLT, Int.reduceNeg, valloc_std, noSB, vhot, h0, h2, h2', vlen_str T9, T9, i5, ofVal_str, strBin, h3', Bool.true_and, Bool.false_and]
  · have h2' : ¬ 7 < s.length := by omega
    simp only [k63_r8_e, WK, vop, evAll, evOpt, evParts, vbuiltin, vun, vextract, Nat.reduceLT, Nat.reduceEqDiff, ↓reduceIte, reduceCtorEq, Nat.reduceAdd, Int.reduceLT, Int.reduceNeg, valloc_std, noSB, vhot, h0, h2, h2', vlen_str T9, Bool.false_and]

theorem mid_len {s : List UInt8} {k : Nat} (h : 0 < s.length) : (mid k s).length < s.length := by
  unfold mid; rw [List.length_drop, List.length_dropLast]; omega
theorem mid_slice {s : List UInt8} {k : Nat} (h : k ≤ s.length - 1) : vslice Try.prog 9 (.str s) (some (.int .i64 (k : Int))) (some (.int .i64 ((s.length - 1 : Nat) : Int))) none = some (.str (mid k s)) := by
  rw [str_lohi h (by omega)]
  unfold mid
  rw [List.dropLast_eq_take]
theorem depF_le : ∀ (n : Nat) (s : List UInt8), depF n s ≤ s.length + 1
  | 0, s => by simp [depF]
  | n + 1, s => by
    rw [depF]
    split
    · omega
    · split
      · omega
      · rename_i t ht
        have hlt : t.length < s.length := by
          unfold innerS at ht
          split at ht
          · rename_i h; injection ht with ht; subst ht
            simp only [is1, Bool.and_eq_true, decide_eq_true_eq] at h
            exact mid_len (by omega)
          split at ht
          · rename_i h; injection ht with ht; subst ht
            simp only [isM, Bool.and_eq_true, decide_eq_true_eq] at h
            exact mid_len (by omega)
          split at ht
          · rename_i h; injection ht with ht; subst ht
            simp only [isM, Bool.and_eq_true, decide_eq_true_eq] at h
            exact mid_len (by omega)
          · cases ht
        have := depF_le n t
        split
        · omega
        · split <;> omega

set_option maxRecDepth 100000 in
theorem depth_does : ∀ (n : Nat) (s : List UInt8) (σ : St), s.length < n → s.length ≤ 4294967296 → Does Try.prog prims 63 [.str s] σ (.ret (.int .i64 (depF n s : Nat))) σ := by
  intro n
  induction n with
  | zero => intro s σ h; omega
  | succ n ih =>
    intro s σ hn hl
    apply k63_is.ret (by simp)
    rw [depF]
    by_cases h1 : s = [105, 110, 116]
    · rw [if_pos (.inl h1)]
      have b1 : decide (s = [105, 110, 116]) = true := decide_eq_true h1
      simp only [k63_e, k63_r0_e, k63_r1_e, k63_r2_e, k63_r3_e, k63_r5_e, k63_r7_e, k63_r9_e, k63_r10_e, k63_r11_e, k63_r12_e, k63_r13_e, k63_r14_e, k63_r15_e, k63_r16_e, WK, vop, evAll, evOpt, evParts, vbuiltin, vun, vextract, Nat.reduceLT, Nat.reduceEqDiff, ↓reduceIte, reduceCtorEq, Nat.reduceAdd, Int.reduceLT, Int.reduceNeg, valloc_std, noSB, vhot, List.getD_cons_zero, ofVal_str, strBin, b1]
      rfl
    have b1 : decide (s = [105, 110, 116]) = false := decide_eq_false h1
    by_cases h2 : s = [98, 111, 111, 108]
    · rw [if_pos (.inr (.inl h2))]
      have b2 : decide (s = [98, 111, 111, 108]) = true := decide_eq_true h2
      simp only [k63_e, k63_r0_e, k63_r1_e, k63_r2_e, k63_r3_e, k63_r5_e, k63_r7_e, k63_r9_e, k63_r10_e, k63_r11_e, k63_r12_e, k63_r13_e, k63_r14_e, k63_r15_e, k63_r16_e, WK, vop, evAll, evOpt, evParts, vbuiltin, vun, vextract, Nat.reduceLT, Nat.reduceEqDiff, ↓reduceIte, reduceCtorEq, Nat.reduceAdd, Int.reduceLT, Int.reduceNeg, valloc_std, noSB, vhot, List.getD_cons_zero, ofVal_str, strBin, b1, b2]
      rfl
    have b2 : decide (s = [98, 111, 111, 108]) = false := decide_eq_false h2
    by_cases h3 : s = [116, 101, 120, 116]
    · rw [if_pos (.inr (.inr h3))]
      have b3 : decide (s = [116, 101, 120, 116]) = true := decide_eq_true h3
      simp only [k63_e, k63_r0_e, k63_r1_e, k63_r2_e, k63_r3_e, k63_r5_e, k63_r7_e, k63_r9_e, k63_r10_e, k63_r11_e, k63_r12_e, k63_r13_e, k63_r14_e, k63_r15_e, k63_r16_e, WK, vop, evAll, evOpt, evParts, vbuiltin, vun, vextract, Nat.reduceLT, Nat.reduceEqDiff, ↓reduceIte, reduceCtorEq, Nat.reduceAdd, Int.reduceLT, Int.reduceNeg, valloc_std, noSB, vhot, List.getD_cons_zero, ofVal_str, strBin, b1, b2, b3]
      rfl
    have b3 : decide (s = [116, 101, 120, 116]) = false := decide_eq_false h3
    rw [if_neg (by rintro (h | h | h); exact h1 h; exact h2 h; exact h3 h)]
    simp only [k63_e, k63_r0_e, k63_r1_e, k63_r2_e, k63_r3_e, k63_r5_e, k63_r7_e, k63_r9_e, k63_r10_e, k63_r11_e, k63_r12_e, k63_r13_e, k63_r14_e, k63_r15_e, k63_r16_e, WK, vop, evAll, evOpt, evParts, vbuiltin, vun, vextract, Nat.reduceLT, Nat.reduceEqDiff, ↓reduceIte, reduceCtorEq, Nat.reduceAdd, Int.reduceLT, Int.reduceNeg, valloc_std, noSB, vhot, List.getD_cons_zero, ofVal_str, strBin, b1, b2, b3]
    rw [← Ev_region]
    refine Ev.cut (depth_r4 (s := s) hl (by simp [upd_some])) ?_
    rintro x e σ' ⟨rfl, rfl, h30⟩ hw
    have g0 : e 0 = .str s := (hw 0 (by decide)).trans (by simp [upd_some])
    clear hw
    have rest : ∀ (k : Nat) (e : Nat → V), e 0 = .str s → k < s.length → ∀ (Q : VX → (Nat → V) → St → Prop), (∀ e', e' 2 = .int .i64 ((if 200 < s.length then 0 else if depF n (mid k s) = 0 then 0 else depF n (mid k s) + 1 : Nat) : Int) → Q .ret e' σ') → e 3 = .str (mid k s) → Ev Try.prog prims 87 (.seq (.seq (.region k63_r11) (.cond (.tmp 80) (.seq (.region k63_r12) .ret) .skip)) (.seq (.region k63_r13) (.seq (.seq (.region k63_r14) (.cond (.tmp 84) (.seq (.region k63_r15) .ret) .skip)) (.seq (.region k63_r16) .ret)))) e σ' Q := by
      intro k e g0 hk Q hQ g3
      have hml := mid_len (s := s) (k := k) (by omega)
      by_cases h200 : (200 : Int) < s.length
      · simp only [k63_e, k63_r0_e, k63_r1_e, k63_r2_e, k63_r3_e, k63_r5_e, k63_r7_e, k63_r9_e, k63_r10_e, k63_r11_e, k63_r12_e, k63_r13_e, k63_r14_e, k63_r15_e, k63_r16_e, WK, vop, evAll, evOpt, evParts, vbuiltin, vun, vextract, Nat.reduceLT, Nat.reduceEqDiff, ↓reduceIte, reduceCtorEq, Nat.reduceAdd, Int.reduceLT, Int.reduceNeg, valloc_std, noSB, vhot, g0, g3, vlen_str T9, h200]
        refine hQ _ ?_
        rw [if_pos (by omega)]
        simp [upd_some]
      · simp only [k63_e, k63_r0_e, k63_r1_e, k63_r2_e, k63_r3_e, k63_r5_e, k63_r7_e, k63_r9_e, k63_r10_e, k63_r11_e, k63_r12_e, k63_r13_e, k63_r14_e, k63_r15_e, k63_r16_e, WK, vop, evAll, evOpt, evParts, vbuiltin, vun, vextract, Nat.reduceLT, Nat.reduceEqDiff, ↓reduceIte, reduceCtorEq, Nat.reduceAdd, Int.reduceLT, Int.reduceNeg, valloc_std, noSB, vhot, g0, g3, vlen_str T9, h200]
        refine KD.ret (ih (mid k s) σ' (by omega) (by omega)) ?_
        rw [if_neg (by omega)] at hQ
        have hle := depF_le n (mid k s)
        by_cases hz : depF n (mid k s) = 0
        · have hz' : ((depF n (mid k s) : Nat) : Int) = 0 := by omega
          rw [if_pos hz] at hQ
          simp only [k63_e, k63_r0_e, k63_r1_e, k63_r2_e, k63_r3_e, k63_r5_e, k63_r7_e, k63_r9_e, k63_r10_e, k63_r11_e, k63_r12_e, k63_r13_e, k63_r14_e, k63_r15_e, k63_r16_e, WK, vop, evAll, evOpt, evParts, vbuiltin, vun, vextract, Nat.reduceLT, Nat.reduceEqDiff, ↓reduceIte, reduceCtorEq, Nat.reduceAdd, Int.reduceLT, Int.reduceNeg, valloc_std, noSB, vhot, hz']
          exact hQ _ (by simp [upd_some])
        · have hz' : ¬ ((depF n (mid k s) : Nat) : Int) = 0 := by omega
          rw [if_neg hz] at hQ
          have w2 : IntKind.i64.wrap ((depF n (mid k s) : Nat) + 1 : Int) = ((depF n (mid k s) + 1 : Nat) : Int) := by rw [wrap_i64 (by omega) (by omega)]; omega
          simp only [k63_e, k63_r0_e, k63_r1_e, k63_r2_e, k63_r3_e, k63_r5_e, k63_r7_e, k63_r9_e, k63_r10_e, k63_r11_e, k63_r12_e, k63_r13_e, k63_r14_e, k63_r15_e, k63_r16_e, WK, vop, evAll, evOpt, evParts, vbuiltin, vun, vextract, Nat.reduceLT, Nat.reduceEqDiff, ↓reduceIte, reduceCtorEq, Nat.reduceAdd, Int.reduceLT, Int.reduceNeg, valloc_std, noSB, vhot, hz', w2]
          exact hQ _ (by simp [upd_some])
    simp only [WK, vop, evAll, evOpt, evParts, vbuiltin, vun, vextract, Nat.reduceLT, Nat.reduceEqDiff, ↓reduceIte, reduceCtorEq, Nat.reduceAdd, Int.reduceLT, Int.reduceNeg, valloc_std, noSB, vhot] at rest
    unfold innerS
    cases hi1 : is1 s with
    | true =>
      have hlen : 2 < s.length := by simp only [is1, Bool.and_eq_true, decide_eq_true_eq] at hi1; exact hi1.1
      have w1 := wrap_len (s := s) (by omega) hl
      have ms : vslice Try.prog 9 (.str s) (some (.int .i64 1)) (some (.int .i64 ((s.length - 1 : Nat) : Int))) none = some (.str (mid 1 s)) := mid_slice (k := 1) (by omega)
      rw [hi1] at h30
      simp only [k63_r5_e, WK, vop, evAll, evOpt, evParts, vbuiltin, vun, vextract, Nat.reduceLT, Nat.reduceEqDiff, ↓reduceIte, reduceCtorEq, Nat.reduceAdd, Int.reduceLT, Int.reduceNeg, valloc_std, noSB, vhot, h30, g0, vlen_str T9, T9, w1, ms, if_true]
      refine rest 1 _ (by simp [upd_some, g0]) (by omega) _ ?_ (by simp [upd_some])
      intro e' g2
      simp only [WK, vop, evAll, evOpt, evParts, vbuiltin, vun, vextract, Nat.reduceLT, Nat.reduceEqDiff, ↓reduceIte, reduceCtorEq, Nat.reduceAdd, Int.reduceLT, Int.reduceNeg, valloc_std, noSB, vhot, g2]
    | false =>
      rw [hi1] at h30
      simp only [WK, vop, evAll, evOpt, evParts, vbuiltin, vun, vextract, Nat.reduceLT, Nat.reduceEqDiff, ↓reduceIte, reduceCtorEq, Nat.reduceAdd, Int.reduceLT, Int.reduceNeg, valloc_std, noSB, vhot, h30, Bool.false_eq_true, if_false]
      rw [← Ev_region]
      refine Ev.cut (depth_r6 hl g0) ?_
      rintro x e2 σ2 ⟨rfl, rfl, h51⟩ hw
      have f0 : e2 0 = .str s := (hw 0 (by decide)).trans g0
      clear hw
      cases hi2 : isM 6 mI s with
      | true =>
        have hlen : 6 < s.length := by simp only [isM, Bool.and_eq_true, decide_eq_true_eq] at hi2; exact hi2.1
        have w1 := wrap_len (s := s) (by omega) hl
        have ms : vslice Try.prog 9 (.str s) (some (.int .i64 5)) (some (.int .i64 ((s.length - 1 : Nat) : Int))) none = some (.str (mid 5 s)) := mid_slice (k := 5) (by omega)
        rw [hi2] at h51
        simp only [k63_r7_e, WK, vop, evAll, evOpt, evParts, vbuiltin, vun, vextract, Nat.reduceLT, Nat.reduceEqDiff, ↓reduceIte, reduceCtorEq, Nat.reduceAdd, Int.reduceLT, Int.reduceNeg, valloc_std, noSB, vhot, h51, f0, vlen_str T9, T9, w1, ms, if_true]
        refine rest 5 _ (by simp [upd_some, f0]) (by omega) _ ?_ (by simp [upd_some])
        intro e' g2
        simp only [WK, vop, evAll, evOpt, evParts, vbuiltin, vun, vextract, Nat.reduceLT, Nat.reduceEqDiff, ↓reduceIte, reduceCtorEq, Nat.reduceAdd, Int.reduceLT, Int.reduceNeg, valloc_std, noSB, vhot, g2]
      | false =>
        rw [hi2] at h51
        simp only [WK, vop, evAll, evOpt, evParts, vbuiltin, vun, vextract, Nat.reduceLT, Nat.reduceEqDiff, ↓reduceIte, reduceCtorEq, Nat.reduceAdd, Int.reduceLT, Int.reduceNeg, valloc_std, noSB, vhot, h51, Bool.false_eq_true, if_false]
        rw [← Ev_region]
        refine Ev.cut (depth_r8 hl f0) ?_
        rintro x e3 σ3 ⟨rfl, rfl, h72⟩ hw
        have f3 : e3 0 = .str s := (hw 0 (by decide)).trans f0
        clear hw
        cases hi3 : isM 7 mT s with
        | true =>
          have hlen : 7 < s.length := by simp only [isM, Bool.and_eq_true, decide_eq_true_eq] at hi3; exact hi3.1
          have w1 := wrap_len (s := s) (by omega) hl
          have ms : vslice Try.prog 9 (.str s) (some (.int .i64 6)) (some (.int .i64 ((s.length - 1 : Nat) : Int))) none = some (.str (mid 6 s)) := mid_slice (k := 6) (by omega)
          rw [hi3] at h72
          simp only [k63_r9_e, WK, vop, evAll, evOpt, evParts, vbuiltin, vun, vextract, Nat.reduceLT, Nat.reduceEqDiff, ↓reduceIte, reduceCtorEq, Nat.reduceAdd, Int.reduceLT, Int.reduceNeg, valloc_std, noSB, vhot, h72, f3, vlen_str T9, T9, w1, ms, if_true]
          refine rest 6 _ (by simp [upd_some, f3]) (by omega) _ ?_ (by simp [upd_some])
          intro e' g2
          simp only [WK, vop, evAll, evOpt, evParts, vbuiltin, vun, vextract, Nat.reduceLT, Nat.reduceEqDiff, ↓reduceIte, reduceCtorEq, Nat.reduceAdd, Int.reduceLT, Int.reduceNeg, valloc_std, noSB, vhot, g2]
        | false =>
          rw [hi3] at h72
          simp only [k63_r10_e, WK, vop, evAll, evOpt, evParts, vbuiltin, vun, vextract, Nat.reduceLT, Nat.reduceEqDiff, ↓reduceIte, reduceCtorEq, Nat.reduceAdd, Int.reduceLT, Int.reduceNeg, valloc_std, noSB, vhot, h72, Bool.false_eq_true, if_false]
          rfl
end Go.Proofs.Ytplhelapcpcncaa.Q

set_option linter.unusedVariables false
set_option linter.unusedSimpArgs false
namespace Go.Proofs.Ytplhelapcpcncaa.Q
open Go Go.RowKit Go.Proofs

/-! ### The two ways to tell a type are one -/
theorem is1_split {s : List UInt8} (h : is1 s = true) : s = [91] ++ mid 1 s ++ [93] := by
  simp only [is1, Bool.and_eq_true, decide_eq_true_eq] at h
  obtain ⟨h1, h2, h3⟩ := h
  refine isPre_split (p := [91]) ?_ h3
  simp only [isPre, Bool.and_eq_true, decide_eq_true_eq, List.length_dropLast, List.length_singleton]
  refine ⟨by omega, ?_⟩
  cases s with
  | nil => simp at h1
  | cons a l =>
    simp at h2
    subst h2
    cases l with
    | nil => simp at h1
    | cons b l => simp
theorem isM_split {k : Nat} {m s : List UInt8} (h : isM k m s = true) (hk : m.length ≤ k) : s = m ++ mid m.length s ++ [125] := by
  simp only [isM, Bool.and_eq_true, decide_eq_true_eq] at h
  obtain ⟨h1, h2, h3⟩ := h
  refine isPre_split ?_ h3
  simp only [isPre, Bool.and_eq_true, decide_eq_true_eq, List.length_dropLast]
  refine ⟨by omega, ?_⟩
  rw [List.dropLast_eq_take, List.take_take, Nat.min_eq_left (by omega), h2]
theorem depF_some : ∀ (n : Nat) (s : List UInt8), depF n s ≠ 0 → ∃ T, s = tyB T ∧ tyD T = depF n s
  | 0, s, h => absurd rfl h
  | n + 1, s, h => by
    rw [depF] at h ⊢
    split at h
    · rename_i h1
      rw [if_pos h1]
      rcases h1 with rfl | rfl | rfl
      · exact ⟨.int, rfl, rfl⟩
      · exact ⟨.bool, rfl, rfl⟩
      · exact ⟨.text, rfl, rfl⟩
    · rename_i h1
      rw [if_neg h1]
      split at h
      · exact absurd rfl h
      · rename_i t ht
        split at h
        · exact absurd rfl h
        · rename_i h200
          split at h
          · exact absurd rfl h
          · rename_i hd
            obtain ⟨e, he, hed⟩ := depF_some n t hd
            rw [if_neg h200, if_neg hd]
            unfold innerS at ht
            split at ht
            · rename_i h2; injection ht with ht; subst ht
              have := is1_split h2
              rw [he] at this
              exact ⟨.list e, this, by rw [tyD, hed]⟩
            split at ht
            · rename_i h2; injection ht with ht; subst ht
              have := isM_split h2 (by decide)
              rw [show mid mI.length s = tyB e from he] at this
              exact ⟨.mapI e, this, by rw [tyD, hed]⟩
            split at ht
            · rename_i h2; injection ht with ht; subst ht
              have := isM_split h2 (by decide)
              rw [show mid mT.length s = tyB e from he] at this
              exact ⟨.mapT e, this, by rw [tyD, hed]⟩
            · cases ht
theorem mid_wrap (p t : List UInt8) (x : UInt8) : mid p.length (p ++ t ++ [x]) = t := by
  unfold mid
  rw [dropLast_snoc, List.drop_left]
theorem depF_tyB : ∀ (T : Ty) (n : Nat), (tyB T).length < n → (tyB T).length ≤ 200 → depF n (tyB T) = tyD T
  | T, 0, h, _ => by omega
  | .int, n + 1, h, _ => by rw [depF, if_pos (.inl rfl)]; rfl
  | .bool, n + 1, h, _ => by rw [depF, if_pos (.inr (.inl rfl))]; rfl
  | .text, n + 1, h, _ => by rw [depF, if_pos (.inr (.inr rfl))]; rfl
  | .list e, n + 1, h, h2 => by
    have hl := tyB_len e
    have hlen : (tyB (.list e)).length = (tyB e).length + 2 := by simp [tyB]
    have hb : ¬ (tyB (.list e) = intB ∨ tyB (.list e) = boolB ∨ tyB (.list e) = textB) := by simp [tyB, intB, boolB, textB]
    have hg : (tyB (.list e)).getLast? = some 93 := by rw [tyB, ← List.cons_append, List.getLast?_concat]
    have h1 : is1 (tyB (.list e)) = true := by
      simp only [is1, Bool.and_eq_true, decide_eq_true_eq]
      exact ⟨by omega, rfl, hg⟩
    have hm : mid 1 (tyB (.list e)) = tyB e := mid_wrap [91] (tyB e) 93
    have hi : innerS (tyB (.list e)) = some (tyB e) := by rw [innerS, if_pos h1, hm]
    have ih := depF_tyB e n (by omega) (by omega)
    have hp := tyD_pos e
    rw [depF, if_neg hb, hi]
    simp only
    rw [if_neg (by omega), ih, if_neg (by omega), tyD]
  | .mapI e, n + 1, h, h2 => by
    have hl := tyB_len e
    have hlen : (tyB (.mapI e)).length = (tyB e).length + 6 := by simp [tyB, mI]
    have hb : ¬ (tyB (.mapI e) = intB ∨ tyB (.mapI e) = boolB ∨ tyB (.mapI e) = textB) := by simp [tyB, mI, intB, boolB, textB]
    have hg : (tyB (.mapI e)).getLast? = some 125 := by rw [tyB, List.getLast?_concat]
    have h0 : is1 (tyB (.mapI e)) = false := by
      simp [is1, tyB, mI]
    have h1 : isM 6 mI (tyB (.mapI e)) = true := by
      simp only [isM, Bool.and_eq_true, decide_eq_true_eq]
      exact ⟨by omega, rfl, hg⟩
    have hm : mid 5 (tyB (.mapI e)) = tyB e := mid_wrap mI (tyB e) 125
    have hi : innerS (tyB (.mapI e)) = some (tyB e) := by rw [innerS, h0, if_neg (by decide), if_pos h1, hm]
    have ih := depF_tyB e n (by omega) (by omega)
    have hp := tyD_pos e
    rw [depF, if_neg hb, hi]
    simp only
    rw [if_neg (by omega), ih, if_neg (by omega), tyD]
  | .mapT e, n + 1, h, h2 => by
    have hl := tyB_len e
    have hlen : (tyB (.mapT e)).length = (tyB e).length + 7 := by simp [tyB, mT]
    have hb : ¬ (tyB (.mapT e) = intB ∨ tyB (.mapT e) = boolB ∨ tyB (.mapT e) = textB) := by simp [tyB, mT, intB, boolB, textB]
    have hg : (tyB (.mapT e)).getLast? = some 125 := by rw [tyB, List.getLast?_concat]
    have h0 : is1 (tyB (.mapT e)) = false := by
      simp [is1, tyB, mT]
    have h0' : isM 6 mI (tyB (.mapT e)) = false := by
      have : ¬ (tyB (.mapT e)).take mI.length = mI := by simp [tyB, mT, mI]
      simp [isM, this]
    have h1 : isM 7 mT (tyB (.mapT e)) = true := by
      simp only [isM, Bool.and_eq_true, decide_eq_true_eq]
      exact ⟨by omega, rfl, hg⟩
    have hm : mid 6 (tyB (.mapT e)) = tyB e := mid_wrap mT (tyB e) 125
    have hi : innerS (tyB (.mapT e)) = some (tyB e) := by rw [innerS, h0, if_neg (by decide), h0', if_neg (by decide), if_pos h1, hm]
    have ih := depF_tyB e n (by omega) (by omega)
    have hp := tyD_pos e
    rw [depF, if_neg hb, hi]
    simp only
    rw [if_neg (by omega), ih, if_neg (by omega), tyD]
theorem tyS_iff {s : List UInt8} {T : Ty} : tyS s = some T ↔ s = tyB T ∧ tyD T ≤ 4 := tyOf_iff
theorem dep_type (n : Nat) (s : List UInt8) (hn : s.length < n) : (decide (1 ≤ depF n s) && decide (depF n s ≤ 4)) = (tyS s).isSome := by
  by_cases h : (tyS s).isSome = true
  · obtain ⟨T, hT⟩ := Option.isSome_iff_exists.1 h
    obtain ⟨rfl, h4⟩ := tyS_iff.1 hT
    have := tyB_len T
    have hp := tyD_pos T
    rw [h, depF_tyB T n hn (by omega)]
    simp; omega
  · rw [Bool.not_eq_true] at h
    rw [h]
    by_cases h0 : depF n s = 0
    · rw [h0]; rfl
    · obtain ⟨T, rfl, hd⟩ := depF_some n s h0
      have : ¬ depF n (tyB T) ≤ 4 := by
        intro h4
        rw [tyS_iff.2 ⟨rfl, by omega⟩] at h
        cases h
      simp [this]

theorem reftype_does (s : List UInt8) (hl : s.length ≤ 4294967296) (σ : St) : Does Try.prog prims 42 [.str s] σ (.ret (.bool (tyS s).isSome)) σ := by
  apply k42_is.ret (by simp)
  simp only [k42_a, WK, vop, evAll, evOpt, evParts, vbuiltin, vun, vextract, Nat.reduceLT, Nat.reduceEqDiff, ↓reduceIte, reduceCtorEq, Nat.reduceAdd, Int.reduceLT, Int.reduceNeg, valloc_std, noSB, vhot, List.getD_cons_zero, List.getD_cons_succ]
  refine KD.ret (depth_does (s.length + 1) s σ (by omega) hl) ?_
  have h := dep_type (s.length + 1) s (by omega)
  by_cases h1 : (1 : Int) ≤ (depF (s.length + 1) s : Nat)
  · by_cases h2 : ((depF (s.length + 1) s : Nat) : Int) ≤ 4
    · have : (tyS s).isSome = true := by rw [← h]; simp; omega
      simp only [k42_a, WK, vop, evAll, evOpt, evParts, vbuiltin, vun, vextract, Nat.reduceLT, Nat.reduceEqDiff, ↓reduceIte, reduceCtorEq, Nat.reduceAdd, Int.reduceLT, Int.reduceNeg, valloc_std, noSB, vhot, h1, h2, this]
    · have : (tyS s).isSome = false := by rw [← h]; simp; omega
      simp only [k42_a, WK, vop, evAll, evOpt, evParts, vbuiltin, vun, vextract, Nat.reduceLT, Nat.reduceEqDiff, ↓reduceIte, reduceCtorEq, Nat.reduceAdd, Int.reduceLT, Int.reduceNeg, valloc_std, noSB, vhot, h1, h2, this]
  · have : (tyS s).isSome = false := by rw [← h]; simp; omega
    simp only [k42_a, WK, vop, evAll, evOpt, evParts, vbuiltin, vun, vextract, Nat.reduceLT, Nat.reduceEqDiff, ↓reduceIte, reduceCtorEq, Nat.reduceAdd, Int.reduceLT, Int.reduceNeg, valloc_std, noSB, vhot, h1, this]

/-! ### What a type is made of -/
def listS (s : List UInt8) : List UInt8 := match tyS s with
  | some (.list e) => tyB e
  | _ => []
def isListS (s : List UInt8) : Bool := match tyS s with
  | some (.list e) => true
  | _ => false
def keyS (s : List UInt8) : List UInt8 := match tyS s with
  | some (.mapI e) => intB
  | some (.mapT e) => textB
  | _ => []
def valS (s : List UInt8) : List UInt8 := match tyS s with
  | some (.mapI e) => tyB e
  | some (.mapT e) => tyB e
  | _ => []
def isMapS (s : List UInt8) : Bool := match tyS s with
  | some (.mapI e) => true
  | some (.mapT e) => true
  | _ => false
def tyK : Ty → Int
  | .int => 1 | .bool => 2 | .text => 3 | .list _ => 4 | .mapI _ => 5 | .mapT _ => 5
def kindS (s : List UInt8) : Int := match tyS s with
  | some T => tyK T
  | none => 0

theorem tyB_first (T : Ty) : ∃ c, (tyB T)[0]? = some c ∧ ((c = 91) ↔ ∃ e, T = .list e) ∧ ((c = 123) ↔ (∃ e, T = .mapI e) ∨ ∃ e, T = .mapT e) := by
  cases T with
  | int => exact ⟨_, rfl, by simp, by simp⟩
  | bool => exact ⟨_, rfl, by simp, by simp⟩
  | text => exact ⟨_, rfl, by simp, by simp⟩
  | list e => exact ⟨_, rfl, by simp, by simp⟩
  | mapI e => exact ⟨_, rfl, by simp, by simp⟩
  | mapT e => exact ⟨_, rfl, by simp, by simp⟩

theorem vlist_does (s : List UInt8) (hl : s.length ≤ 4294967296) (σ : St) : Does Try.prog prims 58 [.str s] σ (.ret (.tuple [.str (listS s), .bool (isListS s)])) σ := by
  apply k58_is.ret (by simp)
  unfold listS isListS
  simp only [k58_a, WK, vop, evAll, evOpt, evParts, vbuiltin, vun, vextract, Nat.reduceLT, Nat.reduceEqDiff, ↓reduceIte, reduceCtorEq, Nat.reduceAdd, Int.reduceLT, Int.reduceNeg, valloc_std, noSB, vhot, List.getD_cons_zero, List.getD_cons_succ, ofVal_str]
  refine KD.ret (type_does s hl σ) ?_
  cases h : tyS s with
  | none => simp only [k58_a, WK, vop, evAll, evOpt, evParts, vbuiltin, vun, vextract, Nat.reduceLT, Nat.reduceEqDiff, ↓reduceIte, reduceCtorEq, Nat.reduceAdd, Int.reduceLT, Int.reduceNeg, valloc_std, noSB, vhot, List.getD_cons_zero, List.getD_cons_succ, ofVal_str, Option.isSome_none]
  | some T =>
    obtain ⟨rfl, h4⟩ := tyS_iff.1 h
    obtain ⟨c, hc, h1, _⟩ := tyB_first T
    have i0 : vindex Try.prog 9 (.str (tyB T)) (.int .i64 0) = some (.int .u8 (c.toNat : Int)) := str_at (n := 0) hc
    have c91 : decide ((c.toNat : Int) = 91) = decide (c = 91) := u8_eq (d := 91)
    by_cases hcc : c = 91
    · obtain ⟨e, rfl⟩ := h1.1 hcc
      have b : decide ((c.toNat : Int) = 91) = true := by rw [c91]; exact decide_eq_true hcc
      have w1 := wrap_len (s := tyB (.list e)) (by have := tyB_len (.list e); omega) hl
      have ms : vslice Try.prog 9 (.str (tyB (.list e))) (some (.int .i64 1)) (some (.int .i64 (((tyB (.list e)).length - 1 : Nat) : Int))) none = some (.str (mid 1 (tyB (.list e)))) := mid_slice (k := 1) (by have := tyB_len (.list e); omega)
      have hm : mid 1 (tyB (.list e)) = tyB e := mid_wrap [91] (tyB e) 93
      simp only [k58_a, WK, vop, evAll, evOpt, evParts, vbuiltin, vun, vextract, Nat.reduceLT, Nat.reduceEqDiff, ↓reduceIte, reduceCtorEq, Nat.reduceAdd, Int.reduceLT, Int.reduceNeg, valloc_std, noSB, vhot, List.getD_cons_zero, List.getD_cons_succ, ofVal_str, Option.isSome_some, i0, b, w1, ms, hm, T9, vlen_str T9]
    · have b : decide ((c.toNat : Int) = 91) = false := by rw [c91]; exact decide_eq_false hcc
      have hT : ∀ e, T ≠ .list e := fun e he => hcc (h1.2 ⟨e, he⟩)
      cases T with
      | list e => exact absurd rfl (hT e)
      | _ => simp only [k58_a, WK, vop, evAll, evOpt, evParts, vbuiltin, vun, vextract, Nat.reduceLT, Nat.reduceEqDiff, ↓reduceIte, reduceCtorEq, Nat.reduceAdd, Int.reduceLT, Int.reduceNeg, valloc_std, noSB, vhot, List.getD_cons_zero, List.getD_cons_succ, ofVal_str, Option.isSome_some, i0, b]

theorem reflist_does (s : List UInt8) (hl : s.length ≤ 4294967296) (σ : St) : Does Try.prog prims 65 [.str s] σ (.ret (.str (listS s))) σ := by
  apply k65_is.ret (by simp)
  unfold listS
  simp only [k65_a, WK, vop, evAll, evOpt, evParts, vbuiltin, vun, vextract, Nat.reduceLT, Nat.reduceEqDiff, ↓reduceIte, reduceCtorEq, Nat.reduceAdd, Int.reduceLT, Int.reduceNeg, valloc_std, noSB, vhot, List.getD_cons_zero, List.getD_cons_succ, ofVal_str]
  refine KD.ret (reftype_does s hl σ) ?_
  cases h : tyS s with
  | none => simp only [k65_a, WK, vop, evAll, evOpt, evParts, vbuiltin, vun, vextract, Nat.reduceLT, Nat.reduceEqDiff, ↓reduceIte, reduceCtorEq, Nat.reduceAdd, Int.reduceLT, Int.reduceNeg, valloc_std, noSB, vhot, List.getD_cons_zero, List.getD_cons_succ, ofVal_str, Option.isSome_none]
  | some T =>
    obtain ⟨rfl, h4⟩ := tyS_iff.1 h
    obtain ⟨c, hc, h1, _⟩ := tyB_first T
    have i0 : vindex Try.prog 9 (.str (tyB T)) (.int .i64 0) = some (.int .u8 (c.toNat : Int)) := str_at (n := 0) hc
    have c91 : decide ((c.toNat : Int) = 91) = decide (c = 91) := u8_eq (d := 91)
    by_cases hcc : c = 91
    · obtain ⟨e, rfl⟩ := h1.1 hcc
      have b : decide ((c.toNat : Int) = 91) = true := by rw [c91]; exact decide_eq_true hcc
      have w1 := wrap_len (s := tyB (.list e)) (by have := tyB_len (.list e); omega) hl
      have ms : vslice Try.prog 9 (.str (tyB (.list e))) (some (.int .i64 1)) (some (.int .i64 (((tyB (.list e)).length - 1 : Nat) : Int))) none = some (.str (mid 1 (tyB (.list e)))) := mid_slice (k := 1) (by have := tyB_len (.list e); omega)
      have hm : mid 1 (tyB (.list e)) = tyB e := mid_wrap [91] (tyB e) 93
      simp only [k65_a, WK, vop, evAll, evOpt, evParts, vbuiltin, vun, vextract, Nat.reduceLT, Nat.reduceEqDiff, ↓reduceIte, reduceCtorEq, Nat.reduceAdd, Int.reduceLT, Int.reduceNeg, valloc_std, noSB, vhot, List.getD_cons_zero, List.getD_cons_succ, ofVal_str, Option.isSome_some, i0, b, w1, ms, hm, T9, vlen_str T9]
    · have b : decide ((c.toNat : Int) = 91) = false := by rw [c91]; exact decide_eq_false hcc
      have hT : ∀ e, T ≠ .list e := fun e he => hcc (h1.2 ⟨e, he⟩)
      cases T with
      | list e => exact absurd rfl (hT e)
      | _ => simp only [k65_a, WK, vop, evAll, evOpt, evParts, vbuiltin, vun, vextract, Nat.reduceLT, Nat.reduceEqDiff, ↓reduceIte, reduceCtorEq, Nat.reduceAdd, Int.reduceLT, Int.reduceNeg, valloc_std, noSB, vhot, List.getD_cons_zero, List.getD_cons_succ, ofVal_str, Option.isSome_some, i0, b]

theorem refmap_does (s : List UInt8) (hl : s.length ≤ 4294967296) (σ : St) : Does Try.prog prims 66 [.str s] σ (.ret (.tuple [.str (keyS s), .str (valS s)])) σ := by
  apply k66_is.ret (by simp)
  unfold keyS valS
  simp only [k66_a, WK, vop, evAll, evOpt, evParts, vbuiltin, vun, vextract, Nat.reduceLT, Nat.reduceEqDiff, ↓reduceIte, reduceCtorEq, Nat.reduceAdd, Int.reduceLT, Int.reduceNeg, valloc_std, noSB, vhot, List.getD_cons_zero, List.getD_cons_succ, ofVal_str]
  refine KD.ret (reftype_does s hl σ) ?_
  cases h : tyS s with
  | none => simp only [k66_a, WK, vop, evAll, evOpt, evParts, vbuiltin, vun, vextract, Nat.reduceLT, Nat.reduceEqDiff, ↓reduceIte, reduceCtorEq, Nat.reduceAdd, Int.reduceLT, Int.reduceNeg, valloc_std, noSB, vhot, List.getD_cons_zero, List.getD_cons_succ, ofVal_str, Option.isSome_none]
  | some T =>
    obtain ⟨rfl, h4⟩ := tyS_iff.1 h
    obtain ⟨c, hc, _, h1⟩ := tyB_first T
    have i0 : vindex Try.prog 9 (.str (tyB T)) (.int .i64 0) = some (.int .u8 (c.toNat : Int)) := str_at (n := 0) hc
    have c91 : decide ((c.toNat : Int) = 123) = decide (c = 123) := u8_eq (d := 123)
    by_cases hcc : c = 123
    · have b : decide ((c.toNat : Int) = 123) = true := by rw [c91]; exact decide_eq_true hcc
      rcases h1.1 hcc with ⟨e, rfl⟩ | ⟨e, rfl⟩
      · have w1 := wrap_len (s := tyB (.mapI e)) (by have := tyB_len (.mapI e); omega) hl
        have hlen : (tyB (.mapI e)).length = (tyB e).length + 6 := by simp [tyB, mI]
        have ms : vslice Try.prog 9 (.str (tyB (.mapI e))) (some (.int .i64 5)) (some (.int .i64 (((tyB (.mapI e)).length - 1 : Nat) : Int))) none = some (.str (mid 5 (tyB (.mapI e)))) := mid_slice (k := 5) (by omega)
        have hm : mid 5 (tyB (.mapI e)) = tyB e := mid_wrap mI (tyB e) 125
        have i1 : vindex Try.prog 9 (.str (tyB (.mapI e))) (.int .i64 1) = some (.int .u8 105) := str_at (n := 1) (c := 105) rfl
        simp only [k66_a, WK, vop, evAll, evOpt, evParts, vbuiltin, vun, vextract, Nat.reduceLT, Nat.reduceEqDiff, ↓reduceIte, reduceCtorEq, Nat.reduceAdd, Int.reduceLT, Int.reduceNeg, valloc_std, noSB, vhot, List.getD_cons_zero, List.getD_cons_succ, ofVal_str, Option.isSome_some, i0, i1, b, w1, ms, hm, T9, vlen_str T9, show decide ((116 : Int) = 105) = false from rfl, show decide ((105 : Int) = 105) = true from rfl]
        rfl
      · have w1 := wrap_len (s := tyB (.mapT e)) (by have := tyB_len (.mapT e); omega) hl
        have hlen : (tyB (.mapT e)).length = (tyB e).length + 7 := by simp [tyB, mT]
        have ms : vslice Try.prog 9 (.str (tyB (.mapT e))) (some (.int .i64 6)) (some (.int .i64 (((tyB (.mapT e)).length - 1 : Nat) : Int))) none = some (.str (mid 6 (tyB (.mapT e)))) := mid_slice (k := 6) (by omega)
        have hm : mid 6 (tyB (.mapT e)) = tyB e := mid_wrap mT (tyB e) 125
        have i1 : vindex Try.prog 9 (.str (tyB (.mapT e))) (.int .i64 1) = some (.int .u8 116) := str_at (n := 1) (c := 116) rfl
        simp only [k66_a, WK, vop, evAll, evOpt, evParts, vbuiltin, vun, vextract, Nat.reduceLT, Nat.reduceEqDiff, ↓reduceIte, reduceCtorEq, Nat.reduceAdd, Int.reduceLT, Int.reduceNeg, valloc_std, noSB, vhot, List.getD_cons_zero, List.getD_cons_succ, ofVal_str, Option.isSome_some, i0, i1, b, w1, ms, hm, T9, vlen_str T9, show decide ((116 : Int) = 105) = false from rfl, show decide ((105 : Int) = 105) = true from rfl]
        rfl
    · have b : decide ((c.toNat : Int) = 123) = false := by rw [c91]; exact decide_eq_false hcc
      have hT : ∀ e, T ≠ .mapI e := fun e he => hcc (h1.2 (.inl ⟨e, he⟩))
      have hT' : ∀ e, T ≠ .mapT e := fun e he => hcc (h1.2 (.inr ⟨e, he⟩))
      cases T with
      | mapI e => exact absurd rfl (hT e)
      | mapT e => exact absurd rfl (hT' e)
      | _ => simp only [k66_a, WK, vop, evAll, evOpt, evParts, vbuiltin, vun, vextract, Nat.reduceLT, Nat.reduceEqDiff, ↓reduceIte, reduceCtorEq, Nat.reduceAdd, Int.reduceLT, Int.reduceNeg, valloc_std, noSB, vhot, List.getD_cons_zero, List.getD_cons_succ, ofVal_str, Option.isSome_some, i0, b]

/-! ### strings.Cut at a colon -/
theorem indexByte_int (l : List UInt8) : Lib.indexByte ([105, 110, 116, 58] ++ l) 58 = 3 := by
  simp [Lib.indexByte]
theorem indexByte_text (l : List UInt8) : Lib.indexByte ([116, 101, 120, 116, 58] ++ l) 58 = 4 := by
  simp [Lib.indexByte]
theorem index_does (a : List UInt8) (n : Nat) (hn : Lib.indexByte a 58 = (n : Int)) (hl : 2 ≤ a.length) (σ : St) : Does Try.prog prims 81 [.str a, .str [58]] σ (.ret (.int .i64 (n : Int))) σ := by
  apply k81_is.ret (by simp)
  have i0 : vindex Try.prog 9 (.str [58]) (.int .i64 0) = some (.int .u8 58) := str_at (n := 0) (c := 58) rfl
  have l1 : vlen Try.prog 9 (.str [58]) = some (.int .i64 1) := vlen_str T9
  have hne : decide (([58] : List UInt8) = a) = false := by
    apply decide_eq_false
    rintro rfl
    simp at hl
  simp only [k81_a, WK, vop, evAll, evOpt, evParts, vbuiltin, vun, vextract, Nat.reduceLT, Nat.reduceEqDiff, ↓reduceIte, reduceCtorEq, Nat.reduceAdd, Int.reduceLT, Int.reduceNeg, valloc_std, noSB, vhot, List.getD_cons_zero, List.getD_cons_succ, ofVal_str, l1, T9, strBin, hne, i0, show decide ((1 : Int) = 0) = false from rfl, show decide ((1 : Int) = 1) = true from rfl]
  refine KD.ret (Does_indexByte a 58 σ) ?_
  have : Lib.indexByte a (58 : Int).toNat.toUInt8 = (n : Int) := hn
  simp only [k81_a, WK, vop, evAll, evOpt, evParts, vbuiltin, vun, vextract, Nat.reduceLT, Nat.reduceEqDiff, ↓reduceIte, reduceCtorEq, Nat.reduceAdd, Int.reduceLT, Int.reduceNeg, valloc_std, noSB, vhot, this]
theorem cut0_does (a : List UInt8) (n : Nat) (hn : Lib.indexByte a 58 = (n : Int)) (hl : 2 ≤ a.length) (h2 : n + 1 ≤ a.length) (hb : a.length ≤ 4294967296) (σ : St) : Does Try.prog prims 77 [.str a, .str [58]] σ (.ret (.tuple [.str (a.take n), .str (a.drop (n + 1)), .bool true])) σ := by
  apply k77_is.ret (by simp)
  simp only [k77_a, WK, vop, evAll, evOpt, evParts, vbuiltin, vun, vextract, Nat.reduceLT, Nat.reduceEqDiff, ↓reduceIte, reduceCtorEq, Nat.reduceAdd, Int.reduceLT, Int.reduceNeg, valloc_std, noSB, vhot, List.getD_cons_zero, List.getD_cons_succ, ofVal_str]
  refine KD.ret (index_does a n hn hl σ) ?_
  have l1 : vlen Try.prog 9 (.str [58]) = some (.int .i64 1) := vlen_str T9
  have hge : (0 : Int) ≤ (n : Int) := by omega
  have w1 : IntKind.i64.wrap ((n : Int) + 1) = ((n + 1 : Nat) : Int) := by rw [wrap_i64 (by omega) (by omega)]; omega
  have s1 : vslice Try.prog 9 (.str a) none (some (.int .i64 (n : Int))) none = some (.str (a.take n)) := str_hi (by omega)
  have s2 : vslice Try.prog 9 (.str a) (some (.int .i64 ((n + 1 : Nat) : Int))) none none = some (.str (a.drop (n + 1))) := str_lo (by omega)
  simp only [k77_a, WK, vop, evAll, evOpt, evParts, vbuiltin, vun, vextract, Nat.reduceLT, Nat.reduceEqDiff, ↓reduceIte, reduceCtorEq, Nat.reduceAdd, Int.reduceLT, Int.reduceNeg, valloc_std, noSB, vhot, List.getD_cons_zero, List.getD_cons_succ, ofVal_str, hge, l1, T9, w1, s1, s2]
theorem strcut_does (a : List UInt8) (n : Nat) (hn : Lib.indexByte a 58 = (n : Int)) (hl : 2 ≤ a.length) (h2 : n + 1 ≤ a.length) (hb : a.length ≤ 4294967296) (σ : St) : Does Try.prog prims 71 [.str a, .str [58]] σ (.ret (.tuple [.str (a.take n), .str (a.drop (n + 1)), .bool true])) σ := by
  apply k71_is.ret (by simp)
  simp only [k71_a, WK, vop, evAll, evOpt, evParts, vbuiltin, vun, vextract, Nat.reduceLT, Nat.reduceEqDiff, ↓reduceIte, reduceCtorEq, Nat.reduceAdd, Int.reduceLT, Int.reduceNeg, valloc_std, noSB, vhot, List.getD_cons_zero, List.getD_cons_succ, ofVal_str]
  refine KD.ret (cut0_does a n hn hl h2 hb σ) ?_
  simp only [k71_a, WK, vop, evAll, evOpt, evParts, vbuiltin, vun, vextract, Nat.reduceLT, Nat.reduceEqDiff, ↓reduceIte, reduceCtorEq, Nat.reduceAdd, Int.reduceLT, Int.reduceNeg, valloc_std, noSB, vhot, List.getD_cons_zero, List.getD_cons_succ]

theorem vmap_does (s : List UInt8) (hl : s.length ≤ 4294967296) (σ : St) : Does Try.prog prims 61 [.str s] σ (.ret (.tuple [.str (keyS s), .str (valS s), .bool (isMapS s)])) σ := by
  apply k61_is.ret (by simp)
  unfold keyS valS isMapS
  simp only [k61_a, WK, vop, evAll, evOpt, evParts, vbuiltin, vun, vextract, Nat.reduceLT, Nat.reduceEqDiff, ↓reduceIte, reduceCtorEq, Nat.reduceAdd, Int.reduceLT, Int.reduceNeg, valloc_std, noSB, vhot, List.getD_cons_zero, List.getD_cons_succ, ofVal_str]
  refine KD.ret (type_does s hl σ) ?_
  cases h : tyS s with
  | none => simp only [k61_a, WK, vop, evAll, evOpt, evParts, vbuiltin, vun, vextract, Nat.reduceLT, Nat.reduceEqDiff, ↓reduceIte, reduceCtorEq, Nat.reduceAdd, Int.reduceLT, Int.reduceNeg, valloc_std, noSB, vhot, List.getD_cons_zero, List.getD_cons_succ, ofVal_str, Option.isSome_none]
  | some T =>
    obtain ⟨rfl, h4⟩ := tyS_iff.1 h
    obtain ⟨c, hc, _, h1⟩ := tyB_first T
    have i0 : vindex Try.prog 9 (.str (tyB T)) (.int .i64 0) = some (.int .u8 (c.toNat : Int)) := str_at (n := 0) hc
    have c91 : decide ((c.toNat : Int) = 123) = decide (c = 123) := u8_eq (d := 123)
    by_cases hcc : c = 123
    · have b : decide ((c.toNat : Int) = 123) = true := by rw [c91]; exact decide_eq_true hcc
      rcases h1.1 hcc with ⟨e, rfl⟩ | ⟨e, rfl⟩
      · have w1 := wrap_len (s := tyB (.mapI e)) (by have := tyB_len (.mapI e); omega) hl
        have hlen : (tyB (.mapI e)).length = (tyB e).length + 6 := by simp [tyB, mI]
        have ms : vslice Try.prog 9 (.str (tyB (.mapI e))) (some (.int .i64 1)) (some (.int .i64 (((tyB (.mapI e)).length - 1 : Nat) : Int))) none = some (.str (mid 1 (tyB (.mapI e)))) := mid_slice (k := 1) (by omega)
        have hm : mid 1 (tyB (.mapI e)) = [105, 110, 116, 58] ++ tyB e := mid_wrap [123] ([105, 110, 116, 58] ++ tyB e) 125
        have hcut := strcut_does ([105, 110, 116, 58] ++ tyB e) 3 (indexByte_int _) (by simp) (by simp) (by simp; omega) σ
        simp only [k61_a, WK, vop, evAll, evOpt, evParts, vbuiltin, vun, vextract, Nat.reduceLT, Nat.reduceEqDiff, ↓reduceIte, reduceCtorEq, Nat.reduceAdd, Int.reduceLT, Int.reduceNeg, valloc_std, noSB, vhot, List.getD_cons_zero, List.getD_cons_succ, ofVal_str, Option.isSome_some, i0, b, w1, ms, hm, T9, vlen_str T9]
        refine KD.ret hcut ?_
        simp only [k61_a, WK, vop, evAll, evOpt, evParts, vbuiltin, vun, vextract, Nat.reduceLT, Nat.reduceEqDiff, ↓reduceIte, reduceCtorEq, Nat.reduceAdd, Int.reduceLT, Int.reduceNeg, valloc_std, noSB, vhot, List.getD_cons_zero, List.getD_cons_succ]
        rfl
      · have w1 := wrap_len (s := tyB (.mapT e)) (by have := tyB_len (.mapT e); omega) hl
        have hlen : (tyB (.mapT e)).length = (tyB e).length + 7 := by simp [tyB, mT]
        have ms : vslice Try.prog 9 (.str (tyB (.mapT e))) (some (.int .i64 1)) (some (.int .i64 (((tyB (.mapT e)).length - 1 : Nat) : Int))) none = some (.str (mid 1 (tyB (.mapT e)))) := mid_slice (k := 1) (by omega)
        have hm : mid 1 (tyB (.mapT e)) = [116, 101, 120, 116, 58] ++ tyB e := mid_wrap [123] ([116, 101, 120, 116, 58] ++ tyB e) 125
        have hcut := strcut_does ([116, 101, 120, 116, 58] ++ tyB e) 4 (indexByte_text _) (by simp) (by simp) (by simp; omega) σ
        simp only [k61_a, WK, vop, evAll, evOpt, evParts, vbuiltin, vun, vextract, Nat.reduceLT, Nat.reduceEqDiff, ↓reduceIte, reduceCtorEq, Nat.reduceAdd, Int.reduceLT, Int.reduceNeg, valloc_std, noSB, vhot, List.getD_cons_zero, List.getD_cons_succ, ofVal_str, Option.isSome_some, i0, b, w1, ms, hm, T9, vlen_str T9]
        refine KD.ret hcut ?_
        simp only [k61_a, WK, vop, evAll, evOpt, evParts, vbuiltin, vun, vextract, Nat.reduceLT, Nat.reduceEqDiff, ↓reduceIte, reduceCtorEq, Nat.reduceAdd, Int.reduceLT, Int.reduceNeg, valloc_std, noSB, vhot, List.getD_cons_zero, List.getD_cons_succ]
        rfl
    · have b : decide ((c.toNat : Int) = 123) = false := by rw [c91]; exact decide_eq_false hcc
      have hT : ∀ e, T ≠ .mapI e := fun e he => hcc (h1.2 (.inl ⟨e, he⟩))
      have hT' : ∀ e, T ≠ .mapT e := fun e he => hcc (h1.2 (.inr ⟨e, he⟩))
      cases T with
      | mapI e => exact absurd rfl (hT e)
      | mapT e => exact absurd rfl (hT' e)
      | _ => simp only [k61_a, WK, vop, evAll, evOpt, evParts, vbuiltin, vun, vextract, Nat.reduceLT, Nat.reduceEqDiff, ↓reduceIte, reduceCtorEq, Nat.reduceAdd, Int.reduceLT, Int.reduceNeg, valloc_std, noSB, vhot, List.getD_cons_zero, List.getD_cons_succ, ofVal_str, Option.isSome_some, i0, b]
end Go.Proofs.Ytplhelapcpcncaa.Q

set_option linter.unusedVariables false
set_option linter.unusedSimpArgs false
namespace Go.Proofs.Ytplhelapcpcncaa.Q
open Go Go.RowKit Go.Proofs

theorem sgn_zero {a b : Int} (h : sgn a b = 0) : a = b := by
  unfold sgn at h
  split at h
  · omega
  · split at h
    · omega
    · omega
theorem sgn_anti (a b : Int) : sgn a b = - sgn b a := by
  unfold sgn
  split <;> split <;> omega
theorem sgn_refl (a : Int) : sgn a a = 0 := sgn_eq rfl
theorem sgn_trans {a b c : Int} (h1 : sgn a b ≤ 0) (h2 : sgn b c ≤ 0) : sgn a c ≤ 0 := by
  unfold sgn at *
  split at h1 <;> split at h2 <;> (try split at h1) <;> (try split at h2) <;> split <;> (try split) <;> omega

theorem cb_zero {a b : List UInt8} (h : Lib.compareBytes a b = 0) : a = b := by
  rw [compareBytes_eq] at h
  split at h
  · assumption
  · split at h <;> omega
theorem cb_refl (a : List UInt8) : Lib.compareBytes a a = 0 := by rw [compareBytes_eq, if_pos rfl]
theorem u8_lt {a b : UInt8} : a < b ↔ a.toNat < b.toNat := Iff.rfl
theorem cb_anti : ∀ a b : List UInt8, Lib.compareBytes a b = - Lib.compareBytes b a
  | [], [] => by simp [Lib.compareBytes]
  | [], _ :: _ => by simp [Lib.compareBytes]
  | _ :: _, [] => by simp [Lib.compareBytes]
  | a :: l, b :: m => by
    rw [Lib.compareBytes, Lib.compareBytes, cb_anti l m]
    simp only [u8_lt]
    split <;> split <;> omega

/-- One ahead of the rest. -/
def lex (x r : Int) : Int := if x = 0 then r else x
theorem lex_trans {xab xbc xac rab rbc rac : Int} (ht : xab ≤ 0 → xbc ≤ 0 → xac ≤ 0) (h1 : xab = 0 → xac = xbc) (h2 : xbc = 0 → xac = xab) (h3 : xac = 0 → xab = -xbc) (hr : rab ≤ 0 → rbc ≤ 0 → rac ≤ 0) : lex xab rab ≤ 0 → lex xbc rbc ≤ 0 → lex xac rac ≤ 0 := by
  unfold lex
  intro a b
  split at a <;> split at b <;> split <;> omega

theorem cb_trans : ∀ (a b c : List UInt8), Lib.compareBytes a b ≤ 0 → Lib.compareBytes b c ≤ 0 → Lib.compareBytes a c ≤ 0
  | [], b, [] => by simp [Lib.compareBytes]
  | [], b, _ :: _ => by simp [Lib.compareBytes]
  | _ :: _, [], c => by simp [Lib.compareBytes]
  | _ :: _, _ :: _, [] => by simp [Lib.compareBytes]
  | a :: l, b :: m, c :: k => by
    have hE : ∀ (x y : UInt8) (p q : List UInt8), Lib.compareBytes (x :: p) (y :: q) = lex (sgn x.toNat y.toNat) (Lib.compareBytes p q) := by
      intro x y p q
      rw [Lib.compareBytes]
      unfold lex sgn
      simp only [u8_lt]
      by_cases h1 : x.toNat < y.toNat
      · have : ((x.toNat : Int) < y.toNat) := by omega
        simp [h1, this]
      · have e1 : ¬ ((x.toNat : Int) < y.toNat) := by omega
        by_cases h2 : y.toNat < x.toNat
        · have : ((y.toNat : Int) < x.toNat) := by omega
          simp [h1, h2, e1, this]
        · have e2 : ¬ ((y.toNat : Int) < x.toNat) := by omega
          simp [h1, h2, e1, e2]
    rw [hE, hE, hE]
    refine lex_trans sgn_trans ?_ ?_ ?_ (cb_trans l m k)
    · intro h; rw [sgn_zero h]
    · intro h; rw [sgn_zero h]
    · intro h; rw [sgn_zero h]; exact sgn_anti _ _

theorem orI_zero : ∀ {l : List Int}, orI l = 0 → ∀ x ∈ l, x = 0
  | [], _, x, hx => by cases hx
  | y :: l, h, x, hx => by
    rw [orI] at h
    split at h
    · rename_i hy
      rcases List.mem_cons.1 hx with rfl | hx
      · exact hy
      · exact orI_zero h x hx
    · omega
theorem orI_lex (x : Int) (l : List Int) : orI (x :: l) = lex x (orI l) := rfl
theorem cmpL_lex (a b : Val) (l m : List Val) : cmpL (a :: l) (b :: m) = lex (cmpV a b) (cmpL l m) := by rw [cmpL]; rfl

theorem cmp_zero : ∀ (n : Nat) (a b : Val), weight a ≤ n → cmpV a b = 0 → a = b
  | 0, a, b, h => by have := weight_pos a; omega
  | n + 1, .mk k m t l, .mk k' m' t' l', h => by
    rw [weight] at h
    have rows : ∀ (l m : List Val), weights l ≤ n → cmpL l m = 0 → l = m := by
      intro l
      induction l with
      | nil => intro m _; cases m <;> simp [cmpL]
      | cons a l ih =>
        intro m hl h
        rw [weights] at hl
        cases m with
        | nil => simp [cmpL] at h
        | cons b m =>
          rw [cmpL] at h
          split at h
          · rename_i h0
            rw [cmp_zero n a b (by omega) h0, ih m (by omega) h]
          · omega
    intro h0
    rw [cmpV] at h0
    have hz := orI_zero h0
    simp only [List.mem_cons, List.not_mem_nil, or_false, forall_eq_or_imp, forall_eq] at hz
    obtain ⟨z1, z2, z3, z4⟩ := hz
    rw [sgn_zero z1, sgn_zero z2, cb_zero z3, rows l l' (by omega) z4]
theorem cmpV_zero {a b : Val} (h : cmpV a b = 0) : a = b := cmp_zero _ a b (Nat.le_refl _) h

theorem cmp_refl : ∀ (n : Nat) (a : Val), weight a ≤ n → cmpV a a = 0
  | 0, a, h => by have := weight_pos a; omega
  | n + 1, .mk k m t l, h => by
    rw [weight] at h
    have rows : ∀ (l : List Val), weights l ≤ n → cmpL l l = 0 := by
      intro l
      induction l with
      | nil => intro _; simp [cmpL]
      | cons a l ih =>
        intro hl
        rw [weights] at hl
        rw [cmpL, if_pos (cmp_refl n a (by omega))]
        exact ih (by omega)
    rw [cmpV, sgn_refl, sgn_refl, cb_refl, rows l (by omega)]
    rfl
theorem cmpV_refl (a : Val) : cmpV a a = 0 := cmp_refl _ a (Nat.le_refl _)

theorem cmp_anti : ∀ (n : Nat) (a b : Val), weight a ≤ n → cmpV a b = - cmpV b a
  | 0, a, b, h => by have := weight_pos a; omega
  | n + 1, .mk k m t l, .mk k' m' t' l', h => by
    rw [weight] at h
    have rows : ∀ (l m : List Val), weights l ≤ n → cmpL l m = - cmpL m l := by
      intro l
      induction l with
      | nil => intro m _; cases m <;> simp [cmpL]
      | cons a l ih =>
        intro m hl
        rw [weights] at hl
        cases m with
        | nil => simp [cmpL]
        | cons b m =>
          rw [cmpL, cmpL, cmp_anti n a b (by omega), ih m (by omega)]
          split <;> split <;> omega
    rw [cmpV, cmpV, sgn_anti k k', sgn_anti m m', cb_anti t t', rows l l' (by omega)]
    simp only [orI]
    repeat' split
    all_goals omega
theorem cmpV_anti (a b : Val) : cmpV a b = - cmpV b a := cmp_anti _ a b (Nat.le_refl _)

theorem cmp_trans : ∀ (n : Nat) (a b c : Val), weight a ≤ n → cmpV a b ≤ 0 → cmpV b c ≤ 0 → cmpV a c ≤ 0
  | 0, a, b, c, h => by have := weight_pos a; omega
  | n + 1, .mk k m t l, .mk k' m' t' l', .mk k2 m2 t2 l2, h => by
    rw [weight] at h
    have rows : ∀ (l m k : List Val), weights l ≤ n → cmpL l m ≤ 0 → cmpL m k ≤ 0 → cmpL l k ≤ 0 := by
      intro l
      induction l with
      | nil => intro m k _ _ _; cases k <;> simp [cmpL]
      | cons a l ih =>
        intro m k hl
        rw [weights] at hl
        cases m with
        | nil => simp [cmpL]
        | cons b m =>
          cases k with
          | nil => intro _ h2; simp [cmpL] at h2
          | cons c k =>
            rw [cmpL_lex, cmpL_lex, cmpL_lex]
            refine lex_trans (cmp_trans n a b c (by omega)) ?_ ?_ ?_ (ih m k (by omega))
            · intro h; rw [cmpV_zero h]
            · intro h; rw [cmpV_zero h]
            · intro h; rw [cmpV_zero h]; exact cmpV_anti _ _
    rw [cmpV, cmpV, cmpV]
    simp only [orI_lex]
    refine lex_trans sgn_trans (fun h => by rw [sgn_zero h]) (fun h => by rw [sgn_zero h]) (fun h => by rw [sgn_zero h]; exact sgn_anti _ _) ?_
    refine lex_trans sgn_trans (fun h => by rw [sgn_zero h]) (fun h => by rw [sgn_zero h]) (fun h => by rw [sgn_zero h]; exact sgn_anti _ _) ?_
    refine lex_trans (cb_trans _ _ _) (fun h => by rw [cb_zero h]) (fun h => by rw [cb_zero h]) (fun h => by rw [cb_zero h]; exact cb_anti _ _) ?_
    have hz : ∀ x, lex x (orI []) = x := fun x => by unfold lex orI; split <;> omega
    rw [hz, hz, hz]
    exact rows l l' l2 (by omega)
theorem cmpV_trans {a b c : Val} (h1 : cmpV a b ≤ 0) (h2 : cmpV b c ≤ 0) : cmpV a c ≤ 0 := cmp_trans _ a b c (Nat.le_refl _) h1 h2
end Go.Proofs.Ytplhelapcpcncaa.Q

set_option linter.unusedVariables false
set_option linter.unusedSimpArgs false
namespace Go.Proofs.Ytplhelapcpcncaa.Q
open Go Go.RowKit Go.Proofs

/-! ### Values without parts -/
def flatV (k n : Int) (t : List UInt8) : Val := .mk k n t []
def flatC (k n : Int) (t : List UInt8) : List V := [.int .i64 k, .int .i64 n, .str t, .nils]
theorem flat_ok {k n : Int} (t : List UInt8) (hk : InI64 k) (hn : InI64 n) : ValC (flatV k n t) (flatC k n t) := .mk hk hn .nil
theorem flat_one (k n : Int) (t : List UInt8) : (flatC k n t).all one = true := rfl
theorem in0 {k : Int} (h : -1000 ≤ k) (h' : k ≤ 1000) : InI64 k := by unfold InI64; omega
theorem BV0 : vbuild Try.prog 29 [] = some (.agg (flatC 0 0 [])) := by kernel_rfl
theorem BVk (k : Int) : vbuild Try.prog 29 [(0, .int .i64 k)] = some (.agg (flatC k 0 [])) := by kernel_rfl
theorem BVn (k n : Int) : vbuild Try.prog 29 [(0, .int .i64 k), (1, .int .i64 n)] = some (.agg (flatC k n [])) := by kernel_rfl
theorem BVt (k : Int) (t : List UInt8) : vbuild Try.prog 29 [(0, .int .i64 k), (2, .str t)] = some (.agg (flatC k 0 t)) := by kernel_rfl

section
variable (σ : St)
/-- The state behind a result's being laid. -/
theorem laid (c : List V) (hc : c.length = 4) (h1 : c.all one = true) : ∃ s2 : St, vstore Try.prog ⟨σ.objs ++ [Ob.cells val0C], σ.toks⟩ 29 (.optr σ.objs.length 0) (.agg c) = some s2 ∧ IsV s2 σ.objs.length c ∧ Keep σ s2 :=
  ⟨_, IsV.new hc rfl h1, IsV.made, (Keep.refl σ).madeV _ _⟩
/-! ### First values -/
def zeroS (s : List UInt8) : List V := flatC (kindS s) 0 []
theorem zeroS_len (s : List UInt8) : (zeroS s).length = 4 := rfl
theorem kindS_in (s : List UInt8) : 0 ≤ kindS s ∧ kindS s ≤ 5 := by
  unfold kindS
  split
  · rename_i T _; cases T <;> simp [tyK]
  · simp
theorem zeroS_ok (s : List UInt8) : ValC (flatV (kindS s) 0 []) (zeroS s) := flat_ok _ (in0 (by have := kindS_in s; omega) (by have := kindS_in s; omega)) (in0 (by omega) (by omega))

theorem storeN {σ2 : St} {c : List V} {c' : List V} {r : Nat} (h : σ2.objs[r]? = some (.cells c')) (hc : c.length = 4) (hc' : c'.length = 4) (h1 : c.all one = true) : ∃ s2 : St, vstore Try.prog σ2 29 (.optr r 0) (.agg c) = some s2 ∧ IsV s2 r c ∧ KeepX r σ2 s2 :=
  ⟨_, vstore_agg h (by rw [hc]; exact VS24) (by rw [hc, hc']) h1, obj_set h, KeepX.set _ _ _⟩

theorem listS_nil {s : List UInt8} : decide (listS s = []) = !isListS s := by
  unfold listS isListS
  split
  · rename_i e _
    have := tyB_len e
    have h : tyB e ≠ [] := by
      intro h
      rw [h] at this
      simp at this
    rw [decide_eq_false h]
    rfl
  · rfl
theorem refzero_does (s : List UInt8) (hl : s.length ≤ 4294967296) : ∃ σ', Does Try.prog prims 64 [.str s] σ (.ret (.agg (zeroS s))) σ' ∧ Keep σ σ' := by
  have key : ∃ q σ', Does Try.prog prims 64 [.str s] σ q σ' ∧ q = .ret (.agg (zeroS s)) ∧ Keep σ σ' := by
    apply k64_is.does (by simp)
    obtain ⟨s1, hs1⟩ : ∃ s1 : St, s1 = ⟨σ.objs ++ [Ob.cells val0C], σ.toks⟩ := ⟨_, rfl⟩
    have k1 : Keep σ s1 := by rw [hs1]; exact (Keep.refl σ).push _
    have q1 : s1.objs[σ.objs.length]? = some (.cells val0C) := by rw [hs1]; exact push_new _ _
    simp only [k64_a, WK, vop, evAll, evOpt, evParts, vbuiltin, vun, vextract, Nat.reduceLT, Nat.reduceEqDiff, ↓reduceIte, reduceCtorEq, Nat.reduceAdd, Int.reduceLT, Int.reduceNeg, valloc_std, noSB, vhot, List.getD_cons_zero, List.getD_cons_succ, ofVal_str, VZ24, vbox, vcells, ← hs1, strBin]
    obtain ⟨s2, hst, h2, h3⟩ := storeN q1 (c := zeroS s) rfl rfl rfl
    have hz : zeroS s = flatC (kindS s) 0 [] := rfl
    by_cases a1 : s = [105, 110, 116]
    · have b1 : decide (s = [105, 110, 116]) = true := decide_eq_true a1
      have hk : kindS s = 1 := by subst a1; rfl
      rw [hk] at hz
      simp only [k64_a, WK, vop, evAll, evOpt, evParts, vbuiltin, vun, vextract, Nat.reduceLT, Nat.reduceEqDiff, ↓reduceIte, reduceCtorEq, Nat.reduceAdd, Int.reduceLT, Int.reduceNeg, valloc_std, noSB, vhot, b1, BVk, ← hz, hst, h2.load (zeroS_len s)]
      exact (k1.viaX' h3 (Nat.le_refl _))
    have b1 : decide (s = [105, 110, 116]) = false := decide_eq_false a1
    by_cases a2 : s = [98, 111, 111, 108]
    · have b2 : decide (s = [98, 111, 111, 108]) = true := decide_eq_true a2
      have hk : kindS s = 2 := by subst a2; rfl
      rw [hk] at hz
      simp only [k64_a, WK, vop, evAll, evOpt, evParts, vbuiltin, vun, vextract, Nat.reduceLT, Nat.reduceEqDiff, ↓reduceIte, reduceCtorEq, Nat.reduceAdd, Int.reduceLT, Int.reduceNeg, valloc_std, noSB, vhot, List.getD_cons_zero, List.getD_cons_succ, ofVal_str, strBin, b1, b2, BVk, ← hz, hst, h2.load (zeroS_len s)]
      exact (k1.viaX' h3 (Nat.le_refl _))
    have b2 : decide (s = [98, 111, 111, 108]) = false := decide_eq_false a2
    by_cases a3 : s = [116, 101, 120, 116]
    · have b3 : decide (s = [116, 101, 120, 116]) = true := decide_eq_true a3
      have hk : kindS s = 3 := by subst a3; rfl
      rw [hk] at hz
      simp only [k64_a, WK, vop, evAll, evOpt, evParts, vbuiltin, vun, vextract, Nat.reduceLT, Nat.reduceEqDiff, ↓reduceIte, reduceCtorEq, Nat.reduceAdd, Int.reduceLT, Int.reduceNeg, valloc_std, noSB, vhot, List.getD_cons_zero, List.getD_cons_succ, ofVal_str, strBin, b1, b2, b3, BVk, ← hz, hst, h2.load (zeroS_len s)]
      exact (k1.viaX' h3 (Nat.le_refl _))
    have b3 : decide (s = [116, 101, 120, 116]) = false := decide_eq_false a3
    simp only [k64_a, WK, vop, evAll, evOpt, evParts, vbuiltin, vun, vextract, Nat.reduceLT, Nat.reduceEqDiff, ↓reduceIte, reduceCtorEq, Nat.reduceAdd, Int.reduceLT, Int.reduceNeg, valloc_std, noSB, vhot, List.getD_cons_zero, List.getD_cons_succ, ofVal_str, strBin, b1, b2, b3]
    refine KD.ret (reflist_does s hl s1) ?_
    have hn := listS_nil (s := s)
    cases hi : isListS s with
    | true =>
      have hk : kindS s = 4 := by
        unfold isListS at hi
        unfold kindS
        split at hi
        · rename_i e he; rw [he]; rfl
        · cases hi
      rw [hk] at hz
      simp only [k64_a, WK, vop, evAll, evOpt, evParts, vbuiltin, vun, vextract, Nat.reduceLT, Nat.reduceEqDiff, ↓reduceIte, reduceCtorEq, Nat.reduceAdd, Int.reduceLT, Int.reduceNeg, valloc_std, noSB, vhot, ofVal_str, strBin, hn, hi, BVk, ← hz, hst, h2.load (zeroS_len s)]
      exact (k1.viaX' h3 (Nat.le_refl _))
    | false =>
      simp only [k64_a, WK, vop, evAll, evOpt, evParts, vbuiltin, vun, vextract, Nat.reduceLT, Nat.reduceEqDiff, ↓reduceIte, reduceCtorEq, Nat.reduceAdd, Int.reduceLT, Int.reduceNeg, valloc_std, noSB, vhot, List.getD_cons_zero, ofVal_str, strBin, hn, hi]
      refine KD.ret (reftype_does s hl s1) ?_
      cases h : tyS s with
      | none =>
        have hk : kindS s = 0 := by rw [kindS, h]
        rw [hk] at hz
        simp only [k64_a, WK, vop, evAll, evOpt, evParts, vbuiltin, vun, vextract, Nat.reduceLT, Nat.reduceEqDiff, ↓reduceIte, reduceCtorEq, Nat.reduceAdd, Int.reduceLT, Int.reduceNeg, valloc_std, noSB, vhot, Option.isSome_none, BVk, ← hz, hst, h2.load (zeroS_len s)]
        exact (k1.viaX' h3 (Nat.le_refl _))
      | some T =>
        have hk : kindS s = 5 := by
          rw [kindS, h]
          obtain ⟨rfl, h4⟩ := tyS_iff.1 h
          cases T with
          | int => exact absurd rfl a1
          | bool => exact absurd rfl a2
          | text => exact absurd rfl a3
          | list e => rw [isListS, h] at hi; cases hi
          | mapI e => rfl
          | mapT e => rfl
        rw [hk] at hz
        simp only [k64_a, WK, vop, evAll, evOpt, evParts, vbuiltin, vun, vextract, Nat.reduceLT, Nat.reduceEqDiff, ↓reduceIte, reduceCtorEq, Nat.reduceAdd, Int.reduceLT, Int.reduceNeg, valloc_std, noSB, vhot, Option.isSome_some, BVk, ← hz, hst, h2.load (zeroS_len s)]
        exact (k1.viaX' h3 (Nat.le_refl _))
  obtain ⟨q, σ', h1, rfl, h3⟩ := key
  exact ⟨σ', h1, h3⟩

theorem same_does {a b : Val} {c1 c2 : List V} (hw : weight a ≤ 4294967296) (ha : ValC a c1) (hb : ValC b c2) : ∃ σ', Does Try.prog prims 56 [.agg c1, .agg c2] σ (.ret (.bool (decide (cmpV a b = 0)))) σ' ∧ Keep σ σ' := by
  obtain ⟨s1, hs1⟩ : ∃ s1 : St, s1 = ⟨(σ.objs ++ [Ob.cells c1]) ++ [Ob.cells c2], σ.toks⟩ := ⟨_, rfl⟩
  have k1 : Keep σ s1 := by rw [hs1]; exact ((Keep.refl σ).push _).push _
  have p1 : IsV s1 σ.objs.length c1 := by rw [hs1]; show ((σ.objs ++ [_]) ++ [_])[_]? = _; rw [List.getElem?_append_left (by simp)]; exact push_new _ _
  have p2 : IsV s1 (σ.objs.length + 1) c2 := by
    rw [hs1]
    have : (σ.objs.length + 1) = (σ.objs ++ [Ob.cells c1]).length := by simp
    unfold IsV
    rw [this]
    exact push_new _ _
  obtain ⟨s2, d2, k2⟩ := refcompare_does s1 hw ha hb
  refine ⟨s2, ?_, k1.trans k2⟩
  apply k56_is.ret (by simp)
  simp only [k56_a, WK, vop, evAll, evOpt, evParts, vbuiltin, vun, vextract, Nat.reduceLT, Nat.reduceEqDiff, ↓reduceIte, reduceCtorEq, Nat.reduceAdd, Int.reduceLT, Int.reduceNeg, valloc_std, noSB, vhot, List.getD_cons_zero, List.getD_cons_succ, vbox, vcells, List.length_append, List.length_cons, List.length_nil, ← hs1, p1.load ha.len, p2.load hb.len]
  refine KD.ret d2 ?_
  simp only [k56_a, WK, vop, evAll, evOpt, evParts, vbuiltin, vun, vextract, Nat.reduceLT, Nat.reduceEqDiff, ↓reduceIte, reduceCtorEq, Nat.reduceAdd, Int.reduceLT, Int.reduceNeg, valloc_std, noSB, vhot]
end
theorem cmp_dec {a b : Val} : decide (cmpV a b = 0) = true ↔ a = b := by
  rw [decide_eq_true_eq]
  exact ⟨cmpV_zero, fun h => by rw [h]; exact cmpV_refl b⟩
end Go.Proofs.Ytplhelapcpcncaa.Q

