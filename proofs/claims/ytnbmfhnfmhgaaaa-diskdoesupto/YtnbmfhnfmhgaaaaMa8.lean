/- A part of the proof: Kr, Ks, Rw, Kt, Ku, Kv, Kw, Kx, Ky, Kz, Da. -/
import Derived.Test.YtnbmfhnfmhgaaaaMa7
import Derived.Test.YtnbmfhnfmhgaaaaMa6
import Derived.Test.YtnbmfhnfmhgaaaaMa5
/- The document's disk: Truncate, Remove, Rename, Read, Arm, Names. -/
set_option linter.unusedVariables false
set_option linter.unusedSimpArgs false
set_option maxRecDepth 100000
namespace Go.Proofs.Ytnbmfhnfmhgaaaa.Q
open Go Go.RowKit Go.Proofs
theorem copy1 {σ : St} {v : V} {bs : List UInt8} (hv : RB σ v bs) (hl : bs.length ≤ 140737488300000) :
    ∃ v1 σ1, vappend Try.prog σ 28 28 (.slice .exact 1 [] 0) v = some (v1, σ1) ∧ BtsV v1 bs ∧ KS [] σ σ1 ∧ σ1.objs = σ.objs := by
  obtain ⟨v1, σ1, v2, σ2, c1, c2, c3, c4, c5, c6, c7, c8⟩ := copy2 (w := .nils) (ys := []) hv (.inl (.inl ⟨rfl, rfl⟩)) (by simpa using hl)
  exact ⟨v1, σ1, c1, c3, c5, c7⟩
theorem btsTake {v : V} {bs : List UInt8} (h : BtsV v bs) {n : Nat} (hn : n ≤ bs.length) (hl : bs.length ≤ 1000000000) : ∃ w, vslice Try.prog 28 v none (some (.int .i64 (n : Int))) none = some w ∧ BtsV w (bs.take n) := by
  obtain ⟨w, h1, h2⟩ := h.slice T22 S5 (lo := none) (hi := some (.int .i64 (n : Int))) (vbounds_hi (by omega) (by omega)) (by omega) (by omega)
  refine ⟨w, h1, ?_⟩
  have e : (bs.drop 0).take ((n : Int).toNat - 0) = bs.take n := by simp
  rw [e] at h2
  exact h2
theorem vfile3 (n : List UInt8) (s w : V) (h : one s = true) (h2 : one w = true) : vbuild Try.prog 77 [(0, .str n), (1, s), (2, w)] = some (.agg [.str n, s, w]) := by
  cases s <;> cases w <;> first | (cases h; done) | (cases h2; done) | kernel_rfl
theorem rtrunc_sees {σ : St} {r : Nat} {d : Dk} {q : Option Nat} {rs : List RE} {n : List UInt8} {k : Int} (h : RefAt σ r d q rs) (hok : d.Ok) (hw : d.writes < 4611686018427387904) :
    ∃ p σ', Does Try.prog prims 39 [.optr r 0, .str n, .int .i64 k] σ p σ' ∧ (p = .ret (.int .i64 ((truncD n k d).1 : Nat)) ∧ RNext σ r q σ' (truncD n k d).2) := by
  apply k39_is.does (by simp)
  simp only [k39_a, WK, vop, evAll, evOpt, evParts, vbuiltin, vun, vextract, Nat.reduceLT, Nat.reduceEqDiff, ↓reduceIte, reduceCtorEq, Nat.reduceAdd, Int.reduceLT, Int.reduceNeg, valloc_std, noSB, vhot, List.getD_cons_zero, List.getD_cons_succ]
  refine KD.ret (rready_does h n) ?_
  by_cases hr : readyD d n = 0
  · have hr' : ((readyD d n : Nat) : Int) = 0 := by omega
    have hn0 : ¬ readyD d n ≠ 0 := fun h => h hr
    obtain ⟨hfew, hfl⟩ := h.few hok
    simp only [k39_a, WK, vop, evAll, evOpt, evParts, vbuiltin, vun, vextract, Nat.reduceLT, Nat.reduceEqDiff, ↓reduceIte, reduceCtorEq, Nat.reduceAdd, Int.reduceLT, Int.reduceNeg, valloc_std, noSB, vhot, hr']
    obtain ⟨p, σ1, ha, K1, hp⟩ := rat_does h (by omega) n
    have R1 : RefAt σ1 r d q rs := h.keep K1 fun x _ => by simp
    rcases hp with ⟨rfl, hno⟩ | ⟨i, hi, rfl, hnm⟩
    · have hg := h.get_no hno
      have ht : thereD d n = 21 := by unfold thereD; rw [if_neg hn0, hg]; rfl
      have e : truncD n k d = (21, d) := by unfold truncD; rw [if_pos (by rw [ht]; simp), ht]
      have hneg : (-1 : Int) < 0 := by decide
      refine KD.ret ha ?_
      simp only [k39_a, WK, vop, evAll, evOpt, evParts, vbuiltin, vun, vextract, Nat.reduceLT, Nat.reduceEqDiff, ↓reduceIte, reduceCtorEq, Nat.reduceAdd, Int.reduceLT, Int.reduceNeg, valloc_std, noSB, vhot, hneg, decide_true, e]
      exact ⟨rfl, RNext.only h K1⟩
    · have hg := h.get_yes hok hi hnm
      have ht : thereD d n = 0 := by unfold thereD; rw [if_neg hn0, hg]; rfl
      have hz' : ¬ thereD d n ≠ 0 := fun h => h ht
      have hneg : ¬ ((i : Nat) : Int) < 0 := by omega
      obtain ⟨f1, f2, f3, f4, f5⟩ := raw_files d
      have toσ : ∀ (u : St) (d' : Dk), RNext σ1 r q u d' → RNext σ r q u d' := fun u d' hN => RNext.trans (K1.mono fun x hx => by cases hx) (fun x hx => .inl hx) hN
      obtain ⟨fv, o1, hR1⟩ := R1.hd
      have hgo1 := h.ok rs[i] (List.getElem_mem hi)
      have hgl := (hok.get hg).2.2.2
      obtain ⟨g, hgd⟩ : ∃ g, g = rs[i] := ⟨_, rfl⟩
      obtain ⟨ro, hq, _, hai, hli⟩ := hR1.at hi
      rw [← hgd] at hli hgo1 hgl hnm hg
      simp only [Fl.len] at hgl
      obtain ⟨s1, hs1⟩ : ∃ s1 : St, s1 = ⟨σ1.objs ++ [.cells g.cells], σ1.toks⟩ := ⟨_, rfl⟩
      have hst := fileNew (σ := σ1) hgo1
      rw [← hs1] at hst
      have Ks : KS [] σ1 s1 := by rw [hs1]; exact KS.push _ _ _
      have Rs : RefAt s1 r d q rs := R1.keep Ks fun x _ => by simp
      have ob : s1.objs[σ1.objs.length]? = some (.cells g.cells) := by rw [hs1]; exact push_new _ _
      have hz : vcells (V.agg [.str [], .nils, .nils]) = [.str [], .nils, .nils] := rfl
      have lf1 : vload Try.prog σ1.objs 69 (.optr r 0) = some fv := by rw [vload_obj o1 GFS]; rfl
      have ls : vload Try.prog s1.objs 28 (.optr σ1.objs.length 1) = some g.s := by rw [vload_obj ob pGB]; rfl
      have lw : vload Try.prog s1.objs 28 (.optr σ1.objs.length 2) = some g.w := by rw [vload_obj ob pGB]; rfl
      have w1 : IntKind.i64.wrap ((g.f.safe.length : Int) + (g.f.wait.length : Nat)) = ((g.f.safe.length + g.f.wait.length : Nat) : Int) := by rw [wrap_i64 (by omega) (by omega)]; omega
      have t1' : ∀ (d' : Dk), truncD n k d = (3, d) → RNext σ r q s1 d := fun _ _ => RNext.only h (K1.trans' Ks)
      refine KD.ret ha ?_
      by_cases hkn : k < 0
      · have e : truncD n k d = (3, d) := by unfold truncD; rw [if_neg hz', hg]; simp only [Option.getD_some]; rw [if_pos (.inl hkn)]
        simp only [k39_a, WK, vop, evAll, evOpt, evParts, vbuiltin, vun, vextract, Nat.reduceLT, Nat.reduceEqDiff, ↓reduceIte, reduceCtorEq, Nat.reduceAdd, Int.reduceLT, Int.reduceNeg, valloc_std, noSB, vhot, hneg, decide_false, rFA r 0 (by omega), lf1, hai, hli, ZFi, vbox, hz, hst, hkn, decide_true, e]
        exact ⟨rfl, RNext.only h (K1.trans' Ks)⟩
      · by_cases hkb : ((g.f.safe.length + g.f.wait.length : Nat) : Int) < k
        · have e : truncD n k d = (3, d) := by unfold truncD; rw [if_neg hz', hg]; simp only [Option.getD_some]; rw [if_pos (.inr hkb)]
          simp only [k39_a, WK, vop, evAll, evOpt, evParts, vbuiltin, vun, vextract, Nat.reduceLT, Nat.reduceEqDiff, ↓reduceIte, reduceCtorEq, Nat.reduceAdd, Int.reduceLT, Int.reduceNeg, valloc_std, noSB, vhot, hneg, decide_false, rFA r 0 (by omega), lf1, hai, hli, ZFi, vbox, hz, hst, hkn, fFA1, fFA2, Nat.zero_add, ls, lw, hgo1.1.len T22, hgo1.2.len T22, w1, hkb, decide_true, e]
          exact ⟨rfl, RNext.only h (K1.trans' Ks)⟩
        · have hc : ¬ (k < 0 ∨ ((g.f.len : Nat) : Int) < k) := fun h => h.elim hkn hkb
          obtain ⟨t5, r1, R5, K5, lk, t6, r5, r6⟩ := rrawNext Rs hok hw
          have toσ2 : ∀ (u : St) (d' : Dk), RNext s1 r q u d' → RNext σ r q u d' := fun u d' hN => RNext.trans ((K1.trans' Ks).mono fun x hx => by cases hx) (fun x hx => .inl hx) hN
          simp only [k39_a, WK, vop, evAll, evOpt, evParts, vbuiltin, vun, vextract, Nat.reduceLT, Nat.reduceEqDiff, ↓reduceIte, reduceCtorEq, Nat.reduceAdd, Int.reduceLT, Int.reduceNeg, valloc_std, noSB, vhot, hneg, decide_false, rFA r 0 (by omega), lf1, hai, hli, ZFi, vbox, hz, hst, hkn, fFA1, fFA2, Nat.zero_add, ls, lw, hgo1.1.len T22, hgo1.2.len T22, w1, hkb]
          refine KD.ret r1 ?_
          cases hgo : (rawD d).1 with
          | true =>
            have e : truncD n k d = (20, offD d.keep (rawD d).2) := by unfold truncD; rw [if_neg hz', hg]; simp only [Option.getD_some]; rw [if_neg hc, if_pos hgo]
            simp only [k39_a, WK, vop, evAll, evOpt, evParts, vbuiltin, vun, vextract, Nat.reduceLT, Nat.reduceEqDiff, ↓reduceIte, reduceCtorEq, Nat.reduceAdd, Int.reduceLT, Int.reduceNeg, valloc_std, noSB, vhot, rFA r 5 (by omega), lk]
            refine KD.ret r5 ?_
            simp only [k39_a, WK, vop, evAll, evOpt, evParts, vbuiltin, vun, vextract, Nat.reduceLT, Nat.reduceEqDiff, ↓reduceIte, reduceCtorEq, Nat.reduceAdd, Int.reduceLT, Int.reduceNeg, valloc_std, noSB, vhot, e]
            exact ⟨rfl, toσ2 _ _ r6⟩
          | false =>
            have e : truncD n k d = (0, { (rawD d).2 with files := putF ⟨n, g.f.safe.take k.toNat, g.f.wait.take (k.toNat - g.f.safe.length)⟩ d.files }) := by
              unfold truncD; rw [if_neg hz', hg]; simp only [Option.getD_some]; rw [if_neg hc, if_neg (by rw [hgo]; simp)]
            obtain ⟨fv5, o5, hR5⟩ := R5.hd
            have hbn : σ1.objs.length ∉ r :: q.toList := fun hx => by have := R1.lt _ hx; omega
            have ob5 := K5.ko _ _ hbn ob
            have lf5 : vload Try.prog t5.objs 69 (.optr r 0) = some fv5 := by rw [vload_obj o5 GFS]; rfl
            have ls5 : vload Try.prog t5.objs 28 (.optr σ1.objs.length 1) = some g.s := by rw [vload_obj ob5 pGB]; rfl
            have lw5 : vload Try.prog t5.objs 28 (.optr σ1.objs.length 2) = some g.w := by rw [vload_obj ob5 pGB]; rfl
            obtain ⟨kn, hkn2⟩ : ∃ kn : Nat, k = (kn : Int) := ⟨k.toNat, by omega⟩
            subst hkn2
            rw [Int.toNat_natCast] at e
            by_cases hle : kn ≤ g.f.safe.length
            · have hle' : ((kn : Nat) : Int) ≤ (g.f.safe.length : Nat) := by omega
              obtain ⟨w', hsl, hbw⟩ := btsTake hgo1.1 (n := kn) hle (by omega)
              obtain ⟨v1, t7, c1, c2, c3, c4⟩ := copy1 (σ := t5) (.inl hbw) (by rw [List.length_take]; omega)
              have R7 : RefAt t7 r (rawD d).2 q rs := R5.keep c3 fun x _ => by simp
              have o7 := c3.ko _ _ (by simp) o5
              have lf7 : vload Try.prog t7.objs 69 (.optr r 0) = some fv5 := by rw [vload_obj o7 GFS]; rfl
              have hyo : (⟨⟨n, g.f.safe.take kn, []⟩, v1, .nils⟩ : RE).Ok := ⟨c2, .inl ⟨rfl, rfl⟩⟩
              obtain ⟨ro2, t8, ha3, hs3, hN⟩ := R7.set hok.raw hi hyo (by rw [← hgd]; exact hnm) (hR5.keep c3 fun x _ => by simp)
              have hbl := vfile2 n v1 c2.one
              simp only [RE.cells] at hs3
              have hwt : g.f.wait.take (kn - g.f.safe.length) = [] := by rw [show kn - g.f.safe.length = 0 by omega]; simp
              rw [hwt] at e
              simp only [k39_a, WK, vop, evAll, evOpt, evParts, vbuiltin, vun, vextract, Nat.reduceLT, Nat.reduceEqDiff, ↓reduceIte, reduceCtorEq, Nat.reduceAdd, Int.reduceLT, Int.reduceNeg, valloc_std, noSB, vhot, fFA1, fFA2, Nat.zero_add, ls5, lw5, hgo1.1.len T22, hle', decide_true, rFA r 0 (by omega), lf5, lf7, fb0, hsl, c1, hbl, ha3, hs3, T22, e]
              have := hN fv5 o7 rfl
              rw [f1] at this
              exact ⟨rfl, toσ2 _ _ (RNext.trans (K5.trans' (c3.mono fun x hx => by cases hx)) (fun x hx => .inl hx) this)⟩
            · have hle' : ¬ ((kn : Nat) : Int) ≤ (g.f.safe.length : Nat) := by omega
              have hws : IntKind.i64.wrap (((kn : Nat) : Int) - (g.f.safe.length : Nat)) = ((kn - g.f.safe.length : Nat) : Int) := by rw [wrap_i64 (by omega) (by omega)]; omega
              obtain ⟨w', hsl, hbw⟩ := btsTake hgo1.2 (n := kn - g.f.safe.length) (by omega) (by omega)
              obtain ⟨v1, t7, c1, c2, c3, c4⟩ := copy1 (σ := t5) (.inl hbw) (by rw [List.length_take]; omega)
              have R7 : RefAt t7 r (rawD d).2 q rs := R5.keep c3 fun x _ => by simp
              have o7 := c3.ko _ _ (by simp) o5
              have lf7 : vload Try.prog t7.objs 69 (.optr r 0) = some fv5 := by rw [vload_obj o7 GFS]; rfl
              have ls7 : vload Try.prog t7.objs 28 (.optr σ1.objs.length 1) = some g.s := by rw [c4]; exact ls5
              have lw7 : vload Try.prog t7.objs 28 (.optr σ1.objs.length 2) = some g.w := by rw [c4]; exact lw5
              have hst2 : g.f.safe.take kn = g.f.safe := List.take_of_length_le (by omega)
              have hyo : (⟨⟨n, g.f.safe.take kn, g.f.wait.take (kn - g.f.safe.length)⟩, g.s, v1⟩ : RE).Ok := ⟨by rw [hst2]; exact hgo1.1, c2⟩
              obtain ⟨ro2, t8, ha3, hs3, hN⟩ := R7.set hok.raw hi hyo (by rw [← hgd]; exact hnm) (hR5.keep c3 fun x _ => by simp)
              have hbl := vfile3 n g.s v1 hgo1.1.one c2.one
              simp only [RE.cells] at hs3
              simp only [k39_a, WK, vop, evAll, evOpt, evParts, vbuiltin, vun, vextract, Nat.reduceLT, Nat.reduceEqDiff, ↓reduceIte, reduceCtorEq, Nat.reduceAdd, Int.reduceLT, Int.reduceNeg, valloc_std, noSB, vhot, fFA1, fFA2, Nat.zero_add, ls5, lw5, ls7, lw7, hgo1.1.len T22, hle', decide_false, rFA r 0 (by omega), lf5, lf7, fb0, hws, hsl, c1, hbl, ha3, hs3, T22, e]
              have := hN fv5 o7 rfl
              rw [f1] at this
              exact ⟨rfl, toσ2 _ _ (RNext.trans (K5.trans' (c3.mono fun x hx => by cases hx)) (fun x hx => .inl hx) this)⟩
  · have hr' : ¬ ((readyD d n : Nat) : Int) = 0 := by omega
    have ht : thereD d n = readyD d n := by unfold thereD; rw [if_pos hr]
    have e : truncD n k d = (readyD d n, d) := by unfold truncD; rw [ht, if_pos hr]
    simp only [k39_a, WK, vop, evAll, evOpt, evParts, vbuiltin, vun, vextract, Nat.reduceLT, Nat.reduceEqDiff, ↓reduceIte, reduceCtorEq, Nat.reduceAdd, Int.reduceLT, Int.reduceNeg, valloc_std, noSB, vhot, hr', e]
    exact RNext.refl h
end Go.Proofs.Ytnbmfhnfmhgaaaa.Q

/- The document's disk: Remove, Rename, Read, Arm, Names. -/
set_option linter.unusedVariables false
set_option linter.unusedSimpArgs false
set_option maxRecDepth 100000
namespace Go.Proofs.Ytnbmfhnfmhgaaaa.Q
open Go Go.RowKit Go.Proofs
theorem rremove_sees {σ : St} {r : Nat} {d : Dk} {q : Option Nat} {rs : List RE} {n : List UInt8} (h : RefAt σ r d q rs) (hok : d.Ok) (hw : d.writes < 4611686018427387904) :
    ∃ p σ', Does Try.prog prims 41 [.optr r 0, .str n] σ p σ' ∧ (p = .ret (.int .i64 ((removeD n d).1 : Nat)) ∧ RNext σ r q σ' (removeD n d).2) := by
  apply k41_is.does (by simp)
  simp only [k41_a, WK, vop, evAll, evOpt, evParts, vbuiltin, vun, vextract, Nat.reduceLT, Nat.reduceEqDiff, ↓reduceIte, reduceCtorEq, Nat.reduceAdd, Int.reduceLT, Int.reduceNeg, valloc_std, noSB, vhot, List.getD_cons_zero, List.getD_cons_succ]
  refine KD.ret (rready_does h n) ?_
  by_cases hr : readyD d n = 0
  · have hr' : ((readyD d n : Nat) : Int) = 0 := by omega
    have hn0 : ¬ readyD d n ≠ 0 := fun h => h hr
    obtain ⟨hfew, hfl⟩ := h.few hok
    simp only [k41_a, WK, vop, evAll, evOpt, evParts, vbuiltin, vun, vextract, Nat.reduceLT, Nat.reduceEqDiff, ↓reduceIte, reduceCtorEq, Nat.reduceAdd, Int.reduceLT, Int.reduceNeg, valloc_std, noSB, vhot, hr']
    obtain ⟨p, σ1, ha, K1, hp⟩ := rat_does h (by omega) n
    have R1 : RefAt σ1 r d q rs := h.keep K1 fun x _ => by simp
    rcases hp with ⟨rfl, hno⟩ | ⟨i, hi, rfl, hnm⟩
    · have hg := h.get_no hno
      have ht : thereD d n = 21 := by unfold thereD; rw [if_neg hn0, hg]; rfl
      have e : removeD n d = (21, d) := by unfold removeD; rw [if_pos (by rw [ht]; simp), ht]
      have hneg : (-1 : Int) < 0 := by decide
      refine KD.ret ha ?_
      simp only [k41_a, WK, vop, evAll, evOpt, evParts, vbuiltin, vun, vextract, Nat.reduceLT, Nat.reduceEqDiff, ↓reduceIte, reduceCtorEq, Nat.reduceAdd, Int.reduceLT, Int.reduceNeg, valloc_std, noSB, vhot, hneg, decide_true, e]
      exact ⟨rfl, RNext.only h K1⟩
    · have hg := h.get_yes hok hi hnm
      have ht : thereD d n = 0 := by unfold thereD; rw [if_neg hn0, hg]; rfl
      have hz' : ¬ thereD d n ≠ 0 := fun h => h ht
      have hneg : ¬ ((i : Nat) : Int) < 0 := by omega
      obtain ⟨t5, r1, R5, K5, lk, t6, r5, r6⟩ := rrawNext R1 hok hw
      obtain ⟨f1, f2, f3, f4, f5⟩ := raw_files d
      have toσ : ∀ (u : St) (d' : Dk), RNext σ1 r q u d' → RNext σ r q u d' := fun u d' hN => RNext.trans (K1.mono fun x hx => by cases hx) (fun x hx => .inl hx) hN
      refine KD.ret ha ?_
      simp only [k41_a, WK, vop, evAll, evOpt, evParts, vbuiltin, vun, vextract, Nat.reduceLT, Nat.reduceEqDiff, ↓reduceIte, reduceCtorEq, Nat.reduceAdd, Int.reduceLT, Int.reduceNeg, valloc_std, noSB, vhot, hneg, decide_false]
      refine KD.ret r1 ?_
      cases hgo : (rawD d).1 with
      | true =>
        have e : removeD n d = (20, offD d.keep (rawD d).2) := by unfold removeD; rw [if_neg hz', if_pos hgo]
        simp only [k41_a, WK, vop, evAll, evOpt, evParts, vbuiltin, vun, vextract, Nat.reduceLT, Nat.reduceEqDiff, ↓reduceIte, reduceCtorEq, Nat.reduceAdd, Int.reduceLT, Int.reduceNeg, valloc_std, noSB, vhot, rFA r 5 (by omega), lk]
        refine KD.ret r5 ?_
        simp only [k41_a, WK, vop, evAll, evOpt, evParts, vbuiltin, vun, vextract, Nat.reduceLT, Nat.reduceEqDiff, ↓reduceIte, reduceCtorEq, Nat.reduceAdd, Int.reduceLT, Int.reduceNeg, valloc_std, noSB, vhot, e]
        exact ⟨rfl, toσ _ _ r6⟩
      | false =>
        have e : removeD n d = (0, { (rawD d).2 with files := dropF n d.files }) := by
          unfold removeD; rw [if_neg hz', if_neg (by rw [hgo]; simp)]
        obtain ⟨t7, hd7, N7⟩ := rdrop_does (n := n) R5 hok.raw
        rw [f1] at N7
        simp only [k41_a, WK, vop, evAll, evOpt, evParts, vbuiltin, vun, vextract, Nat.reduceLT, Nat.reduceEqDiff, ↓reduceIte, reduceCtorEq, Nat.reduceAdd, Int.reduceLT, Int.reduceNeg, valloc_std, noSB, vhot]
        refine KD.ret hd7 ?_
        simp only [k41_a, WK, vop, evAll, evOpt, evParts, vbuiltin, vun, vextract, Nat.reduceLT, Nat.reduceEqDiff, ↓reduceIte, reduceCtorEq, Nat.reduceAdd, Int.reduceLT, Int.reduceNeg, valloc_std, noSB, vhot, e]
        exact ⟨rfl, toσ _ _ (RNext.trans K5 (fun x hx => .inl hx) N7)⟩
  · have hr' : ¬ ((readyD d n : Nat) : Int) = 0 := by omega
    have ht : thereD d n = readyD d n := by unfold thereD; rw [if_pos hr]
    have e : removeD n d = (readyD d n, d) := by unfold removeD; rw [ht, if_pos hr]
    simp only [k41_a, WK, vop, evAll, evOpt, evParts, vbuiltin, vun, vextract, Nat.reduceLT, Nat.reduceEqDiff, ↓reduceIte, reduceCtorEq, Nat.reduceAdd, Int.reduceLT, Int.reduceNeg, valloc_std, noSB, vhot, hr', e]
    exact RNext.refl h
theorem rrename_sees {σ : St} {r : Nat} {d : Dk} {q : Option Nat} {rs : List RE} {n m : List UInt8} (h : RefAt σ r d q rs) (hok : d.Ok) (hw : d.writes < 4611686018427387904) :
    ∃ p σ', Does Try.prog prims 40 [.optr r 0, .str n, .str m] σ p σ' ∧ (p = .ret (.int .i64 ((renameD n m d).1 : Nat)) ∧ RNext σ r q σ' (renameD n m d).2) := by
  apply k40_is.does (by simp)
  have vn : ∀ s : List UInt8, vlen Try.prog 9 (.str s) = some (.int .i64 (s.length : Nat)) := fun s => by simp [vlen, T9]
  obtain ⟨fv0, o0, hR0⟩ := h.hd
  have lo : vload Try.prog σ.objs 4 (.optr r 2) = some (.bool d.on) := by rw [vload_obj o0 G4]; rfl
  have bad : namedD n = false ∨ namedD m = false → renameD n m d = (1, d) := fun hb => by unfold renameD; rw [if_pos hb]
  by_cases a1 : n.length < 1
  · have a1' : (n.length : Int) < 1 := by omega
    simp only [k40_a, WK, vop, evAll, evOpt, evParts, vbuiltin, vun, vextract, Nat.reduceLT, Nat.reduceEqDiff, ↓reduceIte, reduceCtorEq, Nat.reduceAdd, Int.reduceLT, Int.reduceNeg, valloc_std, noSB, vhot, List.getD_cons_zero, List.getD_cons_succ, vn, a1', decide_true, bad (.inl (by simp [namedD]; omega))]
    exact ⟨rfl, RNext.refl h⟩
  have a1' : ¬ (n.length : Int) < 1 := by omega
  by_cases a2 : 16 < n.length
  · have a2' : (16 : Int) < (n.length : Int) := by omega
    simp only [k40_a, WK, vop, evAll, evOpt, evParts, vbuiltin, vun, vextract, Nat.reduceLT, Nat.reduceEqDiff, ↓reduceIte, reduceCtorEq, Nat.reduceAdd, Int.reduceLT, Int.reduceNeg, valloc_std, noSB, vhot, List.getD_cons_zero, List.getD_cons_succ, vn, a1', a2', decide_true, decide_false, bad (.inl (by simp [namedD]; omega))]
    exact ⟨rfl, RNext.refl h⟩
  have a2' : ¬ (16 : Int) < (n.length : Int) := by omega
  by_cases b1 : m.length < 1
  · have b1' : (m.length : Int) < 1 := by omega
    simp only [k40_a, WK, vop, evAll, evOpt, evParts, vbuiltin, vun, vextract, Nat.reduceLT, Nat.reduceEqDiff, ↓reduceIte, reduceCtorEq, Nat.reduceAdd, Int.reduceLT, Int.reduceNeg, valloc_std, noSB, vhot, List.getD_cons_zero, List.getD_cons_succ, vn, a1', a2', b1', decide_true, decide_false, bad (.inr (by simp [namedD]; omega))]
    exact ⟨rfl, RNext.refl h⟩
  have b1' : ¬ (m.length : Int) < 1 := by omega
  by_cases b2 : 16 < m.length
  · have b2' : (16 : Int) < (m.length : Int) := by omega
    simp only [k40_a, WK, vop, evAll, evOpt, evParts, vbuiltin, vun, vextract, Nat.reduceLT, Nat.reduceEqDiff, ↓reduceIte, reduceCtorEq, Nat.reduceAdd, Int.reduceLT, Int.reduceNeg, valloc_std, noSB, vhot, List.getD_cons_zero, List.getD_cons_succ, vn, a1', a2', b1', b2', decide_true, decide_false, bad (.inr (by simp [namedD]; omega))]
    exact ⟨rfl, RNext.refl h⟩
  have b2' : ¬ (16 : Int) < (m.length : Int) := by omega
  have hn : namedD n = true := by simp [namedD]; omega
  have hm : namedD m = true := by simp [namedD]; omega
  have hnm : ¬ (namedD n = false ∨ namedD m = false) := by rw [hn, hm]; simp
  cases hon : d.on with
  | false =>
    rw [hon] at lo
    have e : renameD n m d = (20, d) := by
      have : thereD d n = 20 := by unfold thereD readyD; simp [hn, hon]
      unfold renameD; rw [if_neg hnm, this]; rfl
    simp only [k40_a, WK, vop, evAll, evOpt, evParts, vbuiltin, vun, vextract, Nat.reduceLT, Nat.reduceEqDiff, ↓reduceIte, reduceCtorEq, Nat.reduceAdd, Int.reduceLT, Int.reduceNeg, valloc_std, noSB, vhot, List.getD_cons_zero, List.getD_cons_succ, vn, a1', a2', b1', b2', decide_true, decide_false, e]
    simp only [k40_a, WK, vop, evAll, evOpt, evParts, vbuiltin, vun, vextract, Nat.reduceLT, Nat.reduceEqDiff, ↓reduceIte, reduceCtorEq, Nat.reduceAdd, Int.reduceLT, Int.reduceNeg, valloc_std, noSB, vhot, List.getD_cons_zero, List.getD_cons_succ, rFA r 2 (by omega), lo, Bool.not_false]
    exact ⟨rfl, RNext.refl h⟩
  | true =>
    rw [hon] at lo
    have hr : readyD d n = 0 := by simp [readyD, hn, hon]
    have hn0 : ¬ readyD d n ≠ 0 := fun h => h hr
    obtain ⟨hfew, hfl⟩ := h.few hok
    simp only [k40_a, WK, vop, evAll, evOpt, evParts, vbuiltin, vun, vextract, Nat.reduceLT, Nat.reduceEqDiff, ↓reduceIte, reduceCtorEq, Nat.reduceAdd, Int.reduceLT, Int.reduceNeg, valloc_std, noSB, vhot, List.getD_cons_zero, List.getD_cons_succ, vn, a1', a2', b1', b2', decide_true, decide_false]
    simp only [k40_a, WK, vop, evAll, evOpt, evParts, vbuiltin, vun, vextract, Nat.reduceLT, Nat.reduceEqDiff, ↓reduceIte, reduceCtorEq, Nat.reduceAdd, Int.reduceLT, Int.reduceNeg, valloc_std, noSB, vhot, List.getD_cons_zero, List.getD_cons_succ, rFA r 2 (by omega), lo, Bool.not_true]
    obtain ⟨p, σ1, ha, K1, hp⟩ := rat_does h (by omega) n
    have R1 : RefAt σ1 r d q rs := h.keep K1 fun x _ => by simp
    rcases hp with ⟨rfl, hno⟩ | ⟨i, hi, rfl, hnmi⟩
    · have hg := h.get_no hno
      have ht : thereD d n = 21 := by unfold thereD; rw [if_neg hn0, hg]; rfl
      have e : renameD n m d = (21, d) := by unfold renameD; rw [if_neg hnm, if_pos (by rw [ht]; simp), ht]
      have hneg : (-1 : Int) < 0 := by decide
      refine KD.ret ha ?_
      simp only [k40_a, WK, vop, evAll, evOpt, evParts, vbuiltin, vun, vextract, Nat.reduceLT, Nat.reduceEqDiff, ↓reduceIte, reduceCtorEq, Nat.reduceAdd, Int.reduceLT, Int.reduceNeg, valloc_std, noSB, vhot, hneg, decide_true, e]
      exact ⟨rfl, RNext.only h K1⟩
    · have hg := h.get_yes hok hi hnmi
      have ht : thereD d n = 0 := by unfold thereD; rw [if_neg hn0, hg]; rfl
      have hz' : ¬ thereD d n ≠ 0 := fun h => h ht
      have hneg : ¬ ((i : Nat) : Int) < 0 := by omega
      obtain ⟨t5, r1, R5, K5, lk, t6, r5, r6⟩ := rrawNext R1 hok hw
      obtain ⟨f1, f2, f3, f4, f5⟩ := raw_files d
      have toσ : ∀ (u : St) (d' : Dk), RNext σ1 r q u d' → RNext σ r q u d' := fun u d' hN => RNext.trans (K1.mono fun x hx => by cases hx) (fun x hx => .inl hx) hN
      refine KD.ret ha ?_
      simp only [k40_a, WK, vop, evAll, evOpt, evParts, vbuiltin, vun, vextract, Nat.reduceLT, Nat.reduceEqDiff, ↓reduceIte, reduceCtorEq, Nat.reduceAdd, Int.reduceLT, Int.reduceNeg, valloc_std, noSB, vhot, hneg, decide_false]
      refine KD.ret r1 ?_
      cases hgo : (rawD d).1 with
      | true =>
        have e : renameD n m d = (20, offD d.keep (rawD d).2) := by unfold renameD; rw [if_neg hnm, if_neg hz', if_pos hgo]
        simp only [k40_a, WK, vop, evAll, evOpt, evParts, vbuiltin, vun, vextract, Nat.reduceLT, Nat.reduceEqDiff, ↓reduceIte, reduceCtorEq, Nat.reduceAdd, Int.reduceLT, Int.reduceNeg, valloc_std, noSB, vhot, rFA r 5 (by omega), lk]
        refine KD.ret r5 ?_
        simp only [k40_a, WK, vop, evAll, evOpt, evParts, vbuiltin, vun, vextract, Nat.reduceLT, Nat.reduceEqDiff, ↓reduceIte, reduceCtorEq, Nat.reduceAdd, Int.reduceLT, Int.reduceNeg, valloc_std, noSB, vhot, e]
        exact ⟨rfl, toσ _ _ r6⟩
      | false =>
        obtain ⟨fv, o5, hR5⟩ := R5.hd
        have hgo5 := h.ok rs[i] (List.getElem_mem hi)
        obtain ⟨g, hgd⟩ : ∃ g, g = rs[i] := ⟨_, rfl⟩
        obtain ⟨ro, hq, _, hai, hli⟩ := hR5.at hi
        rw [← hgd] at hli hgo5 hnmi hg
        have e : renameD n m d = (0, { (rawD d).2 with files := putF ⟨m, g.f.safe, g.f.wait⟩ (dropF n d.files) }) := by
          unfold renameD; rw [if_neg hnm, if_neg hz', if_neg (by rw [hgo]; simp), hg]; rfl
        obtain ⟨s1, hs1⟩ : ∃ s1 : St, s1 = ⟨t5.objs ++ [.cells g.cells], t5.toks⟩ := ⟨_, rfl⟩
        have hst := fileNew (σ := t5) hgo5
        rw [← hs1] at hst
        have Ks : KS [] t5 s1 := by rw [hs1]; exact KS.push _ _ _
        have ob : s1.objs[t5.objs.length]? = some (.cells g.cells) := by rw [hs1]; exact push_new _ _
        have hz : vcells (V.agg [.str [], .nils, .nils]) = [.str [], .nils, .nils] := rfl
        have lf5 : vload Try.prog t5.objs 69 (.optr r 0) = some fv := by rw [vload_obj o5 GFS]; rfl
        have Rs : RefAt s1 r (rawD d).2 q rs := R5.keep Ks fun x _ => by simp
        obtain ⟨t7, hd7, q7, rs7, R7, K7, I7⟩ := rdrop_does (n := n) Rs hok.raw
        have hbn : t5.objs.length ∉ r :: q.toList := fun hx => by have := R5.lt _ hx; omega
        have ob7 := K7.ko _ _ hbn ob
        have ls : vload Try.prog t7.objs 28 (.optr t5.objs.length 1) = some g.s := by rw [vload_obj ob7 pGB]; rfl
        have lw : vload Try.prog t7.objs 28 (.optr t5.objs.length 2) = some g.w := by rw [vload_obj ob7 pGB]; rfl
        have hyo : (⟨⟨m, g.f.safe, g.f.wait⟩, g.s, g.w⟩ : RE).Ok := hgo5
        obtain ⟨t8, hd8, N8⟩ := rput_does (x := ⟨⟨m, g.f.safe, g.f.wait⟩, g.s, g.w⟩) R7 (hok.raw.drop n) hyo
        simp only [RE.cells] at hd8
        rw [f1] at N8
        have hbl := vfile3 m g.s g.w hgo5.1.one hgo5.2.one
        simp only [k40_a, WK, vop, evAll, evOpt, evParts, vbuiltin, vun, vextract, Nat.reduceLT, Nat.reduceEqDiff, ↓reduceIte, reduceCtorEq, Nat.reduceAdd, Int.reduceLT, Int.reduceNeg, valloc_std, noSB, vhot, rFA r 0 (by omega), lf5, hai, hli, ZFi, vbox, hz, hst]
        refine KD.ret hd7 ?_
        simp only [k40_a, WK, vop, evAll, evOpt, evParts, vbuiltin, vun, vextract, Nat.reduceLT, Nat.reduceEqDiff, ↓reduceIte, reduceCtorEq, Nat.reduceAdd, Int.reduceLT, Int.reduceNeg, valloc_std, noSB, vhot, fFA1, fFA2, Nat.zero_add, ls, lw, hbl]
        refine KD.ret hd8 ?_
        simp only [k40_a, WK, vop, evAll, evOpt, evParts, vbuiltin, vun, vextract, Nat.reduceLT, Nat.reduceEqDiff, ↓reduceIte, reduceCtorEq, Nat.reduceAdd, Int.reduceLT, Int.reduceNeg, valloc_std, noSB, vhot, e]
        refine ⟨rfl, toσ _ _ (RNext.trans (K5.trans' (Ks.mono fun x hx => by cases hx)) (fun x hx => .inl hx) (RNext.trans K7 I7 N8))⟩
/-- What is read. -/
theorem rread_sees {σ : St} {r : Nat} {d : Dk} {q : Option Nat} {rs : List RE} {n : List UInt8} (h : RefAt σ r d q rs) (hok : d.Ok) :
    ∃ p σ', Does Try.prog prims 42 [.optr r 0, .str n] σ p σ' ∧ ∃ v, p = .ret (.tuple [v, .int .i64 ((readD n d).1 : Nat)]) ∧ BtsV v (readD n d).2 ∧ KS [] σ σ' := by
  apply k42_is.does (by simp)
  simp only [k42_a, WK, vop, evAll, evOpt, evParts, vbuiltin, vun, vextract, Nat.reduceLT, Nat.reduceEqDiff, ↓reduceIte, reduceCtorEq, Nat.reduceAdd, Int.reduceLT, Int.reduceNeg, valloc_std, noSB, vhot, List.getD_cons_zero, List.getD_cons_succ, nilEP]
  refine KD.ret (rready_does h n) ?_
  by_cases hr : readyD d n = 0
  · have hr' : ((readyD d n : Nat) : Int) = 0 := by omega
    have hn0 : ¬ readyD d n ≠ 0 := fun h => h hr
    obtain ⟨hfew, hfl⟩ := h.few hok
    simp only [k42_a, WK, vop, evAll, evOpt, evParts, vbuiltin, vun, vextract, Nat.reduceLT, Nat.reduceEqDiff, ↓reduceIte, reduceCtorEq, Nat.reduceAdd, Int.reduceLT, Int.reduceNeg, valloc_std, noSB, vhot, hr']
    obtain ⟨p, σ1, ha, K1, hp⟩ := rat_does h (by omega) n
    have R1 : RefAt σ1 r d q rs := h.keep K1 fun x _ => by simp
    rcases hp with ⟨rfl, hno⟩ | ⟨i, hi, rfl, hnm⟩
    · have hg := h.get_no hno
      have ht : thereD d n = 21 := by unfold thereD; rw [if_neg hn0, hg]; rfl
      have e : readD n d = (21, []) := by unfold readD; rw [if_pos (by rw [ht]; simp), ht]
      have hneg : (-1 : Int) < 0 := by decide
      refine KD.ret ha ?_
      simp only [k42_a, WK, vop, evAll, evOpt, evParts, vbuiltin, vun, vextract, Nat.reduceLT, Nat.reduceEqDiff, ↓reduceIte, reduceCtorEq, Nat.reduceAdd, Int.reduceLT, Int.reduceNeg, valloc_std, noSB, vhot, hneg, decide_true, nilEP, e]
      exact ⟨.nils, rfl, .inl ⟨rfl, rfl⟩, K1⟩
    · have hg := h.get_yes hok hi hnm
      have ht : thereD d n = 0 := by unfold thereD; rw [if_neg hn0, hg]; rfl
      have hz' : ¬ thereD d n ≠ 0 := fun h => h ht
      have hneg : ¬ ((i : Nat) : Int) < 0 := by omega
      obtain ⟨fv, o1, hR1⟩ := R1.hd
      have hgo := h.ok rs[i] (List.getElem_mem hi)
      have hgl := (hok.get hg).2.2.2
      obtain ⟨g, hgd⟩ : ∃ g, g = rs[i] := ⟨_, rfl⟩
      obtain ⟨ro, hq, hro, hai, hli⟩ := hR1.at hi
      rw [← hgd] at hli hgo hgl hnm hg
      simp only [Fl.len] at hgl
      have e : readD n d = (0, g.f.safe ++ g.f.wait) := by unfold readD; rw [if_neg hz', hg]; rfl
      have hle : i * 3 + 3 ≤ (rcells rs).length := by rw [rcells_len]; omega
      have hat : ∀ j, j < 3 → (rcells rs)[i * 3 + j]? = g.cells[j]? := by
        intro j hj
        have h1 : ((rcells rs).drop (i * 3)).take 3 = g.cells := by unfold rcells; rw [flat_part RE.cells_len hi, hgd]
        rw [← h1, List.getElem?_take_of_lt hj, List.getElem?_drop]
      have lf : vload Try.prog σ1.objs 69 (.optr r 0) = some fv := by rw [vload_obj o1 GFS]; rfl
      have ls : vload Try.prog σ1.objs 28 (.optr ro (i * 3 + 1)) = some g.s := by rw [vload_obj hro pGB, hat 1 (by omega)]; rfl
      have lw : vload Try.prog σ1.objs 28 (.optr ro (i * 3 + 2)) = some g.w := by rw [vload_obj hro pGB, hat 2 (by omega)]; rfl
      obtain ⟨v1, t1, v2, t2, c1, c2, c3, c4, c5, c6, c7, c8⟩ := copy2 (σ := σ1) (v := g.s) (w := g.w) (.inl hgo.1) (.inl hgo.2) (by omega)
      have lf1 : vload Try.prog t1.objs 69 (.optr r 0) = some fv := by rw [c7]; exact lf
      have lw1 : vload Try.prog t1.objs 28 (.optr ro (i * 3 + 2)) = some g.w := by rw [c7]; exact lw
      refine KD.ret ha ?_
      simp only [k42_a, WK, vop, evAll, evOpt, evParts, vbuiltin, vun, vextract, Nat.reduceLT, Nat.reduceEqDiff, ↓reduceIte, reduceCtorEq, Nat.reduceAdd, Int.reduceLT, Int.reduceNeg, valloc_std, noSB, vhot, hneg, decide_false, nilEP, fb0, rFA r 0 (by omega), lf, hai, fFA1, fFA2, ls, c1, lf1, lw, lw1, c2, e]
      exact ⟨v2, rfl, c4, K1.trans' c6⟩
  · have hr' : ¬ ((readyD d n : Nat) : Int) = 0 := by omega
    have ht : thereD d n = readyD d n := by unfold thereD; rw [if_pos hr]
    have e : readD n d = (readyD d n, []) := by unfold readD; rw [ht, if_pos hr]
    simp only [k42_a, WK, vop, evAll, evOpt, evParts, vbuiltin, vun, vextract, Nat.reduceLT, Nat.reduceEqDiff, ↓reduceIte, reduceCtorEq, Nat.reduceAdd, Int.reduceLT, Int.reduceNeg, valloc_std, noSB, vhot, hr', e, nilEP]
    exact ⟨.nils, rfl, .inl ⟨rfl, rfl⟩, KS.refl _ _⟩
end Go.Proofs.Ytnbmfhnfmhgaaaa.Q

/- Rows, written or not. -/
set_option linter.unusedVariables false
set_option linter.unusedSimpArgs false
set_option maxRecDepth 100000
namespace Go.Proofs.Ytnbmfhnfmhgaaaa.Q
open Go Go.RowKit Go.Proofs
/-- w is a row of n elements of k cells each; it may be a part of an object. -/
def RowS (σ : St) (k : Nat) (w : V) (cs : List V) (n : Nat) : Prop := RowV k w cs n ∨ (cs.length = n * k ∧ ∃ r off c, w = .hslice r off k n ∧ σ.objs[r]? = some (.cells c) ∧ off + n * k ≤ c.length ∧ (c.drop off).take (n * k) = cs)
section
variable {σ : St} {k n : Nat} {w : V} {cs : List V}
theorem RowS.keep {σ' : St} (h : RowS σ k w cs n) (hk : Keep σ σ') : RowS σ' k w cs n := by
  rcases h with h | ⟨h0, r, off, c, h1, h2, h3⟩
  · exact .inl h
  · exact .inr ⟨h0, r, off, c, h1, hk.1 _ _ h2, h3⟩
theorem RowS.size (h : RowS σ k w cs n) : cs.length = n * k := by
  rcases h with h | ⟨h0, _⟩
  · exact h.1
  · exact h0
theorem RowS.one (h : RowS σ k w cs n) : one w = true := by
  rcases h with h | ⟨h0, r, off, c, rfl, _⟩
  · exact h.one
  · rfl
theorem RowS.len (h : RowS σ k w cs n) {t e : TypeId} (ht : Try.prog.underlying t = some (.slice e)) : vlen Try.prog t w = some (.int .i64 (n : Nat)) := by
  rcases h with h | ⟨h0, r, off, c, rfl, _⟩
  · exact h.len ht
  · simp [vlen, ht]
/-- The place of an element: what may be read there. -/
def At (σ : St) (p : V) (c : List V) : Prop := (∃ cs o, p = .eptr cs o ∧ o + c.length ≤ cs.length ∧ (cs.drop o).take c.length = c) ∨ ∃ r o cs, p = .optr r o ∧ σ.objs[r]? = some (.cells cs) ∧ o + c.length ≤ cs.length ∧ (cs.drop o).take c.length = c
theorem RowS.at (h : RowS σ k w cs n) {t e : TypeId} (ht : Try.prog.underlying t = some (.slice e)) (hs : sizeT Try.prog e = some k) (hk : 0 < k) {i : Nat} (hi : i < n) {kk : IntKind} :
    ∃ p, vindexAddr Try.prog t w (.int kk (i : Int)) = some p ∧ At σ p ((cs.drop (i * k)).take k) := by
  have hsz := h.size
  have hle : i * k + k ≤ n * k := by
    have : (i + 1) * k ≤ n * k := Nat.mul_le_mul_right k hi
    rwa [Nat.add_mul, Nat.one_mul] at this
  have hpl : ((cs.drop (i * k)).take k).length = k := by rw [List.length_take, List.length_drop]; omega
  rcases h with h | ⟨h0, r, off, c, rfl, h2, h3, h4⟩
  · refine ⟨_, RowV.addr h ht hs hk (kk := kk) (i := (i : Int)) (by omega) (by omega), .inl ⟨cs, i * k, by rw [Int.toNat_natCast], by rw [hpl]; omega, by rw [hpl]⟩⟩
  · have hi' : (i : Int) < n := by omega
    refine ⟨.optr r (off + i * k), by simp [vindexAddr, ht, hs, hi'], .inr ⟨r, _, c, rfl, h2, by rw [hpl]; omega, ?_⟩⟩
    rw [hpl, ← h4, List.drop_take, List.drop_drop, List.take_take]
    congr 1
    omega
theorem At.keep {σ' : St} {p : V} {c : List V} (h : At σ p c) (hk : Keep σ σ') : At σ' p c := by
  rcases h with h | ⟨r, o, cs, h1, h2, h3⟩
  · exact .inl h
  · exact .inr ⟨r, o, cs, h1, hk.1 _ _ h2, h3⟩
theorem At.load {p : V} {c : List V} (h : At σ p c) {e : TypeId} (ha : isAggT Try.prog e = some true) (hs : sizeT Try.prog e = some c.length) : vload Try.prog σ.objs e p = some (.agg c) := by
  rcases h with ⟨cs, o, rfl, h1, h2⟩ | ⟨r, o, cs, rfl, hr, h1, h2⟩
  · simp only [vload, vcellsAt, vpart, ha, hs, if_pos h1, h2]
  · simp only [vload, vcellsAt, hr, vpart, ha, hs, if_pos h1, h2]
theorem At.load1 {p : V} {v : V} (h : At σ p [v]) {e : TypeId} (ha : isAggT Try.prog e = some false) : vload Try.prog σ.objs e p = some v := by
  have key : ∀ (cs : List V) (o : Nat), o + 1 ≤ cs.length → (cs.drop o).take 1 = [v] → cs[o]? = some v := by
    intro cs o h1 h2
    have := congrArg (·[0]?) h2
    simpa using this
  rcases h with ⟨cs, o, rfl, h1, h2⟩ | ⟨r, o, cs, rfl, hr, h1, h2⟩
  · simp only [vload, vcellsAt, vpart, ha]; exact key cs o h1 h2
  · simp only [vload, vcellsAt, hr, vpart, ha]; exact key cs o h1 h2
/-- A cell of what lies there. -/
theorem At.part {p : V} {c : List V} (h : At σ p c) {j m : Nat} (hj : j + m ≤ c.length) : ∃ p', (∀ (e : TypeId) (f : Nat), (∀ q o, vfieldAddr Try.prog e (.optr q o) f = some (.optr q (o + j))) → (∀ cs o, vfieldAddr Try.prog e (.eptr cs o) f = some (.eptr cs (o + j))) → vfieldAddr Try.prog e p f = some p') ∧ At σ p' ((c.drop j).take m) := by
  have hpl : ((c.drop j).take m).length = m := by rw [List.length_take, List.length_drop]; omega
  have cut : ∀ (cs : List V) (o : Nat), o + c.length ≤ cs.length → (cs.drop o).take c.length = c → (cs.drop (o + j)).take m = (c.drop j).take m := by
    intro cs o h1 h2
    have h3 : c.drop j = ((cs.drop o).take c.length).drop j := by rw [h2]
    rw [h3, List.drop_take, List.drop_drop, List.take_take]
    congr 1
    omega
  rcases h with ⟨cs, o, rfl, h1, h2⟩ | ⟨r, o, cs, rfl, hr, h1, h2⟩
  · exact ⟨.eptr cs (o + j), fun e f _ h => h cs o, .inl ⟨cs, o + j, rfl, by rw [hpl]; omega, by rw [hpl]; exact cut cs o h1 h2⟩⟩
  · exact ⟨.optr r (o + j), fun e f h _ => h r o, .inr ⟨r, o + j, cs, rfl, hr, by rw [hpl]; omega, by rw [hpl]; exact cut cs o h1 h2⟩⟩
end
end Go.Proofs.Ytnbmfhnfmhgaaaa.Q

/- A step of a disk, plainly. -/
set_option linter.unusedVariables false
set_option linter.unusedSimpArgs false
set_option maxRecDepth 100000
namespace Go.Proofs.Ytnbmfhnfmhgaaaa.Q
open Go Go.RowKit Go.Proofs
structure Opn where
  kind : Int
  f : List UInt8
  g : List UInt8
  n : Int
  k : Int
  bv : V
  b : List UInt8
def Opn.cells (o : Opn) : List V := [.int .i64 o.kind, .str o.f, .str o.g, .int .i64 o.n, .int .i64 o.k, o.bv]
structure Opn.Ok (o : Opn) : Prop where
  b : BtsV o.bv o.b
  bl : o.b.length ≤ 1000000000
  n : InI64 o.n
  k : InI64 o.k
/-- The bytes read, what went wrong, and the disk behind it. -/
def stepD (o : Opn) (d : Dk) : (List UInt8 × Nat) × Dk :=
  if o.kind = 0 then (([], (appendD o.f o.b d).1), (appendD o.f o.b d).2) else
  if o.kind = 1 then (([], (syncD o.f d).1), (syncD o.f d).2) else
  if o.kind = 2 then (([], (truncD o.f o.n d).1), (truncD o.f o.n d).2) else
  if o.kind = 3 then (([], (renameD o.f o.g d).1), (renameD o.f o.g d).2) else
  if o.kind = 4 then (([], (removeD o.f d).1), (removeD o.f d).2) else
  if o.kind = 5 then (((readD o.f d).2, (readD o.f d).1), d) else
  if o.kind = 6 then (([], 0), { d with room := o.n }) else
  if o.kind = 7 then (([], 0), armD o.n o.k d) else
  if o.kind = 8 then (([], 0), offD o.k d) else
  if o.kind = 9 then (([], 0), { d with on := true }) else (([], 0), d)
theorem off_writes (k : Int) (d : Dk) : (offD k d).writes = d.writes := by unfold offD; split <;> rfl
theorem goes_ok {d : Dk} (h : d.Ok) (k : Int) : (offD k (rawD d).2).Ok := h.raw.off k
theorem append_ok {n b : List UInt8} {d : Dk} (h : d.Ok) : (appendD n b d).2.Ok ∧ (appendD n b d).2.writes ≤ d.writes + 1 := by
  unfold appendD
  split
  · exact ⟨h, by simp⟩
  · rename_i hr
    have hr0 : readyD d n = 0 := Classical.byContradiction hr
    have hn := (readyD_named hr0).1
    simp only
    split
    · exact ⟨h, by simp⟩
    · rename_i hl
      split
      · exact ⟨h, by simp⟩
      · rename_i hf
        have ok2 : ({ d with files := putF ⟨n, ((getF d.files n).getD ⟨n, [], []⟩).safe, ((getF d.files n).getD ⟨n, [], []⟩).wait ++ b⟩ d.files } : Dk).Ok := by
          refine h.put hn ?_ fun hno => ?_
          · simp only [Fl.len, List.length_append] at hl ⊢; omega
          · have : ¬ 16 ≤ d.files.length := fun h1 => hf (.inl ⟨hno, h1⟩)
            omega
        have rf := raw_files { d with files := putF ⟨n, ((getF d.files n).getD ⟨n, [], []⟩).safe, ((getF d.files n).getD ⟨n, [], []⟩).wait ++ b⟩ d.files }
        split
        · exact ⟨goes_ok ok2 _, by rw [off_writes, rf.2.2.2.2]; simp⟩
        · exact ⟨ok2.raw, by rw [rf.2.2.2.2]; simp⟩
theorem put_same {d : Dk} (h : d.Ok) {n : List UInt8} (ht : thereD d n = 0) {s w : List UInt8} (hl : s.length + w.length ≤ 1048576) : ({ (rawD d).2 with files := putF ⟨n, s, w⟩ d.files } : Dk).Ok := by
  obtain ⟨hr, f, hg⟩ := thereD_zero ht
  have h1 : ({ (rawD d).2 with files := putF ⟨n, s, w⟩ (rawD d).2.files } : Dk).Ok := h.raw.put (readyD_named hr).1 (by simp only [Fl.len]; omega) fun hno => by
    rw [(raw_files d).1, hg] at hno; cases hno
  rw [(raw_files d).1] at h1
  exact h1
theorem raw_w (d : Dk) : (rawD d).2.writes = d.writes + 1 := (raw_files d).2.2.2.2
theorem sync_ok {n : List UInt8} {d : Dk} (h : d.Ok) : (syncD n d).2.Ok ∧ (syncD n d).2.writes ≤ d.writes + 1 := by
  unfold syncD
  split
  · exact ⟨h, by simp⟩
  · rename_i ht
    have ht0 : thereD d n = 0 := Classical.byContradiction ht
    obtain ⟨hr, f, hg⟩ := thereD_zero ht0
    have hl := (h.get hg).2.2.2
    split
    · exact ⟨goes_ok h _, by rw [off_writes, raw_w]; simp⟩
    · simp only [hg, Option.getD_some]
      exact ⟨put_same h ht0 (by simpa [Fl.len] using hl), by rw [raw_w]; simp⟩
theorem trunc_ok {n : List UInt8} {k : Int} {d : Dk} (h : d.Ok) : (truncD n k d).2.Ok ∧ (truncD n k d).2.writes ≤ d.writes + 1 := by
  unfold truncD
  split
  · exact ⟨h, by simp⟩
  · rename_i ht
    have ht0 : thereD d n = 0 := Classical.byContradiction ht
    obtain ⟨hr, f, hg⟩ := thereD_zero ht0
    have hl := (h.get hg).2.2.2
    simp only [hg, Option.getD_some]
    split
    · exact ⟨h, by simp⟩
    · split
      · exact ⟨goes_ok h _, by rw [off_writes, raw_w]; simp⟩
      · refine ⟨put_same h ht0 ?_, by rw [raw_w]; simp⟩
        simp only [Fl.len, List.length_take] at hl ⊢; omega
theorem rename_ok {n m : List UInt8} {d : Dk} (h : d.Ok) : (renameD n m d).2.Ok ∧ (renameD n m d).2.writes ≤ d.writes + 1 := by
  unfold renameD
  split
  · exact ⟨h, by simp⟩
  · rename_i hnm
    split
    · exact ⟨h, by simp⟩
    · rename_i ht
      have ht0 : thereD d n = 0 := Classical.byContradiction ht
      obtain ⟨hr, f, hg⟩ := thereD_zero ht0
      have hl := (h.get hg).2.2.2
      split
      · exact ⟨goes_ok h _, by rw [off_writes, raw_w]; simp⟩
      · simp only [hg, Option.getD_some]
        have hm : namedD m = true := by
          cases hm : namedD m with
          | true => rfl
          | false => exact absurd (.inr hm) hnm
        have ok1 : ({ (rawD d).2 with files := dropF n d.files } : Dk).Ok := by
          have := h.raw.drop n
          rw [(raw_files d).1] at this
          exact this
        have hlen : (dropF n d.files).length < 16 := by
          have hf := h.few
          have hmem := (getF_some hg)
          have : (dropF n d.files).length < d.files.length := by
            unfold dropF
            exact List.length_filter_lt_length_iff_exists.2 ⟨f, hmem.1, by simp [hmem.2]⟩
          omega
        exact ⟨ok1.put hm (by simpa [Fl.len] using hl) fun _ => hlen, by rw [raw_w]; simp⟩
theorem remove_ok {n : List UInt8} {d : Dk} (h : d.Ok) : (removeD n d).2.Ok ∧ (removeD n d).2.writes ≤ d.writes + 1 := by
  unfold removeD
  split
  · exact ⟨h, by simp⟩
  · split
    · exact ⟨goes_ok h _, by rw [off_writes, raw_w]; simp⟩
    · have := h.raw.drop n
      rw [(raw_files d).1] at this
      exact ⟨this, by rw [raw_w]; simp⟩
theorem step_ok {o : Opn} {d : Dk} (h : d.Ok) (ho : o.Ok) : (stepD o d).2.Ok ∧ (stepD o d).2.writes ≤ d.writes + 1 := by
  have hn := ho.n
  have hk := ho.k
  unfold InI64 at hn
  unfold stepD
  repeat' split
  · exact append_ok h
  · exact sync_ok h
  · exact trunc_ok h
  · exact rename_ok h
  · exact remove_ok h
  · exact ⟨h, by simp⟩
  · exact ⟨h.head rfl h.arm ho.n h.kp, by simp⟩
  · exact ⟨h.head rfl (by simp only [armD]; omega) h.rm hk, by simp [armD]⟩
  · exact ⟨h.off _, by simp only [off_writes]; omega⟩
  · exact ⟨h.head rfl h.arm h.rm h.kp, by simp⟩
  · exact ⟨h, by simp⟩
end Go.Proofs.Ytnbmfhnfmhgaaaa.Q

/- The law's helpers: does, says. -/
set_option linter.unusedVariables false
set_option linter.unusedSimpArgs false
set_option maxRecDepth 100000
namespace Go.Proofs.Ytnbmfhnfmhgaaaa.Q
open Go Go.RowKit Go.Proofs
theorem oFA0 (r : Nat) : vfieldAddr Try.prog 46 (.optr r 0) 0 = some (.optr r 0) := by kernel_rfl
theorem oFA1 (r : Nat) : vfieldAddr Try.prog 46 (.optr r 0) 1 = some (.optr r 1) := by kernel_rfl
theorem oFA2 (r : Nat) : vfieldAddr Try.prog 46 (.optr r 0) 2 = some (.optr r 2) := by kernel_rfl
theorem oFA3 (r : Nat) : vfieldAddr Try.prog 46 (.optr r 0) 3 = some (.optr r 3) := by kernel_rfl
theorem oFA4 (r : Nat) : vfieldAddr Try.prog 46 (.optr r 0) 4 = some (.optr r 4) := by kernel_rfl
theorem oFA5 (r : Nat) : vfieldAddr Try.prog 46 (.optr r 0) 5 = some (.optr r 5) := by kernel_rfl
theorem OpAt {σ : St} {q : Nat} {o : Opn} (h : σ.objs[q]? = some (.cells o.cells)) :
    vload Try.prog σ.objs 3 (.optr q 0) = some (.int .i64 o.kind) ∧ vload Try.prog σ.objs 9 (.optr q 1) = some (.str o.f) ∧ vload Try.prog σ.objs 9 (.optr q 2) = some (.str o.g) ∧ vload Try.prog σ.objs 3 (.optr q 3) = some (.int .i64 o.n) ∧ vload Try.prog σ.objs 3 (.optr q 4) = some (.int .i64 o.k) ∧ vload Try.prog σ.objs 28 (.optr q 5) = some o.bv := by
  refine ⟨?_, ?_, ?_, ?_, ?_, ?_⟩
  · rw [vload_obj h G3]; rfl
  · rw [vload_obj h G9]; rfl
  · rw [vload_obj h G9]; rfl
  · rw [vload_obj h G3]; rfl
  · rw [vload_obj h G3]; rfl
  · rw [vload_obj h pGB]; rfl
theorem does_sees {σ : St} {r rm : Nat} {d : Dk} {fs : List Ent} {o : Opn} (h : DiskAt σ r d rm fs) (hok : d.Ok) (ho : o.Ok) (hw : d.writes < 4611686018427387904) :
    ∃ p σ', Does Try.prog prims 20 [.optr r 0, .agg o.cells] σ p σ' ∧ ∃ v q, p = .ret (.tuple [v, .int .i64 ((stepD o d).1.2 : Nat)]) ∧ rowOf σ'.objs v = some (q, (stepD o d).1.1.map byteV) ∧ Next σ r rm fs σ' (stepD o d).2 ∧ ∀ x ∈ q.toList, σ.objs.length ≤ x := by
  apply k20_is.does (by simp)
  obtain ⟨s, hs⟩ : ∃ s : St, s = ⟨σ.objs ++ [.cells o.cells], σ.toks⟩ := ⟨_, rfl⟩
  have hc : vcells (.agg o.cells) = o.cells := rfl
  have K0 : KS (foot r rm fs) σ s := by rw [hs]; exact KS.push _ _ _
  have H0 : DiskAt s r d rm fs := by rw [hs]; exact h.pushed _
  have ob : s.objs[σ.objs.length]? = some (.cells o.cells) := by rw [hs]; exact push_new _ _
  have L0 : s.objs.length = σ.objs.length + 1 := by rw [hs]; simp
  obtain ⟨l0, l1, l2, l3, l4, l5⟩ := OpAt ob
  have toσ : ∀ (u : St) (d' : Dk), Next s r rm fs u d' → Next σ r rm fs u d' := fun u d' hN => Next.trans K0 (fun x hx => .inl hx) hN
  have nn : ∀ (u : St), rowOf u.objs .nils = some (none, ([] : List UInt8).map byteV) := fun u => rfl
  simp only [k20_a, WK, vop, evAll, evOpt, evParts, vbuiltin, vun, vextract, Nat.reduceLT, Nat.reduceEqDiff, ↓reduceIte, reduceCtorEq, Nat.reduceAdd, Int.reduceLT, Int.reduceNeg, valloc_std, noSB, vhot, List.getD_cons_zero, List.getD_cons_succ, nilEP, vbox, hc, ← hs, oFA0, oFA1, oFA2, oFA3, oFA4, oFA5, l0]
  by_cases k0 : o.kind = 0
  · obtain ⟨p, σ', h1, rfl, h2⟩ := append_sees (n := o.f) H0 hok hw (.inl ho.b : RB s o.bv o.b) ho.bl
    have e : stepD o d = (([], (appendD o.f o.b d).1), (appendD o.f o.b d).2) := by unfold stepD; rw [if_pos k0]
    simp only [k20_a, WK, vop, evAll, evOpt, evParts, vbuiltin, vun, vextract, Nat.reduceLT, Nat.reduceEqDiff, ↓reduceIte, reduceCtorEq, Nat.reduceAdd, Int.reduceLT, Int.reduceNeg, valloc_std, noSB, vhot, k0, eq_self, decide_true, oFA1, oFA5, l1, l5]
    refine KD.ret h1 ?_
    simp only [k20_a, WK, vop, evAll, evOpt, evParts, vbuiltin, vun, vextract, Nat.reduceLT, Nat.reduceEqDiff, ↓reduceIte, reduceCtorEq, Nat.reduceAdd, Int.reduceLT, Int.reduceNeg, valloc_std, noSB, vhot, e, nilEP]
    exact ⟨.nils, none, rfl, rfl, toσ _ _ h2, fun x hx => by cases hx⟩
  by_cases k1 : o.kind = 1
  · obtain ⟨p, σ', h1, rfl, h2⟩ := sync_sees (n := o.f) H0 hok hw
    have e : stepD o d = (([], (syncD o.f d).1), (syncD o.f d).2) := by unfold stepD; rw [if_neg k0, if_pos k1]
    have z : ¬ (1 : Int) = 0 := by decide
    simp only [k20_a, WK, vop, evAll, evOpt, evParts, vbuiltin, vun, vextract, Nat.reduceLT, Nat.reduceEqDiff, ↓reduceIte, reduceCtorEq, Nat.reduceAdd, Int.reduceLT, Int.reduceNeg, valloc_std, noSB, vhot, k1, z, eq_self, decide_true, decide_false, oFA1, l1]
    refine KD.ret h1 ?_
    simp only [k20_a, WK, vop, evAll, evOpt, evParts, vbuiltin, vun, vextract, Nat.reduceLT, Nat.reduceEqDiff, ↓reduceIte, reduceCtorEq, Nat.reduceAdd, Int.reduceLT, Int.reduceNeg, valloc_std, noSB, vhot, e, nilEP]
    exact ⟨.nils, none, rfl, rfl, toσ _ _ h2, fun x hx => by cases hx⟩
  by_cases k2 : o.kind = 2
  · obtain ⟨p, σ', h1, rfl, h2⟩ := trunc_sees (n := o.f) (k := o.n) H0 hok hw
    have e : stepD o d = (([], (truncD o.f o.n d).1), (truncD o.f o.n d).2) := by unfold stepD; rw [if_neg k0, if_neg k1, if_pos k2]
    simp only [k20_a, WK, vop, evAll, evOpt, evParts, vbuiltin, vun, vextract, Nat.reduceLT, Nat.reduceEqDiff, ↓reduceIte, reduceCtorEq, Nat.reduceAdd, Int.reduceLT, Int.reduceNeg, valloc_std, noSB, vhot, k0, k1, k2, (by decide : ¬ (2 : Int) = 0), (by decide : ¬ (2 : Int) = 1), eq_self, decide_true, decide_false, oFA1, oFA3, l1, l3]
    refine KD.ret h1 ?_
    simp only [k20_a, WK, vop, evAll, evOpt, evParts, vbuiltin, vun, vextract, Nat.reduceLT, Nat.reduceEqDiff, ↓reduceIte, reduceCtorEq, Nat.reduceAdd, Int.reduceLT, Int.reduceNeg, valloc_std, noSB, vhot, e, nilEP]
    exact ⟨.nils, none, rfl, rfl, toσ _ _ h2, fun x hx => by cases hx⟩
  by_cases k3 : o.kind = 3
  · obtain ⟨p, σ', h1, rfl, h2⟩ := rename_sees (n := o.f) (m := o.g) H0 hok hw
    have e : stepD o d = (([], (renameD o.f o.g d).1), (renameD o.f o.g d).2) := by unfold stepD; rw [if_neg k0, if_neg k1, if_neg k2, if_pos k3]
    simp only [k20_a, WK, vop, evAll, evOpt, evParts, vbuiltin, vun, vextract, Nat.reduceLT, Nat.reduceEqDiff, ↓reduceIte, reduceCtorEq, Nat.reduceAdd, Int.reduceLT, Int.reduceNeg, valloc_std, noSB, vhot, k3, (by decide : ¬ (3 : Int) = 0), (by decide : ¬ (3 : Int) = 1), (by decide : ¬ (3 : Int) = 2), eq_self, decide_true, decide_false, oFA1, oFA2, l1, l2]
    refine KD.ret h1 ?_
    simp only [k20_a, WK, vop, evAll, evOpt, evParts, vbuiltin, vun, vextract, Nat.reduceLT, Nat.reduceEqDiff, ↓reduceIte, reduceCtorEq, Nat.reduceAdd, Int.reduceLT, Int.reduceNeg, valloc_std, noSB, vhot, e, nilEP]
    exact ⟨.nils, none, rfl, rfl, toσ _ _ h2, fun x hx => by cases hx⟩
  by_cases k4 : o.kind = 4
  · obtain ⟨p, σ', h1, rfl, h2⟩ := remove_sees (n := o.f) H0 hok hw
    have e : stepD o d = (([], (removeD o.f d).1), (removeD o.f d).2) := by unfold stepD; rw [if_neg k0, if_neg k1, if_neg k2, if_neg k3, if_pos k4]
    simp only [k20_a, WK, vop, evAll, evOpt, evParts, vbuiltin, vun, vextract, Nat.reduceLT, Nat.reduceEqDiff, ↓reduceIte, reduceCtorEq, Nat.reduceAdd, Int.reduceLT, Int.reduceNeg, valloc_std, noSB, vhot, k4, (by decide : ¬ (4 : Int) = 0), (by decide : ¬ (4 : Int) = 1), (by decide : ¬ (4 : Int) = 2), (by decide : ¬ (4 : Int) = 3), eq_self, decide_true, decide_false, oFA1, oFA2, l1, l2]
    refine KD.ret h1 ?_
    simp only [k20_a, WK, vop, evAll, evOpt, evParts, vbuiltin, vun, vextract, Nat.reduceLT, Nat.reduceEqDiff, ↓reduceIte, reduceCtorEq, Nat.reduceAdd, Int.reduceLT, Int.reduceNeg, valloc_std, noSB, vhot, e, nilEP]
    exact ⟨.nils, none, rfl, rfl, toσ _ _ h2, fun x hx => by cases hx⟩
  by_cases k5 : o.kind = 5
  · obtain ⟨p, σ', h1, v, q, rfl, h2, h3, h4⟩ := read_sees (n := o.f) H0 hok
    have e : stepD o d = (((readD o.f d).2, (readD o.f d).1), d) := by unfold stepD; rw [if_neg k0, if_neg k1, if_neg k2, if_neg k3, if_neg k4, if_pos k5]
    simp only [k20_a, WK, vop, evAll, evOpt, evParts, vbuiltin, vun, vextract, Nat.reduceLT, Nat.reduceEqDiff, ↓reduceIte, reduceCtorEq, Nat.reduceAdd, Int.reduceLT, Int.reduceNeg, valloc_std, noSB, vhot, k5, (by decide : ¬ (5 : Int) = 0), (by decide : ¬ (5 : Int) = 1), (by decide : ¬ (5 : Int) = 2), (by decide : ¬ (5 : Int) = 3), (by decide : ¬ (5 : Int) = 4), eq_self, decide_true, decide_false, oFA1, oFA2, l1, l2]
    refine KD.ret h1 ?_
    simp only [k20_a, WK, vop, evAll, evOpt, evParts, vbuiltin, vun, vextract, Nat.reduceLT, Nat.reduceEqDiff, ↓reduceIte, reduceCtorEq, Nat.reduceAdd, Int.reduceLT, Int.reduceNeg, valloc_std, noSB, vhot, e, nilEP]
    exact ⟨v, q, rfl, h2, toσ _ _ ⟨fs, H0.keep h3 fun x _ => by simp, h3.mono (fun x hx => by cases hx), fun x hx => .inl hx⟩, fun x hx => by have := h4 x hx; omega⟩
  by_cases k6 : o.kind = 6
  · obtain ⟨σ', h1, h2⟩ := room_does H0 o.n
    have e : stepD o d = (([], 0), { d with room := o.n }) := by unfold stepD; rw [if_neg k0, if_neg k1, if_neg k2, if_neg k3, if_neg k4, if_neg k5, if_pos k6]
    simp only [k20_a, WK, vop, evAll, evOpt, evParts, vbuiltin, vun, vextract, Nat.reduceLT, Nat.reduceEqDiff, ↓reduceIte, reduceCtorEq, Nat.reduceAdd, Int.reduceLT, Int.reduceNeg, valloc_std, noSB, vhot, k6, (by decide : ¬ (6 : Int) = 0), (by decide : ¬ (6 : Int) = 1), (by decide : ¬ (6 : Int) = 2), (by decide : ¬ (6 : Int) = 3), (by decide : ¬ (6 : Int) = 4), (by decide : ¬ (6 : Int) = 5), eq_self, decide_true, decide_false, oFA3, l3]
    refine KD.ret h1 ?_
    simp only [k20_a, WK, vop, evAll, evOpt, evParts, vbuiltin, vun, vextract, Nat.reduceLT, Nat.reduceEqDiff, ↓reduceIte, reduceCtorEq, Nat.reduceAdd, Int.reduceLT, Int.reduceNeg, valloc_std, noSB, vhot, e, nilEP]
    exact ⟨.nils, none, rfl, rfl, toσ _ _ h2, fun x hx => by cases hx⟩
  by_cases k7 : o.kind = 7
  · obtain ⟨σ', h1, h2⟩ := arm_does H0 o.n o.k
    have e : stepD o d = (([], 0), armD o.n o.k d) := by unfold stepD; rw [if_neg k0, if_neg k1, if_neg k2, if_neg k3, if_neg k4, if_neg k5, if_neg k6, if_pos k7]
    simp only [k20_a, WK, vop, evAll, evOpt, evParts, vbuiltin, vun, vextract, Nat.reduceLT, Nat.reduceEqDiff, ↓reduceIte, reduceCtorEq, Nat.reduceAdd, Int.reduceLT, Int.reduceNeg, valloc_std, noSB, vhot, k7, (by decide : ¬ (7 : Int) = 0), (by decide : ¬ (7 : Int) = 1), (by decide : ¬ (7 : Int) = 2), (by decide : ¬ (7 : Int) = 3), (by decide : ¬ (7 : Int) = 4), (by decide : ¬ (7 : Int) = 5), (by decide : ¬ (7 : Int) = 6), eq_self, decide_true, decide_false, oFA3, oFA4, l3, l4]
    refine KD.ret h1 ?_
    simp only [k20_a, WK, vop, evAll, evOpt, evParts, vbuiltin, vun, vextract, Nat.reduceLT, Nat.reduceEqDiff, ↓reduceIte, reduceCtorEq, Nat.reduceAdd, Int.reduceLT, Int.reduceNeg, valloc_std, noSB, vhot, e, nilEP]
    exact ⟨.nils, none, rfl, rfl, toσ _ _ h2, fun x hx => by cases hx⟩
  by_cases k8 : o.kind = 8
  · obtain ⟨σ', fs', h1, h2⟩ := off_does H0 hok o.k
    have e : stepD o d = (([], 0), offD o.k d) := by unfold stepD; rw [if_neg k0, if_neg k1, if_neg k2, if_neg k3, if_neg k4, if_neg k5, if_neg k6, if_neg k7, if_pos k8]
    simp only [k20_a, WK, vop, evAll, evOpt, evParts, vbuiltin, vun, vextract, Nat.reduceLT, Nat.reduceEqDiff, ↓reduceIte, reduceCtorEq, Nat.reduceAdd, Int.reduceLT, Int.reduceNeg, valloc_std, noSB, vhot, k8, (by decide : ¬ (8 : Int) = 0), (by decide : ¬ (8 : Int) = 1), (by decide : ¬ (8 : Int) = 2), (by decide : ¬ (8 : Int) = 3), (by decide : ¬ (8 : Int) = 4), (by decide : ¬ (8 : Int) = 5), (by decide : ¬ (8 : Int) = 6), (by decide : ¬ (8 : Int) = 7), eq_self, decide_true, decide_false, oFA3, oFA4, l3, l4]
    refine KD.ret h1 ?_
    simp only [k20_a, WK, vop, evAll, evOpt, evParts, vbuiltin, vun, vextract, Nat.reduceLT, Nat.reduceEqDiff, ↓reduceIte, reduceCtorEq, Nat.reduceAdd, Int.reduceLT, Int.reduceNeg, valloc_std, noSB, vhot, e, nilEP]
    exact ⟨.nils, none, rfl, rfl, toσ _ _ ⟨fs', h2⟩, fun x hx => by cases hx⟩
  by_cases k9 : o.kind = 9
  · obtain ⟨σ', h1, h2⟩ := on_does H0
    have e : stepD o d = (([], 0), { d with on := true }) := by unfold stepD; rw [if_neg k0, if_neg k1, if_neg k2, if_neg k3, if_neg k4, if_neg k5, if_neg k6, if_neg k7, if_neg k8, if_pos k9]
    simp only [k20_a, WK, vop, evAll, evOpt, evParts, vbuiltin, vun, vextract, Nat.reduceLT, Nat.reduceEqDiff, ↓reduceIte, reduceCtorEq, Nat.reduceAdd, Int.reduceLT, Int.reduceNeg, valloc_std, noSB, vhot, k9, (by decide : ¬ (9 : Int) = 0), (by decide : ¬ (9 : Int) = 1), (by decide : ¬ (9 : Int) = 2), (by decide : ¬ (9 : Int) = 3), (by decide : ¬ (9 : Int) = 4), (by decide : ¬ (9 : Int) = 5), (by decide : ¬ (9 : Int) = 6), (by decide : ¬ (9 : Int) = 7), (by decide : ¬ (9 : Int) = 8), eq_self, decide_true, decide_false]
    refine KD.ret h1 ?_
    simp only [k20_a, WK, vop, evAll, evOpt, evParts, vbuiltin, vun, vextract, Nat.reduceLT, Nat.reduceEqDiff, ↓reduceIte, reduceCtorEq, Nat.reduceAdd, Int.reduceLT, Int.reduceNeg, valloc_std, noSB, vhot, e, nilEP]
    exact ⟨.nils, none, rfl, rfl, toσ _ _ h2, fun x hx => by cases hx⟩
  · have e : stepD o d = (([], 0), d) := by unfold stepD; rw [if_neg k0, if_neg k1, if_neg k2, if_neg k3, if_neg k4, if_neg k5, if_neg k6, if_neg k7, if_neg k8, if_neg k9]
    simp only [k20_a, WK, vop, evAll, evOpt, evParts, vbuiltin, vun, vextract, Nat.reduceLT, Nat.reduceEqDiff, ↓reduceIte, reduceCtorEq, Nat.reduceAdd, Int.reduceLT, Int.reduceNeg, valloc_std, noSB, vhot, k0, k1, k2, k3, k4, k5, k6, k7, k8, k9, decide_false, e, nilEP]
    exact ⟨.nils, none, rfl, rfl, toσ _ _ (Next.refl H0), fun x hx => by cases hx⟩
end Go.Proofs.Ytnbmfhnfmhgaaaa.Q

/- The law's helpers: says. -/
set_option linter.unusedVariables false
set_option linter.unusedSimpArgs false
set_option maxRecDepth 100000
namespace Go.Proofs.Ytnbmfhnfmhgaaaa.Q
open Go Go.RowKit Go.Proofs
/-- Only its head changes; the row stays. -/
theorem RefAt.headN {σ : St} {r : Nat} {d d2 : Dk} {q : Option Nat} {rs : List RE} (h : RefAt σ r d q rs) (hf : d2.files = d.files) {fv : V} (o : σ.objs[r]? = some (.cells [fv, .int .i64 d.room, .bool d.on, .int .i64 (d.writes : Nat), .int .i64 (d.armed : Nat), .int .i64 d.keep])) (hv : RRow σ.objs fv q rs) {σ' : St} (hs : σ' = ⟨σ.objs.set r (.cells [fv, .int .i64 d2.room, .bool d2.on, .int .i64 (d2.writes : Nat), .int .i64 (d2.armed : Nat), .int .i64 d2.keep]), σ.toks⟩) :
    RNext σ r q σ' d2 ∧ RefAt σ' r d2 q rs ∧ RRow σ'.objs fv q rs ∧ σ'.objs[r]? = some (.cells [fv, .int .i64 d2.room, .bool d2.on, .int .i64 (d2.writes : Nat), .int .i64 (d2.armed : Nat), .int .i64 d2.keep]) := by
  obtain ⟨D1, K1⟩ := h.head hf hv hs
  have K2 : KS [r] σ σ' := by rw [hs]; exact KS.set (.inl (by simp)) _
  exact ⟨⟨q, rs, D1, K1, fun x hx => .inl hx⟩, D1, hv.keep K2 fun z hz hz2 => h.ne (by rw [List.mem_singleton] at hz2; rw [← hz2]; exact hz), by rw [hs]; exact obj_set o⟩
theorem rarm_does {σ : St} {r : Nat} {d : Dk} {q : Option Nat} {rs : List RE} (h : RefAt σ r d q rs) (n k : Int) : ∃ σ', Does Try.prog prims 43 [.optr r 0, .int .i64 n, .int .i64 k] σ (.ret (.tuple [])) σ' ∧ RNext σ r q σ' (armD n k d) := by
  have key : ∃ p σ', Does Try.prog prims 43 [.optr r 0, .int .i64 n, .int .i64 k] σ p σ' ∧ (p = .ret (.tuple []) ∧ RNext σ r q σ' (armD n k d)) := by
    apply k43_is.does (by simp)
    obtain ⟨fv, o, hR⟩ := h.hd
    obtain ⟨s1, hs1⟩ : ∃ s1 : St, s1 = ⟨σ.objs.set r (.cells [fv, .int .i64 d.room, .bool d.on, .int .i64 (d.writes : Nat), .int .i64 n, .int .i64 d.keep]), σ.toks⟩ := ⟨_, rfl⟩
    have st1 : vstore Try.prog σ 3 (.optr r 4) (.int .i64 n) = some s1 := by rw [vstore_obj o S3 rfl (by simp), hs1]; rfl
    have o1 : s1.objs[r]? = some (.cells [fv, .int .i64 d.room, .bool d.on, .int .i64 (d.writes : Nat), .int .i64 n, .int .i64 d.keep]) := by rw [hs1]; exact obj_set o
    have hfin : ∀ s2 : St, s2 = ⟨σ.objs.set r (.cells [fv, .int .i64 (armD n k d).room, .bool (armD n k d).on, .int .i64 ((armD n k d).writes : Nat), .int .i64 ((armD n k d).armed : Nat), .int .i64 (armD n k d).keep]), σ.toks⟩ → RNext σ r q s2 (armD n k d) := fun s2 hs2 => (h.headN (d2 := armD n k d) rfl o hR hs2).1
    by_cases hn : n < 0
    · obtain ⟨s2, hs2⟩ : ∃ s2 : St, s2 = ⟨s1.objs.set r (.cells [fv, .int .i64 d.room, .bool d.on, .int .i64 (d.writes : Nat), .int .i64 0, .int .i64 d.keep]), s1.toks⟩ := ⟨_, rfl⟩
      have st2 : vstore Try.prog s1 3 (.optr r 4) (.int .i64 0) = some s2 := by rw [vstore_obj o1 S3 rfl (by simp), hs2]; rfl
      have o2 : s2.objs[r]? = some (.cells [fv, .int .i64 d.room, .bool d.on, .int .i64 (d.writes : Nat), .int .i64 0, .int .i64 d.keep]) := by rw [hs2]; exact obj_set o1
      have st3 := vstore_obj (P := Try.prog) (off := 5) (t := 3) (v := .int .i64 k) o2 S3 rfl (by simp)
      simp only [k43_a, WK, vop, evAll, evOpt, evParts, vbuiltin, vun, vextract, Nat.reduceLT, Nat.reduceEqDiff, ↓reduceIte, reduceCtorEq, Nat.reduceAdd, Int.reduceLT, Int.reduceNeg, valloc_std, noSB, vhot, List.getD_cons_zero, List.getD_cons_succ, rFA r 4 (by omega), rFA r 5 (by omega), st1, hn, decide_true, st2, st3]
      refine hfin _ ?_
      rw [hs2, hs1]
      have : n.toNat = 0 := by omega
      simp only [armD, this, List.set_set]
      rfl
    · have st2 := vstore_obj (P := Try.prog) (off := 5) (t := 3) (v := .int .i64 k) o1 S3 rfl (by simp)
      simp only [k43_a, WK, vop, evAll, evOpt, evParts, vbuiltin, vun, vextract, Nat.reduceLT, Nat.reduceEqDiff, ↓reduceIte, reduceCtorEq, Nat.reduceAdd, Int.reduceLT, Int.reduceNeg, valloc_std, noSB, vhot, List.getD_cons_zero, List.getD_cons_succ, rFA r 4 (by omega), rFA r 5 (by omega), st1, hn, decide_false, st2]
      refine hfin _ ?_
      rw [hs1]
      have : ((n.toNat : Nat) : Int) = n := by omega
      simp only [armD, this, List.set_set]
      rfl
  obtain ⟨p, σ', h1, rfl, h2⟩ := key
  exact ⟨σ', h1, h2⟩
theorem says_sees {σ : St} {r : Nat} {d : Dk} {q : Option Nat} {rs : List RE} {o : Opn} (h : RefAt σ r d q rs) (hok : d.Ok) (ho : o.Ok) (hw : d.writes < 4611686018427387904) :
    ∃ p σ', Does Try.prog prims 21 [.optr r 0, .agg o.cells] σ p σ' ∧ ∃ v, p = .ret (.tuple [v, .int .i64 ((stepD o d).1.2 : Nat)]) ∧ BtsV v (stepD o d).1.1 ∧ RNext σ r q σ' (stepD o d).2 := by
  apply k21_is.does (by simp)
  obtain ⟨s, hs⟩ : ∃ s : St, s = ⟨σ.objs ++ [.cells o.cells], σ.toks⟩ := ⟨_, rfl⟩
  have hc : vcells (.agg o.cells) = o.cells := rfl
  have K00 : KS [] σ s := by rw [hs]; exact KS.push _ _ _
  have K0 : KS (r :: q.toList) σ s := K00.mono fun x hx => by cases hx
  have H0 : RefAt s r d q rs := h.keep K00 fun x _ => by simp
  have ob : s.objs[σ.objs.length]? = some (.cells o.cells) := by rw [hs]; exact push_new _ _
  obtain ⟨l0, l1, l2, l3, l4, l5⟩ := OpAt ob
  obtain ⟨fv, o0, hR0⟩ := H0.hd
  have toσ : ∀ (u : St) (d' : Dk), RNext s r q u d' → RNext σ r q u d' := fun u d' hN => RNext.trans K0 (fun x hx => .inl hx) hN
  simp only [k21_a, WK, vop, evAll, evOpt, evParts, vbuiltin, vun, vextract, Nat.reduceLT, Nat.reduceEqDiff, ↓reduceIte, reduceCtorEq, Nat.reduceAdd, Int.reduceLT, Int.reduceNeg, valloc_std, noSB, vhot, List.getD_cons_zero, List.getD_cons_succ, nilEP, vbox, hc, ← hs, oFA0, oFA1, oFA2, oFA3, oFA4, oFA5, l0]
  by_cases k0 : o.kind = 0
  · obtain ⟨p, σ', h1, rfl, h2⟩ := rappend_sees (n := o.f) H0 hok hw (.inl ho.b : RB s o.bv o.b) ho.bl
    have e : stepD o d = (([], (appendD o.f o.b d).1), (appendD o.f o.b d).2) := by unfold stepD; rw [if_pos k0]
    simp only [k21_a, WK, vop, evAll, evOpt, evParts, vbuiltin, vun, vextract, Nat.reduceLT, Nat.reduceEqDiff, ↓reduceIte, reduceCtorEq, Nat.reduceAdd, Int.reduceLT, Int.reduceNeg, valloc_std, noSB, vhot, k0, eq_self, decide_true, decide_false, oFA1, oFA5, l1, l5]
    refine KD.ret h1 ?_
    simp only [k21_a, WK, vop, evAll, evOpt, evParts, vbuiltin, vun, vextract, Nat.reduceLT, Nat.reduceEqDiff, ↓reduceIte, reduceCtorEq, Nat.reduceAdd, Int.reduceLT, Int.reduceNeg, valloc_std, noSB, vhot, e, nilEP]
    exact ⟨.nils, rfl, .inl ⟨rfl, rfl⟩, toσ _ _ h2⟩
  by_cases k1 : o.kind = 1
  · obtain ⟨p, σ', h1, rfl, h2⟩ := rsync_sees (n := o.f) H0 hok hw
    have e : stepD o d = (([], (syncD o.f d).1), (syncD o.f d).2) := by unfold stepD; rw [if_neg k0, if_pos k1]
    simp only [k21_a, WK, vop, evAll, evOpt, evParts, vbuiltin, vun, vextract, Nat.reduceLT, Nat.reduceEqDiff, ↓reduceIte, reduceCtorEq, Nat.reduceAdd, Int.reduceLT, Int.reduceNeg, valloc_std, noSB, vhot, k1, (by decide : ¬ (1 : Int) = 0), eq_self, decide_true, decide_false, oFA1, l1]
    refine KD.ret h1 ?_
    simp only [k21_a, WK, vop, evAll, evOpt, evParts, vbuiltin, vun, vextract, Nat.reduceLT, Nat.reduceEqDiff, ↓reduceIte, reduceCtorEq, Nat.reduceAdd, Int.reduceLT, Int.reduceNeg, valloc_std, noSB, vhot, e, nilEP]
    exact ⟨.nils, rfl, .inl ⟨rfl, rfl⟩, toσ _ _ h2⟩
  by_cases k2 : o.kind = 2
  · obtain ⟨p, σ', h1, rfl, h2⟩ := rtrunc_sees (n := o.f) (k := o.n) H0 hok hw
    have e : stepD o d = (([], (truncD o.f o.n d).1), (truncD o.f o.n d).2) := by unfold stepD; rw [if_neg k0, if_neg k1, if_pos k2]
    simp only [k21_a, WK, vop, evAll, evOpt, evParts, vbuiltin, vun, vextract, Nat.reduceLT, Nat.reduceEqDiff, ↓reduceIte, reduceCtorEq, Nat.reduceAdd, Int.reduceLT, Int.reduceNeg, valloc_std, noSB, vhot, k2, (by decide : ¬ (2 : Int) = 0), (by decide : ¬ (2 : Int) = 1), eq_self, decide_true, decide_false, oFA1, oFA3, l1, l3]
    refine KD.ret h1 ?_
    simp only [k21_a, WK, vop, evAll, evOpt, evParts, vbuiltin, vun, vextract, Nat.reduceLT, Nat.reduceEqDiff, ↓reduceIte, reduceCtorEq, Nat.reduceAdd, Int.reduceLT, Int.reduceNeg, valloc_std, noSB, vhot, e, nilEP]
    exact ⟨.nils, rfl, .inl ⟨rfl, rfl⟩, toσ _ _ h2⟩
  by_cases k3 : o.kind = 3
  · obtain ⟨p, σ', h1, rfl, h2⟩ := rrename_sees (n := o.f) (m := o.g) H0 hok hw
    have e : stepD o d = (([], (renameD o.f o.g d).1), (renameD o.f o.g d).2) := by unfold stepD; rw [if_neg k0, if_neg k1, if_neg k2, if_pos k3]
    simp only [k21_a, WK, vop, evAll, evOpt, evParts, vbuiltin, vun, vextract, Nat.reduceLT, Nat.reduceEqDiff, ↓reduceIte, reduceCtorEq, Nat.reduceAdd, Int.reduceLT, Int.reduceNeg, valloc_std, noSB, vhot, k3, (by decide : ¬ (3 : Int) = 0), (by decide : ¬ (3 : Int) = 1), (by decide : ¬ (3 : Int) = 2), eq_self, decide_true, decide_false, oFA1, oFA2, l1, l2]
    refine KD.ret h1 ?_
    simp only [k21_a, WK, vop, evAll, evOpt, evParts, vbuiltin, vun, vextract, Nat.reduceLT, Nat.reduceEqDiff, ↓reduceIte, reduceCtorEq, Nat.reduceAdd, Int.reduceLT, Int.reduceNeg, valloc_std, noSB, vhot, e, nilEP]
    exact ⟨.nils, rfl, .inl ⟨rfl, rfl⟩, toσ _ _ h2⟩
  by_cases k4 : o.kind = 4
  · obtain ⟨p, σ', h1, rfl, h2⟩ := rremove_sees (n := o.f) H0 hok hw
    have e : stepD o d = (([], (removeD o.f d).1), (removeD o.f d).2) := by unfold stepD; rw [if_neg k0, if_neg k1, if_neg k2, if_neg k3, if_pos k4]
    simp only [k21_a, WK, vop, evAll, evOpt, evParts, vbuiltin, vun, vextract, Nat.reduceLT, Nat.reduceEqDiff, ↓reduceIte, reduceCtorEq, Nat.reduceAdd, Int.reduceLT, Int.reduceNeg, valloc_std, noSB, vhot, k4, (by decide : ¬ (4 : Int) = 0), (by decide : ¬ (4 : Int) = 1), (by decide : ¬ (4 : Int) = 2), (by decide : ¬ (4 : Int) = 3), eq_self, decide_true, decide_false, oFA1, l1]
    refine KD.ret h1 ?_
    simp only [k21_a, WK, vop, evAll, evOpt, evParts, vbuiltin, vun, vextract, Nat.reduceLT, Nat.reduceEqDiff, ↓reduceIte, reduceCtorEq, Nat.reduceAdd, Int.reduceLT, Int.reduceNeg, valloc_std, noSB, vhot, e, nilEP]
    exact ⟨.nils, rfl, .inl ⟨rfl, rfl⟩, toσ _ _ h2⟩
  by_cases k5 : o.kind = 5
  · obtain ⟨p, σ', h1, v, rfl, h2, h3⟩ := rread_sees (n := o.f) H0 hok
    have e : stepD o d = (((readD o.f d).2, (readD o.f d).1), d) := by unfold stepD; rw [if_neg k0, if_neg k1, if_neg k2, if_neg k3, if_neg k4, if_pos k5]
    simp only [k21_a, WK, vop, evAll, evOpt, evParts, vbuiltin, vun, vextract, Nat.reduceLT, Nat.reduceEqDiff, ↓reduceIte, reduceCtorEq, Nat.reduceAdd, Int.reduceLT, Int.reduceNeg, valloc_std, noSB, vhot, k5, (by decide : ¬ (5 : Int) = 0), (by decide : ¬ (5 : Int) = 1), (by decide : ¬ (5 : Int) = 2), (by decide : ¬ (5 : Int) = 3), (by decide : ¬ (5 : Int) = 4), eq_self, decide_true, decide_false, oFA1, l1]
    refine KD.ret h1 ?_
    simp only [k21_a, WK, vop, evAll, evOpt, evParts, vbuiltin, vun, vextract, Nat.reduceLT, Nat.reduceEqDiff, ↓reduceIte, reduceCtorEq, Nat.reduceAdd, Int.reduceLT, Int.reduceNeg, valloc_std, noSB, vhot, e, nilEP]
    exact ⟨v, rfl, h2, toσ _ _ (RNext.only H0 h3)⟩
  by_cases k6 : o.kind = 6
  · have e : stepD o d = (([], 0), { d with room := o.n }) := by unfold stepD; rw [if_neg k0, if_neg k1, if_neg k2, if_neg k3, if_neg k4, if_neg k5, if_pos k6]
    obtain ⟨s1, hs1⟩ : ∃ s1 : St, s1 = ⟨s.objs.set r (.cells [fv, .int .i64 o.n, .bool d.on, .int .i64 (d.writes : Nat), .int .i64 (d.armed : Nat), .int .i64 d.keep]), s.toks⟩ := ⟨_, rfl⟩
    have st1 : vstore Try.prog s 3 (.optr r 1) (.int .i64 o.n) = some s1 := by rw [vstore_obj o0 S3 rfl (by simp), hs1]; rfl
    have h2 := (H0.headN (d2 := { d with room := o.n }) rfl o0 hR0 hs1).1
    simp only [k21_a, WK, vop, evAll, evOpt, evParts, vbuiltin, vun, vextract, Nat.reduceLT, Nat.reduceEqDiff, ↓reduceIte, reduceCtorEq, Nat.reduceAdd, Int.reduceLT, Int.reduceNeg, valloc_std, noSB, vhot, k6, (by decide : ¬ (6 : Int) = 0), (by decide : ¬ (6 : Int) = 1), (by decide : ¬ (6 : Int) = 2), (by decide : ¬ (6 : Int) = 3), (by decide : ¬ (6 : Int) = 4), (by decide : ¬ (6 : Int) = 5), eq_self, decide_true, decide_false, oFA3, l3, rFA r 1 (by omega), st1, e, nilEP]
    exact ⟨.nils, rfl, .inl ⟨rfl, rfl⟩, toσ _ _ h2⟩
  by_cases k7 : o.kind = 7
  · obtain ⟨σ', h1, h2⟩ := rarm_does H0 o.n o.k
    have e : stepD o d = (([], 0), armD o.n o.k d) := by unfold stepD; rw [if_neg k0, if_neg k1, if_neg k2, if_neg k3, if_neg k4, if_neg k5, if_neg k6, if_pos k7]
    simp only [k21_a, WK, vop, evAll, evOpt, evParts, vbuiltin, vun, vextract, Nat.reduceLT, Nat.reduceEqDiff, ↓reduceIte, reduceCtorEq, Nat.reduceAdd, Int.reduceLT, Int.reduceNeg, valloc_std, noSB, vhot, k7, (by decide : ¬ (7 : Int) = 0), (by decide : ¬ (7 : Int) = 1), (by decide : ¬ (7 : Int) = 2), (by decide : ¬ (7 : Int) = 3), (by decide : ¬ (7 : Int) = 4), (by decide : ¬ (7 : Int) = 5), (by decide : ¬ (7 : Int) = 6), eq_self, decide_true, decide_false, oFA3, oFA4, l3, l4]
    refine KD.ret h1 ?_
    simp only [k21_a, WK, vop, evAll, evOpt, evParts, vbuiltin, vun, vextract, Nat.reduceLT, Nat.reduceEqDiff, ↓reduceIte, reduceCtorEq, Nat.reduceAdd, Int.reduceLT, Int.reduceNeg, valloc_std, noSB, vhot, e, nilEP]
    exact ⟨.nils, rfl, .inl ⟨rfl, rfl⟩, toσ _ _ h2⟩
  by_cases k8 : o.kind = 8
  · obtain ⟨σ', h1, h2⟩ := roff_does' o.k H0 hok
    have e : stepD o d = (([], 0), offD o.k d) := by unfold stepD; rw [if_neg k0, if_neg k1, if_neg k2, if_neg k3, if_neg k4, if_neg k5, if_neg k6, if_neg k7, if_pos k8]
    simp only [k21_a, WK, vop, evAll, evOpt, evParts, vbuiltin, vun, vextract, Nat.reduceLT, Nat.reduceEqDiff, ↓reduceIte, reduceCtorEq, Nat.reduceAdd, Int.reduceLT, Int.reduceNeg, valloc_std, noSB, vhot, k8, (by decide : ¬ (8 : Int) = 0), (by decide : ¬ (8 : Int) = 1), (by decide : ¬ (8 : Int) = 2), (by decide : ¬ (8 : Int) = 3), (by decide : ¬ (8 : Int) = 4), (by decide : ¬ (8 : Int) = 5), (by decide : ¬ (8 : Int) = 6), (by decide : ¬ (8 : Int) = 7), eq_self, decide_true, decide_false, oFA4, l4]
    refine KD.ret h1 ?_
    simp only [k21_a, WK, vop, evAll, evOpt, evParts, vbuiltin, vun, vextract, Nat.reduceLT, Nat.reduceEqDiff, ↓reduceIte, reduceCtorEq, Nat.reduceAdd, Int.reduceLT, Int.reduceNeg, valloc_std, noSB, vhot, e, nilEP]
    exact ⟨.nils, rfl, .inl ⟨rfl, rfl⟩, toσ _ _ h2⟩
  by_cases k9 : o.kind = 9
  · have e : stepD o d = (([], 0), { d with on := true }) := by unfold stepD; rw [if_neg k0, if_neg k1, if_neg k2, if_neg k3, if_neg k4, if_neg k5, if_neg k6, if_neg k7, if_neg k8, if_pos k9]
    obtain ⟨s1, hs1⟩ : ∃ s1 : St, s1 = ⟨s.objs.set r (.cells [fv, .int .i64 d.room, .bool true, .int .i64 (d.writes : Nat), .int .i64 (d.armed : Nat), .int .i64 d.keep]), s.toks⟩ := ⟨_, rfl⟩
    have st1 : vstore Try.prog s 4 (.optr r 2) (.bool true) = some s1 := by rw [vstore_obj o0 S4 rfl (by simp), hs1]; rfl
    have h2 := (H0.headN (d2 := { d with on := true }) rfl o0 hR0 hs1).1
    simp only [k21_a, WK, vop, evAll, evOpt, evParts, vbuiltin, vun, vextract, Nat.reduceLT, Nat.reduceEqDiff, ↓reduceIte, reduceCtorEq, Nat.reduceAdd, Int.reduceLT, Int.reduceNeg, valloc_std, noSB, vhot, k9, (by decide : ¬ (9 : Int) = 0), (by decide : ¬ (9 : Int) = 1), (by decide : ¬ (9 : Int) = 2), (by decide : ¬ (9 : Int) = 3), (by decide : ¬ (9 : Int) = 4), (by decide : ¬ (9 : Int) = 5), (by decide : ¬ (9 : Int) = 6), (by decide : ¬ (9 : Int) = 7), (by decide : ¬ (9 : Int) = 8), eq_self, decide_true, decide_false, rFA r 2 (by omega), st1, e, nilEP]
    exact ⟨.nils, rfl, .inl ⟨rfl, rfl⟩, toσ _ _ h2⟩
  · have e : stepD o d = (([], 0), d) := by unfold stepD; rw [if_neg k0, if_neg k1, if_neg k2, if_neg k3, if_neg k4, if_neg k5, if_neg k6, if_neg k7, if_neg k8, if_neg k9]
    simp only [k21_a, WK, vop, evAll, evOpt, evParts, vbuiltin, vun, vextract, Nat.reduceLT, Nat.reduceEqDiff, ↓reduceIte, reduceCtorEq, Nat.reduceAdd, Int.reduceLT, Int.reduceNeg, valloc_std, noSB, vhot, k0, k1, k2, k3, k4, k5, k6, k7, k8, k9, decide_false, e, nilEP]
    exact ⟨.nils, rfl, .inl ⟨rfl, rfl⟩, toσ _ _ (RNext.refl H0)⟩
end Go.Proofs.Ytnbmfhnfmhgaaaa.Q

/- The law's helpers: Names of the document's, same, long, alike. -/
set_option linter.unusedVariables false
set_option linter.unusedSimpArgs false
set_option maxRecDepth 100000
namespace Go.Proofs.Ytnbmfhnfmhgaaaa.Q
open Go Go.RowKit Go.Proofs
theorem TSS : Try.prog.underlying 31 = some (.slice 9) := by kernel_rfl
theorem SS9 : sizeT Try.prog 9 = some 1 := by kernel_rfl
theorem SR : RowT Try.prog 31 9 1 16 := ⟨TSS, by kernel_rfl, ⟨_, (by kernel_rfl : zeroT Try.prog 9 = some (.str [])), rfl⟩, by kernel_rfl, by omega⟩
theorem sb1 (s : List UInt8) : vbuildSlice Try.prog 31 1 [(0, .str s)] = some (.slice .exact 1 [.str s] 1) := by kernel_rfl
theorem rnames_sees {σ : St} {r : Nat} {d : Dk} {q : Option Nat} {rs : List RE} (h : RefAt σ r d q rs) (hok : d.Ok) :
    ∃ p σ', Does Try.prog prims 45 [.optr r 0] σ p σ' ∧ ∃ v, p = .ret v ∧ RowV 1 v ((namesD d).map V.str) (namesD d).length ∧ KS [] σ σ' := by
  apply k45_is.does (by simp)
  obtain ⟨hfew, hfl⟩ := h.few hok
  obtain ⟨fv, o, hR⟩ := h.hd
  have lf : vload Try.prog σ.objs 69 (.optr r 0) = some fv := by rw [vload_obj o GFS]; rfl
  have hnm : namesD d = if d.on = true then rs.map (fun x => x.f.name) else [] := by unfold namesD; rw [← h.fl, List.map_map]; rfl
  simp only [k45_a, WK, vop, evAll, evOpt, evParts, vbuiltin, vun, vextract, Nat.reduceLT, Nat.reduceEqDiff, ↓reduceIte, reduceCtorEq, Nat.reduceAdd, Int.reduceLT, Int.reduceNeg, valloc_std, noSB, vhot, List.getD_cons_zero, List.getD_cons_succ, nilEP, rFA r 0 (by omega), lf, hR.len]
  refine Ev.loopF (fun (i : Nat) e s => e 11 = .int .i64 (i : Nat) ∧ i ≤ rs.length ∧ KS [] σ s ∧ OwnR 9 1 σ.toks.length s (e 3) ((if d.on = true then (rs.take i).map (fun x => x.f.name) else []).map V.str) (if d.on = true then (rs.take i).map (fun x => x.f.name) else []).length) (fun i => rs.length - i) 0 ⟨by simp [upd_some], Nat.zero_le _, KS.refl _ _, by cases d.on <;> simpa [upd_some] using (OwnR.nil (e := 9) (k := 1) (m := σ.toks.length) (σ := σ))⟩ ?_
  rintro i e s ⟨h11, hi, hk, h3⟩ hf
  have h0 : e 0 = .optr r 0 := (hf 0 (by decide)).trans (by simp [upd_some])
  have h9 : e 9 = fv := (hf 9 (by decide)).trans (by simp [upd_some])
  have h10 : e 10 = .int .i64 (rs.length : Nat) := (hf 10 (by decide)).trans (by simp [upd_some])
  clear hf
  by_cases hlt : i < rs.length
  · have hlt' : (i : Int) < rs.length := by omega
    have hwi : IntKind.i64.wrap ((i : Int) + 1) = ((i + 1 : Nat) : Int) := by rw [show ((i : Int) + 1) = ((i + 1 : Nat) : Int) from by omega]; exact wrap_nat (by omega)
    obtain ⟨ro, _, _, ha, hl⟩ := (hR.keep hk fun x _ => by simp).at hlt
    have hx := h.ok rs[i] (List.getElem_mem hlt)
    obtain ⟨g, hg⟩ : ∃ g, g = rs[i] := ⟨_, rfl⟩
    rw [← hg] at hl hx
    obtain ⟨s1, hs1⟩ : ∃ s1 : St, s1 = ⟨s.objs ++ [.cells g.cells], s.toks⟩ := ⟨_, rfl⟩
    have hst := fileNew (σ := s) hx
    rw [← hs1] at hst
    have K1 : KS [] s s1 := by rw [hs1]; exact KS.push _ _ _
    have ho : s1.objs[s.objs.length]? = some (.cells g.cells) := by rw [hs1]; exact push_new _ _
    have hz : vcells (V.agg [.str [], .nils, .nils]) = [.str [], .nils, .nils] := rfl
    have kσ := hk.trans' K1
    have lo : vload Try.prog s1.objs 4 (.optr r 2) = some (.bool d.on) := by rw [vload_obj (kσ.ko _ _ (by simp) o) G4]; rfl
    have ln : vload Try.prog s1.objs 9 (.optr s.objs.length 0) = some (.str g.f.name) := by rw [vload_obj ho G9]; rfl
    cases hon : d.on with
    | false =>
      rw [hon] at lo h3
      simp only [k45_a, WK, vop, evAll, evOpt, evParts, vbuiltin, vun, vextract, Nat.reduceLT, Nat.reduceEqDiff, ↓reduceIte, reduceCtorEq, Nat.reduceAdd, Int.reduceLT, Int.reduceNeg, valloc_std, noSB, vhot, h11, h10, h9, h0, hlt', decide_true, ha, hl, ZFi, vbox, hz, hst, rFA r 2 (by omega), lo, hwi]
      exact ⟨i + 1, ⟨by simp [upd_some], by omega, kσ, by simpa [upd_some] using h3.keep K1.tk⟩, by omega⟩
    | true =>
      rw [hon] at lo h3
      simp only [if_true, List.length_map, List.length_take, Nat.min_eq_left (Nat.le_of_lt hlt)] at h3
      obtain ⟨v', s2, a1, a2, a3, a4⟩ := (h3.keep K1.tk).append SR rfl kσ.keep (t2 := 31) (y := .slice .exact 1 [.str g.f.name] 1) (ys := [.str g.f.name]) (l := 1) (by simp [vnews, TSS]) rfl rfl (by omega) (by omega)
      simp only [k45_a, WK, vop, evAll, evOpt, evParts, vbuiltin, vun, vextract, Nat.reduceLT, Nat.reduceEqDiff, ↓reduceIte, reduceCtorEq, Nat.reduceAdd, Int.reduceLT, Int.reduceNeg, valloc_std, noSB, vhot, h11, h10, h9, h0, hlt', decide_true, ha, hl, ZFi, vbox, hz, hst, rFA r 2 (by omega), lo, fFA0, ln, sb1, a1, hwi]
      refine ⟨i + 1, ⟨by simp [upd_some], by omega, KS.ofKeep a3, ?_⟩, by omega⟩
      simp only [upd_some, if_true, List.length_map, List.length_take, Nat.min_eq_left (show i + 1 ≤ rs.length from hlt)]
      rw [List.take_succ_eq_append_getElem hlt, List.map_append, List.map_append, ← hg]
      simpa [upd_some] using a2
  · have hlt' : ¬ (i : Int) < rs.length := by omega
    have hall : rs.take i = rs := List.take_of_length_le (by omega)
    rw [hall, ← hnm] at h3
    simp only [k45_a, WK, vop, evAll, evOpt, evParts, vbuiltin, vun, vextract, Nat.reduceLT, Nat.reduceEqDiff, ↓reduceIte, reduceCtorEq, Nat.reduceAdd, Int.reduceLT, Int.reduceNeg, valloc_std, noSB, vhot, h11, h10, hlt', decide_false]
    exact ⟨_, rfl, h3.row, hk⟩
theorem same3_does {v w : V} {xs bs : List UInt8} {σ : St} (hv : RB σ v xs) (hw : RB σ w bs) (hla : xs.length ≤ 140737488355328) : Does Try.prog prims 14 [v, w] σ (.ret (.bool (decide (xs = bs)))) σ := by
  apply k14_is.ret (by simp)
  by_cases hlen : xs.length = bs.length
  · have hne : decide ((xs.length : Int) = bs.length) = true := by simp [hlen]
    simp only [k14_a, WK, vop, evAll, evOpt, evParts, vbuiltin, vun, vextract, Nat.reduceLT, Nat.reduceEqDiff, ↓reduceIte, reduceCtorEq, Nat.reduceAdd, Int.reduceLT, Int.reduceNeg, valloc_std, noSB, vhot, List.getD_cons_zero, List.getD_cons_succ, hv.len, hw.len, hne]
    refine Ev.loopF (fun i e σ' => σ' = σ ∧ e 13 = .int .i64 (i : Nat) ∧ i ≤ xs.length ∧ xs.take i = bs.take i) (fun i => xs.length - i) 0 ⟨rfl, by simp [upd_some], by simp, by simp⟩ ?_
    rintro i e σ' ⟨rfl, h13, hi, htk⟩ hf
    have h0 : e 0 = v := (hf 0 (by decide)).trans (by simp [upd_some])
    have h1 : e 1 = w := (hf 1 (by decide)).trans (by simp [upd_some])
    have h12 : e 12 = .int .i64 xs.length := (hf 12 (by decide)).trans (by simp [upd_some])
    by_cases hlt : i < xs.length
    · have hlt' : (i : Int) < xs.length := by omega
      have hltb : i < bs.length := by omega
      have hwi : IntKind.i64.wrap ((i : Int) + 1) = ((i + 1 : Nat) : Int) := by rw [show ((i : Int) + 1) = ((i + 1 : Nat) : Int) from by omega]; exact wrap_nat (by omega)
      obtain ⟨p, hp, hlp⟩ := hv.at hlt
      obtain ⟨q, hq, hlq⟩ := hw.at hltb
      by_cases he : xs[i] = bs[i]
      · have hd : decide (((xs[i].toNat : Nat) : Int) = bs[i].toNat) = true := by simp [he]
        simp only [k14_a, WK, vop, evAll, evOpt, evParts, vbuiltin, vun, vextract, Nat.reduceLT, Nat.reduceEqDiff, ↓reduceIte, reduceCtorEq, Nat.reduceAdd, Int.reduceLT, Int.reduceNeg, valloc_std, noSB, vhot, h0, h1, h12, h13, hlt', hp, hq, hlp, hlq, hd, hwi]
        refine ⟨i + 1, ⟨rfl, hlt, ?_⟩, by omega⟩
        rw [List.take_succ_eq_append_getElem hlt, List.take_succ_eq_append_getElem hltb, htk, he]
      · have hd : decide (((xs[i].toNat : Nat) : Int) = bs[i].toNat) = false := by
          simp only [decide_eq_false_iff_not]
          intro h
          exact he (UInt8.toNat_inj.1 (by omega))
        simp only [k14_a, WK, vop, evAll, evOpt, evParts, vbuiltin, vun, vextract, Nat.reduceLT, Nat.reduceEqDiff, ↓reduceIte, reduceCtorEq, Nat.reduceAdd, Int.reduceLT, Int.reduceNeg, valloc_std, noSB, vhot, h0, h1, h12, h13, hlt', hp, hq, hlp, hlq, hd, hwi]
        have : xs ≠ bs := by rintro rfl; exact he rfl
        simp [this]
    · have hlt' : ¬ (i : Int) < xs.length := by omega
      simp only [k14_a, WK, vop, evAll, evOpt, evParts, vbuiltin, vun, vextract, Nat.reduceLT, Nat.reduceEqDiff, ↓reduceIte, reduceCtorEq, Nat.reduceAdd, Int.reduceLT, Int.reduceNeg, valloc_std, noSB, vhot, h0, h1, h12, h13, hlt']
      have : xs = bs := by
        rw [List.take_of_length_le (by omega), List.take_of_length_le (by omega)] at htk
        exact htk
      simp [this]
  · have hne : decide ((xs.length : Int) = bs.length) = false := by simp; omega
    simp only [k14_a, WK, vop, evAll, evOpt, evParts, vbuiltin, vun, vextract, Nat.reduceLT, Nat.reduceEqDiff, ↓reduceIte, reduceCtorEq, Nat.reduceAdd, Int.reduceLT, Int.reduceNeg, valloc_std, noSB, vhot, List.getD_cons_zero, List.getD_cons_succ, hv.len, hw.len, hne]
    have : xs ≠ bs := by rintro rfl; exact hlen rfl
    simp [this]
/-- A row of words, written or not. -/
theorem row_strs {σ : St} {v : V} {q : Option Nat} {l : List (List UInt8)} (h : rowOf σ.objs v = some (q, l.map V.str)) : RowS σ 1 v (l.map V.str) l.length := by
  rcases rowOf_spec h with ⟨rfl, rfl, h0⟩ | ⟨r, full, rfl, rfl, hr, hl, hc⟩
  · refine .inl ⟨by simp, .inl ⟨rfl, ?_⟩⟩
    have := congrArg List.length h0
    simpa using this
  · simp only [List.length_map] at hl hc ⊢
    exact .inr ⟨by simp, r, 0, full, rfl, hr, by omega, by rw [List.drop_zero, Nat.mul_one]; exact hc.symm⟩
theorem RowS.strAt {σ : St} {v : V} {l : List (List UInt8)} (h : RowS σ 1 v (l.map V.str) l.length) {i : Nat} (hi : i < l.length) : ∃ p, vindexAddr Try.prog 31 v (.int .i64 (i : Int)) = some p ∧ ∀ σ', KS [] σ σ' → vload Try.prog σ'.objs 9 p = some (.str l[i]) := by
  obtain ⟨p, h1, h2⟩ := h.at TSS SS9 (by omega) (i := i) (by simpa using hi) (kk := .i64)
  refine ⟨p, h1, fun σ' hk => ?_⟩
  have e : ((l.map V.str).drop (i * 1)).take 1 = [V.str l[i]] := by
    rw [Nat.mul_one, List.drop_eq_getElem_cons (by simpa using hi)]
    simp
  rw [e] at h2
  exact (h2.keep hk.keep).load1 G9
end Go.Proofs.Ytnbmfhnfmhgaaaa.Q

/- The law's helpers: alike, long. -/
set_option linter.unusedVariables false
set_option linter.unusedSimpArgs false
set_option maxRecDepth 100000
namespace Go.Proofs.Ytnbmfhnfmhgaaaa.Q
open Go Go.RowKit Go.Proofs
theorem KS.nils {S : List Nat} {σ σ' : St} (h : KS [] σ σ') : KS S σ σ' := h.mono fun x hx => by cases hx
theorem DiskAt.pushes {σ σ' : St} {r rm : Nat} {d : Dk} {fs : List Ent} (h : DiskAt σ r d rm fs) (hk : KS [] σ σ') : DiskAt σ' r d rm fs := h.keep hk fun x _ => by simp
theorem RefAt.pushes {σ σ' : St} {r : Nat} {d : Dk} {q : Option Nat} {rs : List RE} (h : RefAt σ r d q rs) (hk : KS [] σ σ') : RefAt σ' r d q rs := h.keep hk fun x _ => by simp
theorem eqlB (t : TypeId) (ht : t = 4) (a b : Operand) (x y : Bool) : vbin Try.prog .eql t a b (.bool x) (.bool y) = some (.bool (x == y)) := by
  subst ht
  cases x <;> cases y <;> kernel_rfl
theorem readD_len {d : Dk} (hok : d.Ok) (n : List UInt8) : (readD n d).2.length ≤ 1048576 := by
  unfold readD
  split
  · simp
  · rename_i ht
    have ht0 : thereD d n = 0 := Classical.byContradiction ht
    obtain ⟨hr, f, hg⟩ := thereD_zero ht0
    have := (hok.get hg).2.2.2
    simp only [hg, Option.getD_some, List.length_append, Fl.len] at this ⊢
    exact this
theorem namesD_len {d : Dk} (hok : d.Ok) : (namesD d).length ≤ 16 := by
  have := hok.few
  unfold namesD
  split <;> simp
  omega
theorem alike_sees {σ : St} {r rm r2 : Nat} {d : Dk} {fs : List Ent} {q : Option Nat} {rs : List RE} (h : DiskAt σ r d rm fs) (h2 : RefAt σ r2 d q rs) (hok : d.Ok) :
    ∃ p σ', Does Try.prog prims 22 [.optr r 0, .optr r2 0] σ p σ' ∧ (p = .ret (.bool true) ∧ KS [] σ σ') := by
  apply k22_is.does (by simp)
  obtain ⟨p1, s1, d1, v5, q5, rfl, n5, K1, I1⟩ := names_sees h hok
  obtain ⟨p2, s2, d2, v6, rfl, n6, K2⟩ := rnames_sees (h2.pushes K1) hok
  have Kσ2 : KS [] σ s2 := K1.trans' K2
  have R5 : RowS s2 1 v5 ((namesD d).map V.str) (namesD d).length := (row_strs n5).keep K2.keep
  have R6 : RowS s2 1 v6 ((namesD d).map V.str) (namesD d).length := .inl n6
  have D2 := h.pushes Kσ2
  have F2 := h2.pushes Kσ2
  have hdown := down_does D2
  have hwr := writes_does D2
  obtain ⟨fv, o2, hR2⟩ := F2.hd
  have lp : vload Try.prog s2.objs 4 (.optr r2 2) = some (.bool d.on) := by rw [vload_obj o2 G4]; rfl
  have lc : vload Try.prog s2.objs 3 (.optr r2 3) = some (.int .i64 (d.writes : Nat)) := by rw [vload_obj o2 G3]; rfl
  have hbb : ((!d.on) == d.on) = false := by cases d.on <;> rfl
  simp only [k22_a, WK, vop, evAll, evOpt, evParts, vbuiltin, vun, vextract, Nat.reduceLT, Nat.reduceEqDiff, ↓reduceIte, reduceCtorEq, Nat.reduceAdd, Int.reduceLT, Int.reduceNeg, valloc_std, noSB, vhot, List.getD_cons_zero, List.getD_cons_succ]
  refine KD.ret d1 ?_
  simp only [k22_a, WK, vop, evAll, evOpt, evParts, vbuiltin, vun, vextract, Nat.reduceLT, Nat.reduceEqDiff, ↓reduceIte, reduceCtorEq, Nat.reduceAdd, Int.reduceLT, Int.reduceNeg, valloc_std, noSB, vhot, List.getD_cons_zero, List.getD_cons_succ]
  refine KD.ret d2 ?_
  simp only [k22_a, WK, vop, evAll, evOpt, evParts, vbuiltin, vun, vextract, Nat.reduceLT, Nat.reduceEqDiff, ↓reduceIte, reduceCtorEq, Nat.reduceAdd, Int.reduceLT, Int.reduceNeg, valloc_std, noSB, vhot, List.getD_cons_zero, List.getD_cons_succ, R5.len TSS, R6.len TSS, eq_self, decide_true, Bool.not_true]
  refine KD.ret hdown ?_
  simp only [k22_a, WK, vop, evAll, evOpt, evParts, vbuiltin, vun, vextract, Nat.reduceLT, Nat.reduceEqDiff, ↓reduceIte, reduceCtorEq, Nat.reduceAdd, Int.reduceLT, Int.reduceNeg, valloc_std, noSB, vhot, List.getD_cons_zero, List.getD_cons_succ, rFA r2 2 (by omega), lp, eqlB 4 rfl, hbb]
  refine KD.ret hwr ?_
  simp only [k22_a, WK, vop, evAll, evOpt, evParts, vbuiltin, vun, vextract, Nat.reduceLT, Nat.reduceEqDiff, ↓reduceIte, reduceCtorEq, Nat.reduceAdd, Int.reduceLT, Int.reduceNeg, valloc_std, noSB, vhot, List.getD_cons_zero, List.getD_cons_succ, rFA r2 2 (by omega), rFA r2 3 (by omega), lp, lc, eq_self, decide_true, Bool.not_true, R5.len TSS]
  refine Ev.loopF (fun (i : Nat) e s => e 41 = .int .i64 (i : Nat) ∧ i ≤ (namesD d).length ∧ KS [] s2 s) (fun i => (namesD d).length - i) 0 ⟨by simp [upd_some], Nat.zero_le _, KS.refl _ _⟩ ?_
  rintro i e s ⟨h41, hi, hk⟩ hf
  have g0 : e 0 = .optr r 0 := (hf 0 (by decide)).trans (by simp [upd_some])
  have g1 : e 1 = .optr r2 0 := (hf 1 (by decide)).trans (by simp [upd_some])
  have g5 : e 5 = v5 := (hf 5 (by decide)).trans (by simp [upd_some])
  have g6 : e 6 = v6 := (hf 6 (by decide)).trans (by simp [upd_some])
  have g40 : e 40 = .int .i64 ((namesD d).length : Nat) := (hf 40 (by decide)).trans (by simp [upd_some])
  clear hf
  by_cases hlt : i < (namesD d).length
  · have hlt' : (i : Int) < (namesD d).length := by omega
    have hn16 := namesD_len hok
    have hwi : IntKind.i64.wrap ((i : Int) + 1) = ((i + 1 : Nat) : Int) := by rw [show ((i : Int) + 1) = ((i + 1 : Nat) : Int) from by omega]; exact wrap_nat (by omega)
    obtain ⟨a5, a5a, a5l⟩ := R5.strAt hlt
    obtain ⟨a6, a6a, a6l⟩ := R6.strAt hlt
    obtain ⟨p3, s3, d3, v8, q8, rfl, n8, K3, I3⟩ := read_sees (n := (namesD d)[i]) (D2.pushes hk) hok
    obtain ⟨p4, s4, d4, v10, rfl, n10, K4⟩ := rread_sees (n := (namesD d)[i]) ((F2.pushes hk).pushes K3) hok
    have hk3 := hk.trans' K3
    have hk4 := hk3.trans' K4
    have hrb : RB s4 v8 (readD (namesD d)[i] d).2 := rowOf_rb (rowOf_frame n8 fun x hx o ho => K4.ko _ _ (by simp) ho)
    have hsame := same3_does hrb (.inl n10 : RB s4 v10 _) (by have := readD_len hok (namesD d)[i]; omega)
    rw [decide_eq_true rfl] at hsame
    simp only [k22_a, WK, vop, evAll, evOpt, evParts, vbuiltin, vun, vextract, Nat.reduceLT, Nat.reduceEqDiff, ↓reduceIte, reduceCtorEq, Nat.reduceAdd, Int.reduceLT, Int.reduceNeg, valloc_std, noSB, vhot, h41, g40, g5, g0, hlt', decide_true, a5a, a5l s hk]
    refine KD.ret d3 ?_
    simp only [k22_a, WK, vop, evAll, evOpt, evParts, vbuiltin, vun, vextract, Nat.reduceLT, Nat.reduceEqDiff, ↓reduceIte, reduceCtorEq, Nat.reduceAdd, Int.reduceLT, Int.reduceNeg, valloc_std, noSB, vhot, g6, g1, a6a, a6l s3 hk3]
    refine KD.ret d4 ?_
    simp only [k22_a, WK, vop, evAll, evOpt, evParts, vbuiltin, vun, vextract, Nat.reduceLT, Nat.reduceEqDiff, ↓reduceIte, reduceCtorEq, Nat.reduceAdd, Int.reduceLT, Int.reduceNeg, valloc_std, noSB, vhot, g5, g6, a5a, a6a, a5l s4 hk4, a6l s4 hk4, sbN, eq_self, decide_true, Bool.not_true]
    refine KD.ret hsame ?_
    simp only [k22_a, WK, vop, evAll, evOpt, evParts, vbuiltin, vun, vextract, Nat.reduceLT, Nat.reduceEqDiff, ↓reduceIte, reduceCtorEq, Nat.reduceAdd, Int.reduceLT, Int.reduceNeg, valloc_std, noSB, vhot, g5, g6, a5a, a6a, a5l s4 hk4, a6l s4 hk4, h41, hwi, Bool.not_true]
    exact ⟨i + 1, ⟨by simp [upd_some], by omega, hk4⟩, by omega⟩
  · have hlt' : ¬ (i : Int) < (namesD d).length := by omega
    simp only [k22_a, WK, vop, evAll, evOpt, evParts, vbuiltin, vun, vextract, Nat.reduceLT, Nat.reduceEqDiff, ↓reduceIte, reduceCtorEq, Nat.reduceAdd, Int.reduceLT, Int.reduceNeg, valloc_std, noSB, vhot, h41, g40, hlt', decide_false]
    exact Kσ2.trans' hk
end Go.Proofs.Ytnbmfhnfmhgaaaa.Q

/- Operations as arguments; long. -/
set_option linter.unusedVariables false
set_option linter.unusedSimpArgs false
set_option maxRecDepth 100000
namespace Go.Proofs.Ytnbmfhnfmhgaaaa.Q
open Go Go.RowKit Go.Proofs
theorem FOOp : fieldsOf Try.prog 46 = [(3, 0), (9, 1), (9, 2), (3, 3), (3, 4), (28, 5)] := by kernel_rfl
theorem COi : Try.prog.cellsOf 3 = 1 := by kernel_rfl
theorem COs : Try.prog.cellsOf 9 = 1 := by kernel_rfl
theorem COb : Try.prog.cellsOf 28 = 1 := by kernel_rfl
theorem COo : Try.prog.cellsOf 46 = 6 := by kernel_rfl
theorem TOs : Try.prog.underlying 41 = some (.slice 46) := by kernel_rfl
theorem SOp : sizeT Try.prog 46 = some 6 := by kernel_rfl
theorem GOp : isAggT Try.prog 46 = some true := by kernel_rfl
theorem ZOp : zeroT Try.prog 46 = some (.agg [.int .i64 0, .str [], .str [], .int .i64 0, .int .i64 0, .nils]) := by kernel_rfl
theorem Opn.cells_len (o : Opn) : o.cells.length = 6 := rfl
theorem one_of' {cs : List V} {i : Nat} {v : V} (h : (cs.drop i).take 1 = [v]) : cs[i]? = some v := by
  have : ((cs.drop i).take 1)[0]? = some v := by rw [h]; rfl
  simpa using this
theorem bts_VT {k : Nat} {cs : List V} (h : VT Try.prog k 28 cs) : ∃ w bs, cs = [w] ∧ BtsV w bs := by
  obtain ⟨k', hc⟩ := VT_slice T22 h
  rcases hc with rfl | ⟨vs, len, rfl, h1, h2, h3⟩
  · exact ⟨.nils, [], rfl, .inl ⟨rfl, rfl⟩⟩
  · rw [C5] at h1 h3
    obtain ⟨l, rfl, hl, _⟩ := rows_of (f := fun b : UInt8 => [byteV b]) (R := fun _ => True) len vs h1 fun i hi => by
      obtain ⟨n, e, hw⟩ := VT_int T5 (h3 i hi)
      exact ⟨_, by rw [e, byteV_of hw], trivial⟩
    subst hl
    have e : l.flatMap (fun b : UInt8 => [byteV b]) = l.map byteV := by rw [List.map_eq_flatMap]
    refine ⟨_, l, rfl, .inr ⟨.ro, ?_⟩⟩
    rw [C5, e]
theorem op_VT {k : Nat} {cs : List V} (h : VT Try.prog k 46 cs) : ∃ o : Opn, cs = o.cells ∧ BtsV o.bv o.b ∧ InI64 o.n ∧ InI64 o.k := by
  obtain ⟨k', hl, hf⟩ := VT_struct FOOp h
  rw [COo] at hl
  simp only [List.mem_cons, List.not_mem_nil, or_false, forall_eq_or_imp, forall_eq, COi, COs, COb] at hf
  obtain ⟨f0, f1, f2, f3, f4, f5⟩ := hf
  obtain ⟨a, h0, w0⟩ := VT_int T3 f0
  obtain ⟨s, h1, w1⟩ := VT_str T9 f1
  obtain ⟨t, h2, w2⟩ := VT_str T9 f2
  obtain ⟨n, h3, w3⟩ := VT_int T3 f3
  obtain ⟨m, h4, w4⟩ := VT_int T3 f4
  obtain ⟨w, bs, h5, hb⟩ := bts_VT f5
  refine ⟨⟨a, s, t, n, m, w, bs⟩, ?_, hb, InI64_of w3, InI64_of w4⟩
  have h0 := one_of' h0
  have h1 := one_of' h1
  have h2 := one_of' h2
  have h3 := one_of' h3
  have h4 := one_of' h4
  have h5 := one_of' h5
  match cs, hl with
  | [x0, x1, x2, x3, x4, x5], _ =>
    simp at h0 h1 h2 h3 h4 h5
    simp [Opn.cells, h0, h1, h2, h3, h4, h5]
def OpsV (w : V) (l : List Opn) : Prop := RowV 6 w (l.flatMap Opn.cells) l.length
theorem bts_bulk {v : V} {bs : List UInt8} (h : BtsV v bs) : bs.length ≤ vbulk v := by
  rcases h with ⟨rfl, rfl⟩ | ⟨p, rfl⟩
  · simp
  · have := vbulks_len (bs.map byteV)
    simp only [vbulk, List.length_map] at this ⊢
    omega
theorem ops_arg {x : V} (h : ArgT Try.prog 41 x) (hb : vbulk x ≤ 2000000) : ∃ l, OpsV x l ∧ (∀ o ∈ l, o.Ok) ∧ l.length ≤ vbulk x := by
  obtain ⟨k, hv⟩ : ∃ k, VT Try.prog k 41 [x] := by
    unfold ArgT at h
    rw [TOs] at h
    exact h
  obtain ⟨k', hc⟩ := VT_slice TOs hv
  rcases hc with hc | ⟨vs, len, hc, h1, h2, h3⟩
  · injection hc with hc
    subst hc
    exact ⟨[], ⟨rfl, .inl ⟨rfl, rfl⟩⟩, fun o ho => (by cases ho), by simp⟩
  · injection hc with hc
    subst hc
    rw [COo] at h1 h3 ⊢
    obtain ⟨l, rfl, hl, hR⟩ := rows_of (f := Opn.cells) (R := fun o : Opn => BtsV o.bv o.b ∧ InI64 o.n ∧ InI64 o.k) len vs h1 fun i hi => by
      obtain ⟨o, e, ho⟩ := op_VT (h3 i hi)
      exact ⟨o, e, ho⟩
    subst hl
    have hbl := bulk_len Opn.cells_len (by omega) l
    refine ⟨l, ⟨flat_len Opn.cells_len l, .inr ⟨.ro, rfl⟩⟩, fun o ho => ?_, ?_⟩
    · obtain ⟨b1, b2, b3⟩ := hR o ho
      have h4 := bulk_mem (f := Opn.cells) ho
      have h5 := bts_bulk b1
      simp only [Opn.cells, vbulks] at h4
      rw [COo] at hb
      simp only [vbulk] at hb
      exact ⟨b1, by omega, b2, b3⟩
    · simp only [vbulk]; omega
theorem OpsV.len {v : V} {l : List Opn} (h : OpsV v l) : vlen Try.prog 41 v = some (.int .i64 l.length) := RowV.len h TOs
theorem OpsV.addr {v : V} {l : List Opn} (h : OpsV v l) {i : Nat} (hi : i < l.length) : vindexAddr Try.prog 41 v (.int .i64 i) = some (.eptr (l.flatMap Opn.cells) (i * 6)) := by
  have := RowV.addr h TOs SOp (by omega) (kk := .i64) (i := i) (by omega) (by omega)
  rwa [Int.toNat_natCast] at this
theorem OpsV.load {l : List Opn} {i : Nat} (hi : i < l.length) {objs : List Ob} : vload Try.prog objs 46 (.eptr (l.flatMap Opn.cells) (i * 6)) = some (.agg l[i].cells) := load_part Opn.cells_len hi GOp SOp
theorem Opn.one {o : Opn} (h : BtsV o.bv o.b) : o.cells.all Q.one = true := by
  simp only [Opn.cells, List.all_cons, List.all_nil, h.one, Bool.and_true]
  rfl
theorem opNew {σ : St} {o : Opn} (h : BtsV o.bv o.b) : vstore Try.prog ⟨σ.objs ++ [.cells [.int .i64 0, .str [], .str [], .int .i64 0, .int .i64 0, .nils]], σ.toks⟩ 46 (.optr σ.objs.length 0) (.agg o.cells) = some ⟨σ.objs ++ [.cells o.cells], σ.toks⟩ := by
  rw [vstore_agg (cs := [.int .i64 0, .str [], .str [], .int .i64 0, .int .i64 0, .nils]) (cs' := o.cells) (push_new _ _) (by rw [SOp]; rfl) rfl (Opn.one h)]
  simp
/-- Whether there is too much of it. -/
theorem long_sees {σ : St} {w : V} {l : List Opn} (hw : OpsV w l) (ho : ∀ o ∈ l, o.Ok) (hl : l.length ≤ 2000000) :
    ∃ p σ', Does Try.prog prims 18 [w] σ p σ' ∧ ∃ b, p = .ret (.bool b) ∧ KS [] σ σ' ∧ (b = false → l.length ≤ 65536) := by
  apply k18_is.does (by simp)
  simp only [k18_a, WK, vop, evAll, evOpt, evParts, vbuiltin, vun, vextract, Nat.reduceLT, Nat.reduceEqDiff, ↓reduceIte, reduceCtorEq, Nat.reduceAdd, Int.reduceLT, Int.reduceNeg, valloc_std, noSB, vhot, List.getD_cons_zero, hw.len]
  refine Ev.loopF (fun (i : Nat) e s => ∃ n : Nat, e 8 = .int .i64 (i : Nat) ∧ i ≤ l.length ∧ KS [] σ s ∧ e 3 = .int .i64 (n : Nat) ∧ 64 * i ≤ n ∧ n ≤ 4194304) (fun i => l.length - i) 0 ⟨0, by simp [upd_some], Nat.zero_le _, KS.refl _ _, by simp [upd_some], by omega, by omega⟩ ?_
  rintro i e s ⟨n, h8, hi, hk, h3, hn1, hn2⟩ hf
  have h6 : e 6 = w := (hf 6 (by decide)).trans (by simp [upd_some])
  have h7 : e 7 = .int .i64 (l.length : Nat) := (hf 7 (by decide)).trans (by simp [upd_some])
  clear hf
  by_cases hlt : i < l.length
  · have hlt' : (i : Int) < (l.length : Nat) := by omega
    have hwi : IntKind.i64.wrap ((i : Int) + 1) = ((i + 1 : Nat) : Int) := by rw [show ((i : Int) + 1) = ((i + 1 : Nat) : Int) from by omega]; exact wrap_nat (by omega)
    have hO := ho l[i] (List.getElem_mem hlt)
    obtain ⟨s1, hs1⟩ : ∃ s1 : St, s1 = ⟨s.objs ++ [.cells l[i].cells], s.toks⟩ := ⟨_, rfl⟩
    have hst := opNew (σ := s) hO.b
    rw [← hs1] at hst
    have K1 : KS [] s s1 := by rw [hs1]; exact KS.push _ _ _
    have ob : s1.objs[s.objs.length]? = some (.cells l[i].cells) := by rw [hs1]; exact push_new _ _
    have hz : vcells (V.agg [.int .i64 0, .str [], .str [], .int .i64 0, .int .i64 0, .nils]) = [.int .i64 0, .str [], .str [], .int .i64 0, .int .i64 0, .nils] := rfl
    have hlb := hO.bl
    have w1 : IntKind.i64.wrap ((l[i].b.length : Int) + 64) = ((l[i].b.length + 64 : Nat) : Int) := by rw [wrap_i64 (by omega) (by omega)]; omega
    have w2 : IntKind.i64.wrap ((n : Int) + ((l[i].b.length + 64 : Nat) : Int)) = ((n + (l[i].b.length + 64) : Nat) : Int) := by rw [wrap_i64 (by omega) (by omega)]; omega
    by_cases hbig : 4194304 < n + (l[i].b.length + 64)
    · have hbig' : (4194304 : Int) < ((n + (l[i].b.length + 64) : Nat) : Int) := by omega
      simp only [k18_a, WK, vop, evAll, evOpt, evParts, vbuiltin, vun, vextract, Nat.reduceLT, Nat.reduceEqDiff, ↓reduceIte, reduceCtorEq, Nat.reduceAdd, Int.reduceLT, Int.reduceNeg, valloc_std, noSB, vhot, h8, h7, h6, h3, hlt', decide_true, hw.addr hlt, OpsV.load hlt, ZOp, vbox, hz, hst, oFA5, (OpAt ob).2.2.2.2.2, hO.b.len T22, w1, w2, hbig']
      exact ⟨true, rfl, hk.trans' K1, by simp⟩
    · have hbig' : ¬ (4194304 : Int) < ((n + (l[i].b.length + 64) : Nat) : Int) := by omega
      simp only [k18_a, WK, vop, evAll, evOpt, evParts, vbuiltin, vun, vextract, Nat.reduceLT, Nat.reduceEqDiff, ↓reduceIte, reduceCtorEq, Nat.reduceAdd, Int.reduceLT, Int.reduceNeg, valloc_std, noSB, vhot, h8, h7, h6, h3, hlt', decide_true, decide_false, hw.addr hlt, OpsV.load hlt, ZOp, vbox, hz, hst, oFA5, (OpAt ob).2.2.2.2.2, hO.b.len T22, w1, w2, hbig', hwi]
      exact ⟨i + 1, ⟨n + (l[i].b.length + 64), by simp [upd_some], by omega, hk.trans' K1, by simp [upd_some], by omega, by omega⟩, by omega⟩
  · have hlt' : ¬ (i : Int) < (l.length : Nat) := by omega
    simp only [k18_a, WK, vop, evAll, evOpt, evParts, vbuiltin, vun, vextract, Nat.reduceLT, Nat.reduceEqDiff, ↓reduceIte, reduceCtorEq, Nat.reduceAdd, Int.reduceLT, Int.reduceNeg, valloc_std, noSB, vhot, h8, h7, hlt', decide_false]
    exact ⟨false, rfl, hk, fun _ => by omega⟩
end Go.Proofs.Ytnbmfhnfmhgaaaa.Q

/- The waking. -/
set_option linter.unusedVariables false
set_option linter.unusedSimpArgs false
set_option maxRecDepth 100000
namespace Go.Proofs.Ytnbmfhnfmhgaaaa.Q
open Go Go.RowKit Go.Proofs
theorem wakes_run : isTrue (vcall Try.prog prims 300 8 [] st0) = true := by kernel_rfl
theorem wakes_does : ∃ σ, Does Try.prog prims 8 [] st0 (.ret (.bool true)) σ := by
  obtain ⟨σ, h⟩ := isTrue_eq wakes_run
  exact ⟨σ, 300, h⟩
end Go.Proofs.Ytnbmfhnfmhgaaaa.Q

/- DiskDoes: for every input of bulk at most 1048576 the law answers true. -/
set_option linter.unusedVariables false
set_option linter.unusedSimpArgs false
set_option maxRecDepth 100000
namespace Go.Proofs.Ytnbmfhnfmhgaaaa.Q
open Go Go.RowKit Go.Proofs
theorem step_len {o : Opn} {d : Dk} (hok : d.Ok) : (stepD o d).1.1.length ≤ 1048576 := by
  unfold stepD
  repeat' split
  all_goals first | exact readD_len hok _ | simp
theorem diskdoes_true : LawTrue Try.prog prims 6 [3, 41] := by
  intro args hA hb
  match args, hA with
  | [v, w], ⟨hx, hx2, _⟩ =>
    obtain ⟨n, rfl, hn⟩ : ∃ n : Int, v = .int .i64 n ∧ InI64 n := int_arg T3 hx
    simp only [vbulks] at hb
    obtain ⟨l, hw, ho, hlen⟩ := ops_arg hx2 (by omega)
    have key : ∃ r σ', Does Try.prog prims 6 [.int .i64 n, w] st0 r σ' ∧ r = .ret (.bool true) := by
      apply k6_is.does (by simp)
      obtain ⟨s1, hwk⟩ := wakes_does
      obtain ⟨p2, s2, h2, b, rfl, K2, hb2⟩ := long_sees (σ := s1) hw ho (by omega)
      simp only [k6_a, WK, vop, evAll, evOpt, evParts, vbuiltin, vun, vextract, Nat.reduceLT, Nat.reduceEqDiff, ↓reduceIte, reduceCtorEq, Nat.reduceAdd, Int.reduceLT, Int.reduceNeg, valloc_std, noSB, vhot, List.getD_cons_zero, List.getD_cons_succ]
      refine KD.ret hwk ?_
      simp only [k6_a, WK, vop, evAll, evOpt, evParts, vbuiltin, vun, vextract, Nat.reduceLT, Nat.reduceEqDiff, ↓reduceIte, reduceCtorEq, Nat.reduceAdd, Int.reduceLT, Int.reduceNeg, valloc_std, noSB, vhot, List.getD_cons_zero, List.getD_cons_succ, Bool.not_true]
      refine KD.ret h2 ?_
      cases b with
      | true => simp only [k6_a, WK, vop, evAll, evOpt, evParts, vbuiltin, vun, vextract, Nat.reduceLT, Nat.reduceEqDiff, ↓reduceIte, reduceCtorEq, Nat.reduceAdd, Int.reduceLT, Int.reduceNeg, valloc_std, noSB, vhot]
      | false =>
        have hl := hb2 rfl
        obtain ⟨s3, r, rm, h3, D3, K3, I3⟩ := newdisk_does s2 n
        obtain ⟨s4, h4, R4, K4⟩ := rnew_does s3 n
        have D4 := D3.pushes K4
        simp only [k6_a, WK, vop, evAll, evOpt, evParts, vbuiltin, vun, vextract, Nat.reduceLT, Nat.reduceEqDiff, ↓reduceIte, reduceCtorEq, Nat.reduceAdd, Int.reduceLT, Int.reduceNeg, valloc_std, noSB, vhot, List.getD_cons_zero, List.getD_cons_succ]
        refine KD.ret h3 ?_
        simp only [k6_a, WK, vop, evAll, evOpt, evParts, vbuiltin, vun, vextract, Nat.reduceLT, Nat.reduceEqDiff, ↓reduceIte, reduceCtorEq, Nat.reduceAdd, Int.reduceLT, Int.reduceNeg, valloc_std, noSB, vhot, List.getD_cons_zero, List.getD_cons_succ]
        refine KD.ret h4 ?_
        simp only [k6_a, WK, vop, evAll, evOpt, evParts, vbuiltin, vun, vextract, Nat.reduceLT, Nat.reduceEqDiff, ↓reduceIte, reduceCtorEq, Nat.reduceAdd, Int.reduceLT, Int.reduceNeg, valloc_std, noSB, vhot, List.getD_cons_zero, List.getD_cons_succ, ofNilP, eql_optr pTD, hw.len]
        refine Ev.loopF (fun (i : Nat) e s => e 25 = .int .i64 (i : Nat) ∧ i ≤ l.length ∧ ∃ d fs q rs, DiskAt s r d rm fs ∧ RefAt s s3.objs.length d q rs ∧ d.Ok ∧ d.writes ≤ i ∧ ∀ x ∈ foot r rm fs, x ∉ s3.objs.length :: q.toList) (fun i => l.length - i) 0 ⟨by simp [upd_some], Nat.zero_le _, newD n, [], none, [], D4, R4, newD_ok hn, Nat.le_refl _, fun x hx hx2 => ?_⟩ ?_
        · have := D3.lt x hx
          simp at hx2
          omega
        rintro i e s ⟨h25, hi, d, fs, q, rs, D, R, hok, hwr, hdj⟩ hf
        have g5 : e 5 = .optr r 0 := (hf 5 (by decide)).trans (by simp [upd_some])
        have g6 : e 6 = .optr s3.objs.length 0 := (hf 6 (by decide)).trans (by simp [upd_some])
        have g23 : e 23 = w := (hf 23 (by decide)).trans (by simp [upd_some])
        have g24 : e 24 = .int .i64 (l.length : Nat) := (hf 24 (by decide)).trans (by simp [upd_some])
        clear hf
        by_cases hlt : i < l.length
        · have hlt' : (i : Int) < (l.length : Nat) := by omega
          have hwi : IntKind.i64.wrap ((i : Int) + 1) = ((i + 1 : Nat) : Int) := by rw [show ((i : Int) + 1) = ((i + 1 : Nat) : Int) from by omega]; exact wrap_nat (by omega)
          obtain ⟨o, hoe⟩ : ∃ o, o = l[i] := ⟨_, rfl⟩
          have hO := ho l[i] (List.getElem_mem hlt)
          have hld := fun (s : St) => OpsV.load (objs := s.objs) hlt
          rw [← hoe] at hO
          simp only [← hoe] at hld
          obtain ⟨t1, ht1⟩ : ∃ t1 : St, t1 = ⟨s.objs ++ [.cells o.cells], s.toks⟩ := ⟨_, rfl⟩
          have hst := opNew (σ := s) hO.b
          rw [← ht1] at hst
          have Kt1 : KS [] s t1 := by rw [ht1]; exact KS.push _ _ _
          have L1 : t1.objs.length = s.objs.length + 1 := by rw [ht1]; simp
          have ob1 : t1.objs[s.objs.length]? = some (.cells o.cells) := by rw [ht1]; exact push_new _ _
          have hz : vcells (V.agg [.int .i64 0, .str [], .str [], .int .i64 0, .int .i64 0, .nils]) = [.int .i64 0, .str [], .str [], .int .i64 0, .int .i64 0, .nils] := rfl
          have Dt1 := D.pushes Kt1
          have Rt1 := R.pushes Kt1
          obtain ⟨p5, t2, e5, v1, q1, rfl, n1, ⟨fs2, D2, Kd, I2⟩, J1⟩ := does_sees Dt1 hok hO (by omega)
          have hflt := D.lt
          have hrlt := R.lt
          have ob2 : t2.objs[s.objs.length]? = some (.cells o.cells) := Kd.ko _ _ (fun hx => by have := hflt _ hx; omega) ob1
          have R2 : RefAt t2 s3.objs.length d q rs := Rt1.keep Kd fun x hx hx2 => hdj x hx2 hx
          obtain ⟨p6, t3, e6, v2, rfl, n2, ⟨q3, rs3, R3, Kr, I3⟩⟩ := says_sees R2 hok hO (by omega)
          have hso := step_ok hok hO
          have hfoot2 : ∀ x ∈ foot r rm fs2, x ∉ s3.objs.length :: q.toList := by
            intro x hx hx2
            rcases I2 x hx with h | h
            · exact hdj x h hx2
            · have := hrlt x hx2; omega
          have D3' : DiskAt t3 r (stepD o d).2 rm fs2 := D2.keep Kr hfoot2
          have hdj3 : ∀ x ∈ foot r rm fs2, x ∉ s3.objs.length :: q3.toList := by
            intro x hx hx2
            rcases I3 x hx2 with h | h
            · exact hfoot2 x hx h
            · have := D2.lt x hx; omega
          have hrb : RB t3 v1 (stepD o d).1.1 := rowOf_rb (rowOf_frame n1 fun x hx p hp => Kr.ko _ _ (fun hx2 => by have := hrlt x hx2; have := J1 x hx; omega) hp)
          have hsame := same3_does hrb (.inl n2 : RB t3 v2 _) (by have := step_len (o := o) hok; omega)
          rw [decide_eq_true rfl] at hsame
          obtain ⟨p7, t4, e7, rfl, K7⟩ := alike_sees D3' R3 hso.1
          have ao1 : vload Try.prog t1.objs 46 (.optr s.objs.length 0) = some (.agg o.cells) := vload_agg ob1 GOp (by rw [SOp]; rfl)
          have ao2 : vload Try.prog t2.objs 46 (.optr s.objs.length 0) = some (.agg o.cells) := vload_agg ob2 GOp (by rw [SOp]; rfl)
          simp only [k6_a, WK, vop, evAll, evOpt, evParts, vbuiltin, vun, vextract, Nat.reduceLT, Nat.reduceEqDiff, ↓reduceIte, reduceCtorEq, Nat.reduceAdd, Int.reduceLT, Int.reduceNeg, valloc_std, noSB, vhot, h25, g24, g23, g5, hlt', decide_true, hw.addr hlt, hld, ZOp, vbox, hz, hst, ao1]
          refine KD.ret e5 ?_
          simp only [k6_a, WK, vop, evAll, evOpt, evParts, vbuiltin, vun, vextract, Nat.reduceLT, Nat.reduceEqDiff, ↓reduceIte, reduceCtorEq, Nat.reduceAdd, Int.reduceLT, Int.reduceNeg, valloc_std, noSB, vhot, g6, ao2]
          refine KD.ret e6 ?_
          simp only [k6_a, WK, vop, evAll, evOpt, evParts, vbuiltin, vun, vextract, Nat.reduceLT, Nat.reduceEqDiff, ↓reduceIte, reduceCtorEq, Nat.reduceAdd, Int.reduceLT, Int.reduceNeg, valloc_std, noSB, vhot, eq_self, decide_true, Bool.not_true]
          refine KD.ret hsame ?_
          simp only [k6_a, WK, vop, evAll, evOpt, evParts, vbuiltin, vun, vextract, Nat.reduceLT, Nat.reduceEqDiff, ↓reduceIte, reduceCtorEq, Nat.reduceAdd, Int.reduceLT, Int.reduceNeg, valloc_std, noSB, vhot, g5, g6, Bool.not_true]
          refine KD.ret e7 ?_
          simp only [k6_a, WK, vop, evAll, evOpt, evParts, vbuiltin, vun, vextract, Nat.reduceLT, Nat.reduceEqDiff, ↓reduceIte, reduceCtorEq, Nat.reduceAdd, Int.reduceLT, Int.reduceNeg, valloc_std, noSB, vhot, h25, Bool.not_true, hwi]
          exact ⟨i + 1, ⟨by simp [upd_some], by omega, (stepD o d).2, fs2, q3, rs3, D3'.pushes K7, R3.pushes K7, hso.1, by omega, hdj3⟩, by omega⟩
        · have hlt' : ¬ (i : Int) < (l.length : Nat) := by omega
          simp only [k6_a, WK, vop, evAll, evOpt, evParts, vbuiltin, vun, vextract, Nat.reduceLT, Nat.reduceEqDiff, ↓reduceIte, reduceCtorEq, Nat.reduceAdd, Int.reduceLT, Int.reduceNeg, valloc_std, noSB, vhot, h25, g24, hlt', decide_false]
    obtain ⟨r, σ', ⟨m, h⟩, rfl⟩ := key
    exact ⟨m, σ', h⟩
end Go.Proofs.Ytnbmfhnfmhgaaaa.Q

