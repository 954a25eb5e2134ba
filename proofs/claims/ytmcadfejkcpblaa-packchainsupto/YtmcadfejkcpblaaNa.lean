import Derived.Test.YtmcadfejkcpblaaTk
set_option linter.unusedVariables false
set_option linter.unusedSimpArgs false
namespace Go.Proofs.Ytmcadfejkcpblaa.Q
open Go Go.RowKit Go.Proofs

/-! ### Going over numbers: what the closure does, round by round -/
inductive Runs (k r : Nat) (v : V) (bs : List UInt8) : Nat → St → St → Prop
  | stop {n σ} (h : (takeS (bs.drop n)).2 = 0) : Runs k r v bs n σ σ
  | cut {n σ σ'} (h : (takeS (bs.drop n)).2 ≠ 0) (hr : Round Try.prog prims k [.int .i64 (n : Nat), .int .i64 ((takeS (bs.drop n)).1 : Nat)] σ (.bool false) σ') : Runs k r v bs n σ σ'
  | go {n σ σ1 σ'} (h : (takeS (bs.drop n)).2 ≠ 0) (hr : Round Try.prog prims k [.int .i64 (n : Nat), .int .i64 ((takeS (bs.drop n)).1 : Nat)] σ (.bool true) σ1) (hk : σ1.objs[r]? = some (.cells [v])) (hn : n + (takeS (bs.drop n)).2 ≤ bs.length)
      (hs : Runs k r v bs (n + (takeS (bs.drop n)).2) σ1 σ') : Runs k r v bs n σ σ'
theorem bts_drop {v : V} {bs : List UInt8} (hv : BtsV v bs) {n : Nat} (hn : n ≤ bs.length) (hl : bs.length ≤ 4611686018427387904) : ∃ u, vslice Try.prog 22 v (some (.int .i64 (n : Int))) none none = some u ∧ BtsV u (bs.drop n) := by
  rcases hv with ⟨rfl, rfl⟩ | ⟨p, rfl⟩
  · have : n = 0 := by simpa using hn
    subst this
    refine ⟨.nils, by kernel_rfl, .inl ⟨rfl, rfl⟩⟩
  · have hb := vbounds_lo (len := bs.length) (k := .i64) (n := (n : Int)) (by omega) (by omega)
    simp only [vslice, T22, S5, hb, if_true, Int.toNat_natCast, Nat.mul_one]
    refine ⟨_, rfl, .inr ?_⟩
    rw [List.take_of_length_le (by simp), ← List.map_drop, ← List.length_drop]
    exact ⟨_, rfl⟩
set_option maxRecDepth 100000 in
theorem numbers_loop {k r : Nat} {v : V} {bs : List UInt8} (hv : BtsV v bs) (hl : bs.length ≤ 4611686018427387904) {n : Nat} {σ σ' : St} (h : Runs k r v bs n σ σ') : n ≤ bs.length → σ.objs[r]? = some (.cells [v]) → ∀ e : Nat → V, e 0 = .yld k → e 1 = .optr r 0 → e 3 = .int .i64 (n : Nat) →
    Ev Try.prog prims 25 (.loop k29_l0) e σ fun x e' σ'' => x = .ret ∧ σ'' = σ' := by
  induction h with
  | @stop n σ h =>
    intro hn ho e h0 h1 h3
    obtain ⟨u, hu, hu2⟩ := bts_drop hv hn hl
    have hld : vload Try.prog σ.objs 22 (.optr r 0) = some v := by rw [vload_obj ho G22]; rfl
    have hml : (bs.drop n).length ≤ maxLen := by
      have : (4611686018427387904 : Nat) ≤ maxLen := by decide
      rw [List.length_drop]; omega
    rw [Ev_loop]
    simp only [k29_a, WK, vop, evAll, evOpt, evParts, vbuiltin, vun, vextract, Nat.reduceLT, Nat.reduceEqDiff, ↓reduceIte, reduceCtorEq, Nat.reduceAdd, Int.reduceLT, Int.reduceNeg, valloc_std, noSB, vhot, h0, h1, h3, hld, T22, hu]
    refine KD.ret (take_does hu2 hml σ) ?_
    have hz : (((takeS (bs.drop n)).2 : Nat) : Int) = 0 := by rw [h]; rfl
    simp only [k29_a, WK, vop, evAll, evOpt, evParts, vbuiltin, vun, vextract, Nat.reduceLT, Nat.reduceEqDiff, ↓reduceIte, reduceCtorEq, Nat.reduceAdd, Int.reduceLT, Int.reduceNeg, valloc_std, noSB, vhot, h0, h1, h3, hz, seqK]
  | @cut n σ σ' h hr =>
    intro hn ho e h0 h1 h3
    obtain ⟨u, hu, hu2⟩ := bts_drop hv hn hl
    have hld : vload Try.prog σ.objs 22 (.optr r 0) = some v := by rw [vload_obj ho G22]; rfl
    have hml : (bs.drop n).length ≤ maxLen := by
      have : (4611686018427387904 : Nat) ≤ maxLen := by decide
      rw [List.length_drop]; omega
    rw [Ev_loop]
    simp only [k29_a, WK, vop, evAll, evOpt, evParts, vbuiltin, vun, vextract, Nat.reduceLT, Nat.reduceEqDiff, ↓reduceIte, reduceCtorEq, Nat.reduceAdd, Int.reduceLT, Int.reduceNeg, valloc_std, noSB, vhot, h0, h1, h3, hld, T22, hu]
    refine KD.ret (take_does hu2 hml σ) ?_
    have hz : ¬ (((takeS (bs.drop n)).2 : Nat) : Int) = 0 := by omega
    simp only [k29_a, WK, vop, evAll, evOpt, evParts, vbuiltin, vun, vextract, Nat.reduceLT, Nat.reduceEqDiff, ↓reduceIte, reduceCtorEq, Nat.reduceAdd, Int.reduceLT, Int.reduceNeg, valloc_std, noSB, vhot, h0, h1, h3, hz, seqK]
    refine ⟨_, _, hr, ?_⟩
    simp only [k29_a, WK, vop, evAll, evOpt, evParts, vbuiltin, vun, vextract, Nat.reduceLT, Nat.reduceEqDiff, ↓reduceIte, reduceCtorEq, Nat.reduceAdd, Int.reduceLT, Int.reduceNeg, valloc_std, noSB, vhot, h0, h1, h3, seqK]
  | @go n σ σ1 σ' h hr hk hn2 hs ih =>
    intro hn ho e h0 h1 h3
    obtain ⟨u, hu, hu2⟩ := bts_drop hv hn hl
    have hld : vload Try.prog σ.objs 22 (.optr r 0) = some v := by rw [vload_obj ho G22]; rfl
    have hml : (bs.drop n).length ≤ maxLen := by
      have : (4611686018427387904 : Nat) ≤ maxLen := by decide
      rw [List.length_drop]; omega
    rw [Ev_loop]
    simp only [k29_a, WK, vop, evAll, evOpt, evParts, vbuiltin, vun, vextract, Nat.reduceLT, Nat.reduceEqDiff, ↓reduceIte, reduceCtorEq, Nat.reduceAdd, Int.reduceLT, Int.reduceNeg, valloc_std, noSB, vhot, h0, h1, h3, hld, T22, hu]
    refine KD.ret (take_does hu2 hml σ) ?_
    have hz : ¬ (((takeS (bs.drop n)).2 : Nat) : Int) = 0 := by omega
    have hw : IntKind.i64.wrap ((n : Int) + ((takeS (bs.drop n)).2 : Nat)) = ((n + (takeS (bs.drop n)).2 : Nat) : Int) := by
      rw [show (n : Int) + ((takeS (bs.drop n)).2 : Nat) = ((n + (takeS (bs.drop n)).2 : Nat) : Int) by omega]; exact wrap_nat (by omega)
    simp only [k29_a, WK, vop, evAll, evOpt, evParts, vbuiltin, vun, vextract, Nat.reduceLT, Nat.reduceEqDiff, ↓reduceIte, reduceCtorEq, Nat.reduceAdd, Int.reduceLT, Int.reduceNeg, valloc_std, noSB, vhot, h0, h1, h3, hz, seqK]
    refine ⟨_, _, hr, ?_⟩
    simp only [k29_a, WK, vop, evAll, evOpt, evParts, vbuiltin, vun, vextract, Nat.reduceLT, Nat.reduceEqDiff, ↓reduceIte, reduceCtorEq, Nat.reduceAdd, Int.reduceLT, Int.reduceNeg, valloc_std, noSB, vhot, h0, h1, h3, hw, seqK]
    exact ih hn2 hk _ (by simp [upd_some, h0]) (by simp [upd_some, h1]) (by simp [upd_some])
/-- The closure over the numbers. -/
theorem numbers_does {k r : Nat} {v : V} {bs : List UInt8} (hv : BtsV v bs) (hl : bs.length ≤ 4611686018427387904) {σ σ' : St} (h : Runs k r v bs 0 σ σ') (ho : σ.objs[r]? = some (.cells [v])) :
    Does Try.prog prims 29 [.yld k, .optr r 0] σ (.ret (.tuple [])) σ' := by
  apply k29_is.ret (by simp)
  simp only [k29_a, WK, vop, evAll, evOpt, evParts, vbuiltin, vun, vextract, Nat.reduceLT, Nat.reduceEqDiff, ↓reduceIte, reduceCtorEq, Nat.reduceAdd, Int.reduceLT, Int.reduceNeg, valloc_std, noSB, vhot]
  refine (numbers_loop hv hl h (Nat.zero_le _) ho _ (by simp [upd_some]) (by simp [upd_some]) (by simp [upd_some])).mono fun x e' σ'' hx => ?_
  obtain ⟨rfl, rfl⟩ := hx
  simp only [WK, vop, evAll, evOpt, evParts, vbuiltin, vun, vextract, Nat.reduceLT, Nat.reduceEqDiff, ↓reduceIte, reduceCtorEq, Nat.reduceAdd, Int.reduceLT, Int.reduceNeg, valloc_std, noSB, vhot]
/-- The rounds, by what holds between them. -/
theorem Runs.of {k r : Nat} {v : V} {bs : List UInt8} (I : Nat → St → Prop) (J : St → Prop)
    (hr : ∀ n σ, n ≤ bs.length → I n σ → (takeS (bs.drop n)).2 ≠ 0 →
      (∃ σ1, Round Try.prog prims k [.int .i64 (n : Nat), .int .i64 ((takeS (bs.drop n)).1 : Nat)] σ (.bool true) σ1 ∧ σ1.objs[r]? = some (.cells [v]) ∧ I (n + (takeS (bs.drop n)).2) σ1) ∨
      ∃ σ1, Round Try.prog prims k [.int .i64 (n : Nat), .int .i64 ((takeS (bs.drop n)).1 : Nat)] σ (.bool false) σ1 ∧ J σ1) :
    ∀ (m n : Nat) (σ : St), bs.length - n ≤ m → n ≤ bs.length → I n σ → ∃ σ', Runs k r v bs n σ σ' ∧ ((∃ n', n' ≤ bs.length ∧ I n' σ' ∧ (takeS (bs.drop n')).2 = 0) ∨ J σ')
  | m, n, σ, hm, hn, hI => by
    have hle := (takeS_lt (bs.drop n)).2.2
    rw [List.length_drop] at hle
    by_cases h0 : (takeS (bs.drop n)).2 = 0
    · exact ⟨σ, .stop h0, .inl ⟨n, hn, hI, h0⟩⟩
    · rcases hr n σ hn hI h0 with ⟨σ1, h1, h2, h3⟩ | ⟨σ1, h1, h2⟩
      · match m, hm with
        | 0, hm => omega
        | m + 1, hm =>
          obtain ⟨σ', h4, h5⟩ := Runs.of I J hr m (n + (takeS (bs.drop n)).2) σ1 (by omega) (by omega) h3
          exact ⟨σ', .go h0 h1 h2 (by omega) h4, h5⟩
      · exact ⟨σ1, .cut h0 h1, .inr h2⟩
theorem ZB : zeroT Try.prog 22 = some .nils := by kernel_rfl
/-- Numbers: its own bytes, and the closure. -/
theorem mknumbers_does {b : V} {bs : List UInt8} (hb : BtsV b bs) (hlen : bs.length ≤ 140737488300000) (σ : St) :
    ∃ q σ', Does Try.prog prims 18 [b] σ q σ' ∧ ∃ v, q = .ret (.func 29 [.optr σ.objs.length 0]) ∧ BtsV v bs ∧ σ'.objs[σ.objs.length]? = some (.cells [v]) ∧ Keep σ σ' := by
  apply k18_is.does (by simp)
  have ho1 : OwnV 5 σ.toks.length σ (.slice .exact 1 [] 0) [] := .inr ⟨_, rfl, .inl rfl⟩
  obtain ⟨v', σ1, ha, ho, hk, hob⟩ := ho1.append' BT rfl (Keep.refl σ) T22 hb (by simp; omega)
  rw [List.nil_append] at ho
  obtain ⟨s2, hs2⟩ : ∃ s2 : St, s2 = ⟨σ1.objs ++ [Ob.cells [.nils]], σ1.toks⟩ := ⟨_, rfl⟩
  have a2 : s2.objs[σ1.objs.length]? = some (.cells [.nils]) := by rw [hs2]; simp
  have hl1 : σ1.objs.length = σ.objs.length := by rw [hob]
  have hst : vstore Try.prog s2 22 (.optr σ1.objs.length 0) v' = some ⟨s2.objs.set σ1.objs.length (.cells [v']), s2.toks⟩ := by
    rw [vstore_obj a2 S22 ho.bts.one (by simp)]; rfl
  simp only [k18_a, WK, vop, evAll, evOpt, evParts, vbuiltin, vun, vextract, Nat.reduceLT, Nat.reduceEqDiff, ↓reduceIte, reduceCtorEq, Nat.reduceAdd, Int.reduceLT, Int.reduceNeg, valloc_std, noSB, vhot, List.getD_cons_zero, build0 BT, ha, ZB, vbox, vcells, ofVal, ofVal1, ← hs2, hst]
  refine ⟨v', ?_, ho.bts, ?_, ?_⟩
  · rw [hl1]
  · rw [← hl1]; simp [hs2]
  · refine ⟨fun r o h => ?_, by rw [hs2]; exact hk.2⟩
    have hr := (List.getElem?_eq_some_iff.1 h).1
    show (s2.objs.set σ1.objs.length (.cells [v']))[r]? = some o
    rw [List.getElem?_set_ne (by omega), hs2]
    show (σ1.objs ++ [Ob.cells [.nils]])[r]? = some o
    rw [List.getElem?_append_left (by omega)]
    exact hk.1 r o h
end Go.Proofs.Ytmcadfejkcpblaa.Q
