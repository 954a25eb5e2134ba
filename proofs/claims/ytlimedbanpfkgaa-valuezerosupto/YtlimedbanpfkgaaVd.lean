import Derived.Test.YtlimedbanpfkgaaVc
set_option linter.unusedVariables false
set_option linter.unusedSimpArgs false
namespace Go.Proofs.Ytlimedbanpfkgaa.Q
open Go Go.RowKit Go.Proofs

theorem refweight_ok : ∀ (n : Nat), n ≤ 4294967296 → ∀ {a : Val} {c1 : List V} (σ : St), weight a ≤ n → ValC a c1 → ∃ σ', Does Try.prog prims 29 [.agg c1] σ (.ret (.int .i64 (weight a : Nat))) σ' ∧ Keep σ σ' := by
  intro n
  induction n with
  | zero => intro _ a c1 σ h; have := weight_pos a; omega
  | succ n ih =>
    intro hn a c1 σ hwt ha
    have key : ∃ q σ', Does Try.prog prims 29 [.agg c1] σ q σ' ∧ q = .ret (.int .i64 (weight a : Nat)) ∧ Keep σ σ' := by
      obtain ⟨k, m, t, l, w, rfl, rfl, hw, ik, im⟩ := ha.inv
      rw [weight] at hwt ⊢
      have hll := weights_len l
      apply k29_is.does (by simp)
      obtain ⟨σ2, hσ2⟩ : ∃ σ2 : St, σ2 = ⟨σ.objs ++ [Ob.cells [.int .i64 k, .int .i64 m, .str t, w]], σ.toks⟩ := ⟨_, rfl⟩
      have hk2 : Keep σ σ2 := by rw [hσ2]; exact (Keep.refl σ).push _
      have q2 : IsV σ2 σ.objs.length [.int .i64 k, .int .i64 m, .str t, w] := by rw [hσ2]; exact push_new _ _
      have w1 : IntKind.i64.wrap (1 + (t.length : Int)) = ((1 + t.length : Nat) : Int) := by rw [wrap_i64 (by omega) (by omega)]; omega
      simp only [k29_a, WK, vop, evAll, evOpt, evParts, vbuiltin, vun, vextract, Nat.reduceLT, Nat.reduceEqDiff, ↓reduceIte, reduceCtorEq, Nat.reduceAdd, Int.reduceLT, Int.reduceNeg, List.getD_cons_zero, vbox, vcells, ← hσ2, FV2, FV3, q2.text, q2.list, vlen_str T9, hw.len, w1]
      refine Ev.loopF (I28 σ (1 + t.length) l) (fun i => l.length - i) 0 ⟨by simp [upd_some], by simp, by simp [upd_some, weights], hk2⟩ ?_
      rintro i e σ1 ⟨h13, hi, h3, hk⟩ hf
      have h11 : e 11 = w := (hf 11 (by decide)).trans (by simp [upd_some])
      have h12 : e 12 = .int .i64 l.length := (hf 12 (by decide)).trans (by simp [upd_some])
      clear hf
      by_cases hlt : i < l.length
      · have hlt' : (i : Int) < l.length := by omega
        have hwi : IntKind.i64.wrap ((i : Int) + 1) = ((i + 1 : Nat) : Int) := by rw [show ((i : Int) + 1) = ((i + 1 : Nat) : Int) from by omega]; exact wrap_nat (by omega)
        obtain ⟨cs, c, ha0, hld, hc⟩ := hw.get hlt
        obtain ⟨s2, hs2⟩ : ∃ s2 : St, s2 = ⟨(σ1.objs ++ [Ob.cells val0C]).set σ1.objs.length (Ob.cells c), σ1.toks⟩ := ⟨_, rfl⟩
        have p2 : IsV s2 σ1.objs.length c := by rw [hs2]; exact IsV.made
        have k2 : Keep σ1 s2 := by rw [hs2]; exact (Keep.refl σ1).madeV _ _
        have hmem := weights_mem (List.getElem_mem hlt)
        obtain ⟨s3, d3, k3⟩ := ih (by omega) s2 (by omega) hc
        have hts := weights_take_succ hlt
        have htl := weights_take_le l (i + 1)
        have w2 : IntKind.i64.wrap (((1 + t.length + weights (l.take i) : Nat) : Int) + (weight l[i] : Nat)) = ((1 + t.length + weights (l.take (i + 1)) : Nat) : Int) := by rw [wrap_i64 (by omega) (by omega)]; omega
        simp only [k29_a, WK, vop, evAll, evOpt, evParts, vbuiltin, vun, vextract, Nat.reduceLT, Nat.reduceEqDiff, ↓reduceIte, reduceCtorEq, Nat.reduceAdd, Int.reduceLT, Int.reduceNeg, h3, h11, h12, h13, hlt', ha0, hld, VZ24, vbox, vcells, IsV.new hc.len (show val0C.length = 4 from rfl) hc.one, ← hs2, p2.load hc.len]
        refine KD.ret d3 ?_
        simp only [k29_a, WK, vop, evAll, evOpt, evParts, vbuiltin, vun, vextract, Nat.reduceLT, Nat.reduceEqDiff, ↓reduceIte, reduceCtorEq, Nat.reduceAdd, Int.reduceLT, Int.reduceNeg, h3, h13, w2, hwi]
        exact ⟨i + 1, ⟨by simp [upd_some], hlt, by simp [upd_some], (hk.trans k2).trans k3⟩, by omega⟩
      · have hlt' : ¬ (i : Int) < l.length := by omega
        simp only [k29_a, WK, vop, evAll, evOpt, evParts, vbuiltin, vun, vextract, Nat.reduceLT, Nat.reduceEqDiff, ↓reduceIte, reduceCtorEq, Nat.reduceAdd, Int.reduceLT, Int.reduceNeg, h3, h11, h12, h13, hlt']
        rw [List.take_of_length_le (by omega)]
        exact ⟨rfl, hk⟩
    obtain ⟨q, σ', h1, rfl, h3⟩ := key
    exact ⟨σ', h1, h3⟩
theorem refweight_does {a : Val} {c1 : List V} (σ : St) (hw : weight a ≤ 4294967296) (ha : ValC a c1) : ∃ σ', Does Try.prog prims 29 [.agg c1] σ (.ret (.int .i64 (weight a : Nat))) σ' ∧ Keep σ σ' :=
  refweight_ok _ (Nat.le_refl _) σ hw ha

/-! ### How large -/
theorem Keep.viaX' {σ σ1 σ2 : St} {r : Nat} (h : Keep σ σ1) (h2 : KeepX r σ1 σ2) (hr : σ.objs.length ≤ r) : Keep σ σ2 :=
  ⟨fun q o ho => h2.1 q o (by have := (List.getElem?_eq_some_iff.1 ho).1; omega) (h.1 q o ho), Nat.le_trans h.2.1 h2.2.1, fun k hk => h2.2.2 k (h.2.2 k hk)⟩
def IsN (σ : St) (p : Nat) (x : Nat) : Prop := σ.objs[p]? = some (.cells [.int .i64 (x : Nat)])
theorem IsN.load {σ : St} {p x : Nat} (h : IsN σ p x) : vload Try.prog σ.objs 3 (.optr p 0) = some (.int .i64 (x : Nat)) := by rw [vload_obj h G3]; rfl
theorem IsN.put {σ : St} {p x : Nat} (h : IsN σ p x) (y : Nat) : vstore Try.prog σ 3 (.optr p 0) (.int .i64 (y : Nat)) = some ⟨σ.objs.set p (Ob.cells [.int .i64 (y : Nat)]), σ.toks⟩ := by
  rw [vstore_obj h S3 rfl (by simp)]; rfl
theorem KeepX.atV {σ σ' : St} {p : Nat} (h : KeepX p σ σ') {q : Nat} {c : List V} (hne : q ≠ p) (hq : IsV σ q c) : IsV σ' q c := h.1 _ _ hne hq
theorem KeepX.atN {σ σ' : St} {q : Nat} (h : Keep σ σ') {p x : Nat} (hq : IsN σ p x) : IsN σ' p x := h.1 _ _ hq
theorem IsN.lt {σ : St} {p x : Nat} (h : IsN σ p x) : p < σ.objs.length := (List.getElem?_eq_some_iff.1 h).1

def I51 (σ0 : St) (p x : Nat) (s : Nat) (l : List Val) : Nat → (Nat → V) → St → Prop := fun i e σ => e 23 = .int .i64 i ∧ i ≤ l.length ∧ KeepX p σ0 σ ∧ ∃ y, IsN σ p y ∧ y ≤ x + s + weights (l.take i)

theorem count_ok : ∀ (n : Nat), n ≤ 4294967296 → ∀ {a : Val} {c1 : List V} (σ : St) {p x : Nat}, weight a ≤ n → x + weight a ≤ 8589934592 → ValC a c1 → IsN σ p x → ∃ b σ' y, Does Try.prog prims 51 [.agg c1, .optr p 0] σ (.ret (.bool b)) σ' ∧ KeepX p σ σ' ∧ IsN σ' p y ∧ y ≤ x + weight a := by
  intro n
  induction n with
  | zero => intro _ a c1 σ p x h; have := weight_pos a; omega
  | succ n ih =>
    intro hn a c1 σ p x hwt hx ha hN
    have key : ∃ q σ', Does Try.prog prims 51 [.agg c1, .optr p 0] σ q σ' ∧ ∃ b, q = .ret (.bool b) ∧ KeepX p σ σ' ∧ ∃ y, IsN σ' p y ∧ y ≤ x + weight a := by
      obtain ⟨k, m, t, l, w, rfl, rfl, hw, ik, im⟩ := ha.inv
      rw [weight] at hwt hx ⊢
      have hll := weights_len l
      apply k51_is.does (by simp)
      obtain ⟨σ2, hσ2⟩ : ∃ σ2 : St, σ2 = ⟨σ.objs ++ [Ob.cells [.int .i64 k, .int .i64 m, .str t, w]], σ.toks⟩ := ⟨_, rfl⟩
      have hk2 : Keep σ σ2 := by rw [hσ2]; exact (Keep.refl σ).push _
      have q2 : IsV σ2 σ.objs.length [.int .i64 k, .int .i64 m, .str t, w] := by rw [hσ2]; exact push_new _ _
      have hN2 : IsN σ2 p x := hk2.1 _ _ hN
      have hpl := hN.lt
      have w1 : IntKind.i64.wrap (1 + (t.length : Int)) = 1 + (t.length : Int) := wrap_i64 (by omega) (by omega)
      have w2 : IntKind.i64.wrap ((x : Int) + (1 + (t.length : Int))) = ((x + (1 + t.length) : Nat) : Int) := by rw [wrap_i64 (by omega) (by omega)]; omega
      obtain ⟨σ3, hσ3⟩ : ∃ σ3 : St, σ3 = ⟨σ2.objs.set p (Ob.cells [.int .i64 (x + (1 + t.length) : Nat)]), σ2.toks⟩ := ⟨_, rfl⟩
      have hN3 : IsN σ3 p (x + (1 + t.length)) := by rw [hσ3]; exact obj_set hN2
      have k3 : KeepX p σ2 σ3 := by rw [hσ3]; exact KeepX.set p _ _
      have q3 := k3.atV (by omega) q2
      have kx3 : KeepX p σ σ3 := (hk2.x p).trans k3
      by_cases hbig : (65536 : Int) < (x + (1 + t.length) : Nat)
      · simp only [k51_a, WK, vop, evAll, evOpt, evParts, vbuiltin, vun, vextract, Nat.reduceLT, Nat.reduceEqDiff, ↓reduceIte, reduceCtorEq, Nat.reduceAdd, Int.reduceLT, Int.reduceNeg, List.getD_cons_zero, List.getD_cons_succ, vbox, vcells, ← hσ2, FV2, FV3, q2.text, q2.list, vlen_str T9, hN2.load, w1, w2, hN2.put, ← hσ3, hN3.load, hbig]
        exact ⟨_, rfl, kx3, _, hN3, by omega⟩
      · simp only [k51_a, WK, vop, evAll, evOpt, evParts, vbuiltin, vun, vextract, Nat.reduceLT, Nat.reduceEqDiff, ↓reduceIte, reduceCtorEq, Nat.reduceAdd, Int.reduceLT, Int.reduceNeg, List.getD_cons_zero, List.getD_cons_succ, vbox, vcells, ← hσ2, FV2, FV3, q2.text, q2.list, vlen_str T9, hN2.load, w1, w2, hN2.put, ← hσ3, hN3.load, hbig, q3.list, hw.len]
        refine Ev.loopF (I51 σ p x (1 + t.length) l) (fun i => l.length - i) 0 ⟨by simp [upd_some], by simp, kx3, _, hN3, by omega⟩ ?_
        rintro i e σ4 ⟨h23, hi, hk, y, hNy, hy⟩ hf
        have h21 : e 21 = w := (hf 21 (by decide)).trans (by simp [upd_some])
        have h22 : e 22 = .int .i64 l.length := (hf 22 (by decide)).trans (by simp [upd_some])
        have h1 : e 1 = .optr p 0 := (hf 1 (by decide)).trans (by simp [upd_some])
        clear hf
        by_cases hlt : i < l.length
        · have hlt' : (i : Int) < l.length := by omega
          have hwi : IntKind.i64.wrap ((i : Int) + 1) = ((i + 1 : Nat) : Int) := by rw [show ((i : Int) + 1) = ((i + 1 : Nat) : Int) from by omega]; exact wrap_nat (by omega)
          obtain ⟨cs, c, ha0, hld, hc⟩ := hw.get hlt
          obtain ⟨s5, hs5⟩ : ∃ s5 : St, s5 = ⟨(σ4.objs ++ [Ob.cells val0C]).set σ4.objs.length (Ob.cells c), σ4.toks⟩ := ⟨_, rfl⟩
          have p5 : IsV s5 σ4.objs.length c := by rw [hs5]; exact IsV.made
          have k5 : Keep σ4 s5 := by rw [hs5]; exact (Keep.refl σ4).madeV _ _
          have hN5 : IsN s5 p y := k5.1 _ _ hNy
          have hmem := weights_mem (List.getElem_mem hlt)
          have hts := weights_take_succ hlt
          have htl := weights_take_le l (i + 1)
          obtain ⟨b6, s6, z, d6, k6, hN6, hz⟩ := ih (by omega) s5 (p := p) (x := y) (by omega) (by omega) hc hN5
          simp only [k51_a, WK, vop, evAll, evOpt, evParts, vbuiltin, vun, vextract, Nat.reduceLT, Nat.reduceEqDiff, ↓reduceIte, reduceCtorEq, Nat.reduceAdd, Int.reduceLT, Int.reduceNeg, h1, h21, h22, h23, hlt', ha0, hld, VZ24, vbox, vcells, IsV.new hc.len (show val0C.length = 4 from rfl) hc.one, ← hs5, p5.load hc.len]
          refine KD.ret d6 ?_
          cases b6 with
          | true =>
            simp only [k51_a, WK, vop, evAll, evOpt, evParts, vbuiltin, vun, vextract, Nat.reduceLT, Nat.reduceEqDiff, ↓reduceIte, reduceCtorEq, Nat.reduceAdd, Int.reduceLT, Int.reduceNeg]
            exact ⟨_, rfl, (hk.trans (k5.x p)).trans k6, _, hN6, by omega⟩
          | false =>
            simp only [k51_a, WK, vop, evAll, evOpt, evParts, vbuiltin, vun, vextract, Nat.reduceLT, Nat.reduceEqDiff, ↓reduceIte, reduceCtorEq, Nat.reduceAdd, Int.reduceLT, Int.reduceNeg, h23, hwi]
            exact ⟨i + 1, ⟨by simp [upd_some], hlt, (hk.trans (k5.x p)).trans k6, z, hN6, by omega⟩, by omega⟩
        · have hlt' : ¬ (i : Int) < l.length := by omega
          simp only [k51_a, WK, vop, evAll, evOpt, evParts, vbuiltin, vun, vextract, Nat.reduceLT, Nat.reduceEqDiff, ↓reduceIte, reduceCtorEq, Nat.reduceAdd, Int.reduceLT, Int.reduceNeg, h21, h22, h23, hlt']
          have htl := weights_take_le l i
          exact ⟨_, rfl, hk, y, hNy, by omega⟩
    obtain ⟨q, σ', h1, b, rfl, h3, y, h4, h5⟩ := key
    exact ⟨b, σ', y, h1, h3, h4, h5⟩

theorem Z3 : zeroT Try.prog 3 = some (.int .i64 0) := by kernel_rfl
theorem large_does {a : Val} {c : List V} (σ : St) (hw : weight a ≤ 4294967296) (ha : ValC a c) : ∃ b σ', Does Try.prog prims 12 [.agg c] σ (.ret (.bool b)) σ' ∧ Keep σ σ' := by
  have key : ∃ q σ', Does Try.prog prims 12 [.agg c] σ q σ' ∧ ∃ b, q = .ret (.bool b) ∧ Keep σ σ' := by
    apply k12_is.does (by simp)
    obtain ⟨σ2, hσ2⟩ : ∃ σ2 : St, σ2 = ⟨(σ.objs ++ [Ob.cells c]) ++ [Ob.cells [.int .i64 (0 : Nat)]], σ.toks⟩ := ⟨_, rfl⟩
    have hk2 : Keep σ σ2 := by rw [hσ2]; exact ((Keep.refl σ).push _).push _
    have q2 : IsV σ2 σ.objs.length c := by rw [hσ2]; show ((σ.objs ++ [_]) ++ [_])[_]? = _; rw [List.getElem?_append_left (by simp)]; exact push_new _ _
    have hN : IsN σ2 (σ.objs.length + 1) 0 := by rw [hσ2]; simp [IsN]
    have hst : vstore Try.prog σ2 3 (.optr (σ.objs.length + 1) 0) (.int .i64 0) = some σ2 := by
      have := hN.put 0
      rw [Int.natCast_zero] at this
      rw [this]
      congr 1
      rw [hσ2]
      simp
    obtain ⟨b, σ3, y, d3, k3, hN3, _⟩ := count_ok _ (Nat.le_refl _) σ2 (p := σ.objs.length + 1) (x := 0) hw (by omega) ha hN
    have e0 : ((0 : Nat) : Int) = 0 := rfl
    rw [e0] at hσ2
    simp only [k12_a, WK, vop, evAll, evOpt, evParts, vbuiltin, vun, vextract, Nat.reduceLT, Nat.reduceEqDiff, ↓reduceIte, reduceCtorEq, Nat.reduceAdd, Int.reduceLT, Int.reduceNeg, List.getD_cons_zero, List.getD_cons_succ, vbox, vcells, Z3, List.length_append, List.length_cons, List.length_nil, ← hσ2, hst, q2.load ha.len]
    refine KD.ret d3 ?_
    simp only [k12_a, WK, vop, evAll, evOpt, evParts, vbuiltin, vun, vextract, Nat.reduceLT, Nat.reduceEqDiff, ↓reduceIte, reduceCtorEq, Nat.reduceAdd, Int.reduceLT, Int.reduceNeg]
    exact ⟨_, rfl, hk2.viaX' k3 (by omega)⟩
  obtain ⟨q, σ', h1, b, rfl, h3⟩ := key
  exact ⟨b, σ', h1, h3⟩
end Go.Proofs.Ytlimedbanpfkgaa.Q
