import Derived.Test.YtlimedbanpfkgaaVb
set_option linter.unusedVariables false
set_option linter.unusedSimpArgs false
namespace Go.Proofs.Ytlimedbanpfkgaa.Q
open Go Go.RowKit Go.Proofs

theorem compareBytes_eq : ∀ a b : List UInt8, Lib.compareBytes a b = if a = b then 0 else if bytesLt a b = true then -1 else 1
  | [], [] => by simp [Lib.compareBytes]
  | [], _ :: _ => by simp [Lib.compareBytes, bytesLt]
  | _ :: _, [] => by simp [Lib.compareBytes, bytesLt]
  | a :: l, b :: m => by
    rw [Lib.compareBytes, bytesLt]
    by_cases h1 : a < b
    · have hne : ¬ a = b := by rintro rfl; exact absurd h1 (by simp)
      simp [h1, hne]
    · by_cases h2 : b < a
      · have hne : ¬ a = b := by rintro rfl; exact absurd h2 (by simp)
        have : (a == b) = false := by simpa using hne
        simp [h1, h2, hne, this]
      · have he : a = b := by
          have e1 : ¬ a.toNat < b.toNat := h1
          have e2 : ¬ b.toNat < a.toNat := h2
          exact UInt8.toNat_inj.1 (by omega)
        subst he
        rw [if_neg h1, if_neg h2, compareBytes_eq l m]
        simp

theorem sgn_eq {a b : Int} (h : a = b) : sgn a b = 0 := by subst h; simp [sgn]
theorem sgn_lt {a b : Int} (h : a < b) : sgn a b = -1 := by simp [sgn, h]
theorem sgn_gt {a b : Int} (h : b < a) : sgn a b = 1 := by
  have : ¬ a < b := by omega
  simp [sgn, h, this]

def I27 (σ0 : St) (q p : Nat) (l m : List Val) (c d : List V) : Nat → (Nat → V) → St → Prop := fun i e σ => e 5 = .int .i64 i ∧ i ≤ l.length ∧ i ≤ m.length ∧ cmpL l m = cmpL (l.drop i) (m.drop i) ∧ Keep σ0 σ ∧ IsV σ q c ∧ IsV σ p d

theorem refcompare_ok : ∀ (n : Nat), n ≤ 4294967296 → ∀ {a b : Val} {c1 c2 : List V} (σ : St), weight a ≤ n → ValC a c1 → ValC b c2 → ∃ σ', Does Try.prog prims 27 [.agg c1, .agg c2] σ (.ret (.int .i64 (cmpV a b))) σ' ∧ Keep σ σ' := by
  intro n
  induction n with
  | zero => intro _ a b c1 c2 σ h; have := weight_pos a; omega
  | succ n ih =>
    intro hn a b c1 c2 σ hwt ha hb
    have key : ∃ q σ', Does Try.prog prims 27 [.agg c1, .agg c2] σ q σ' ∧ q = .ret (.int .i64 (cmpV a b)) ∧ Keep σ σ' := by
      obtain ⟨k, m, t, l, w, rfl, rfl, hw, ik, im⟩ := ha.inv
      obtain ⟨k', m', t', l', w', rfl, rfl, hw', ik', im'⟩ := hb.inv
      rw [weight] at hwt
      have hll := weights_len l
      have H : CmpOk 27 l := fun x hx b d1 d2 σ h1 h2 => by
        have := weights_mem hx
        exact ih (by omega) σ (by omega) h1 h2
      apply k27_is.does (by simp)
      obtain ⟨c, hc⟩ : ∃ c : List V, c = [.int .i64 k, .int .i64 m, .str t, w] := ⟨_, rfl⟩
      obtain ⟨d, hd⟩ : ∃ d : List V, d = [.int .i64 k', .int .i64 m', .str t', w'] := ⟨_, rfl⟩
      obtain ⟨σ2, hσ2⟩ : ∃ σ2 : St, σ2 = ⟨(σ.objs ++ [Ob.cells c]) ++ [Ob.cells d], σ.toks⟩ := ⟨_, rfl⟩
      have hk2 : Keep σ σ2 := by rw [hσ2]; exact ((Keep.refl σ).push _).push _
      have q2 : IsV σ2 σ.objs.length c := by rw [hσ2]; show ((σ.objs ++ [_]) ++ [_])[_]? = _; rw [List.getElem?_append_left (by simp)]; exact push_new _ _
      have p2 : IsV σ2 (σ.objs.length + 1) d := by rw [hσ2]; simp [IsV]
      have q2' := q2
      have p2' := p2
      rw [hc] at q2'
      rw [hd] at p2'
      rw [← hc, ← hd]
      simp only [k27_a, WK, vop, evAll, evOpt, evParts, vbuiltin, vun, vextract, Nat.reduceLT, Nat.reduceEqDiff, ↓reduceIte, reduceCtorEq, Nat.reduceAdd, Int.reduceLT, Int.reduceNeg, List.getD_cons_zero, List.getD_cons_succ, vbox, vcells, List.length_append, List.length_cons, List.length_nil, ← hσ2, FV0, FV1, FV2, FV3, q2'.kind, p2'.kind]
      rw [cmpV]
      by_cases hk : k = k'
      case neg =>
        simp only [hk, k27_a, WK, vop, evAll, evOpt, evParts, vbuiltin, vun, vextract, Nat.reduceLT, Nat.reduceEqDiff, ↓reduceIte, reduceCtorEq, Nat.reduceAdd, Int.reduceLT, Int.reduceNeg, FV0, q2'.kind, p2'.kind]
        by_cases hlt : k < k'
        · simp only [hlt, k27_a, WK, vop, evAll, evOpt, evParts, vbuiltin, vun, vextract, Nat.reduceLT, Nat.reduceEqDiff, ↓reduceIte, reduceCtorEq, Nat.reduceAdd, Int.reduceLT, Int.reduceNeg]
          rw [orI, sgn_lt hlt]
          exact ⟨rfl, hk2⟩
        · simp only [hlt, k27_a, WK, vop, evAll, evOpt, evParts, vbuiltin, vun, vextract, Nat.reduceLT, Nat.reduceEqDiff, ↓reduceIte, reduceCtorEq, Nat.reduceAdd, Int.reduceLT, Int.reduceNeg]
          rw [orI, sgn_gt (by omega)]
          exact ⟨rfl, hk2⟩
      rw [orI, sgn_eq hk, if_pos rfl]
      simp only [hk, k27_a, WK, vop, evAll, evOpt, evParts, vbuiltin, vun, vextract, Nat.reduceLT, Nat.reduceEqDiff, ↓reduceIte, reduceCtorEq, Nat.reduceAdd, Int.reduceLT, Int.reduceNeg, FV1, q2'.num, p2'.num]
      by_cases hm : m = m'
      case neg =>
        simp only [hm, k27_a, WK, vop, evAll, evOpt, evParts, vbuiltin, vun, vextract, Nat.reduceLT, Nat.reduceEqDiff, ↓reduceIte, reduceCtorEq, Nat.reduceAdd, Int.reduceLT, Int.reduceNeg, FV1, q2'.num, p2'.num]
        by_cases hlt : m < m'
        · simp only [hlt, k27_a, WK, vop, evAll, evOpt, evParts, vbuiltin, vun, vextract, Nat.reduceLT, Nat.reduceEqDiff, ↓reduceIte, reduceCtorEq, Nat.reduceAdd, Int.reduceLT, Int.reduceNeg]
          rw [orI, sgn_lt hlt]
          exact ⟨rfl, hk2⟩
        · simp only [hlt, k27_a, WK, vop, evAll, evOpt, evParts, vbuiltin, vun, vextract, Nat.reduceLT, Nat.reduceEqDiff, ↓reduceIte, reduceCtorEq, Nat.reduceAdd, Int.reduceLT, Int.reduceNeg]
          rw [orI, sgn_gt (by omega)]
          exact ⟨rfl, hk2⟩
      rw [orI, sgn_eq hm, if_pos rfl]
      simp only [hm, k27_a, WK, vop, evAll, evOpt, evParts, vbuiltin, vun, vextract, Nat.reduceLT, Nat.reduceEqDiff, ↓reduceIte, reduceCtorEq, Nat.reduceAdd, Int.reduceLT, Int.reduceNeg, FV2, q2'.text, p2'.text, strBin]
      have hcb := compareBytes_eq t t'
      by_cases ht : t = t'
      case neg =>
        rw [if_neg ht] at hcb
        simp only [ht, k27_a, WK, vop, evAll, evOpt, evParts, vbuiltin, vun, vextract, Nat.reduceLT, Nat.reduceEqDiff, ↓reduceIte, reduceCtorEq, Nat.reduceAdd, Int.reduceLT, Int.reduceNeg, FV2, q2'.text, p2'.text, strBin]
        cases hlt : bytesLt t t' with
        | true =>
          rw [hlt, if_pos rfl] at hcb
          simp only [k27_a, WK, vop, evAll, evOpt, evParts, vbuiltin, vun, vextract, Nat.reduceLT, Nat.reduceEqDiff, ↓reduceIte, reduceCtorEq, Nat.reduceAdd, Int.reduceLT, Int.reduceNeg]
          rw [orI, hcb]
          exact ⟨rfl, hk2⟩
        | false =>
          rw [hlt, if_neg (by simp)] at hcb
          simp only [k27_a, WK, vop, evAll, evOpt, evParts, vbuiltin, vun, vextract, Nat.reduceLT, Nat.reduceEqDiff, ↓reduceIte, reduceCtorEq, Nat.reduceAdd, Int.reduceLT, Int.reduceNeg]
          rw [orI, hcb]
          exact ⟨rfl, hk2⟩
      rw [if_pos ht] at hcb
      rw [orI, hcb, if_pos rfl]
      have hor : orI [cmpL l l'] = cmpL l l' := by
        rw [orI, orI]
        split
        · rename_i h; exact h.symm
        · rfl
      rw [hor]
      simp only [ht, k27_a, WK, vop, evAll, evOpt, evParts, vbuiltin, vun, vextract, Nat.reduceLT, Nat.reduceEqDiff, ↓reduceIte, reduceCtorEq, Nat.reduceAdd, Int.reduceLT, Int.reduceNeg]
      refine Ev.loopF (I27 σ σ.objs.length (σ.objs.length + 1) l l' c d) (fun i => l.length - i) 0 ⟨by simp [upd_some], by simp, by simp, by simp, hk2, q2, p2⟩ ?_
      rintro i e σ1 ⟨h5, hi, him, heq, hkk, q1, p1⟩ hf
      have h2 : e 2 = .optr σ.objs.length 0 := (hf 2 (by decide)).trans (by simp [upd_some])
      have h3 : e 3 = .optr (σ.objs.length + 1) 0 := (hf 3 (by decide)).trans (by simp [upd_some])
      clear hf
      have q1' := q1
      have p1' := p1
      rw [hc] at q1'
      rw [hd] at p1'
      by_cases hlt : i < l.length
      · have hlt' : (i : Int) < l.length := by omega
        by_cases hltm : i < l'.length
        · have hltm' : (i : Int) < l'.length := by omega
          have hwi : IntKind.i64.wrap ((i : Int) + 1) = ((i + 1 : Nat) : Int) := by rw [show ((i : Int) + 1) = ((i + 1 : Nat) : Int) from by omega]; exact wrap_nat (by omega)
          obtain ⟨cs, c0, ha0, hld, hc0⟩ := hw.get hlt
          obtain ⟨cs', c0', ha', hld', hc'⟩ := hw'.get hltm
          rw [List.drop_eq_getElem_cons hlt, List.drop_eq_getElem_cons hltm, cmpL] at heq
          obtain ⟨s4, d4, k4⟩ := H l[i] (List.getElem_mem hlt) l'[i] c0 c0' σ1 hc0 hc'
          simp only [k27_a, WK, vop, evAll, evOpt, evParts, vbuiltin, vun, vextract, Nat.reduceLT, Nat.reduceEqDiff, ↓reduceIte, reduceCtorEq, Nat.reduceAdd, Int.reduceLT, Int.reduceNeg, h2, h3, h5, FV3, q1'.list, p1'.list, hw.len, hw'.len, hlt', hltm', ha0, hld, ha', hld']
          refine KD.ret d4 ?_
          by_cases hz : cmpV l[i] l'[i] = 0
          · rw [if_pos hz] at heq
            simp only [k27_a, WK, vop, evAll, evOpt, evParts, vbuiltin, vun, vextract, Nat.reduceLT, Nat.reduceEqDiff, ↓reduceIte, reduceCtorEq, Nat.reduceAdd, Int.reduceLT, Int.reduceNeg, h5, hz, hwi]
            exact ⟨i + 1, ⟨by simp [upd_some], hlt, hltm, heq, hkk.trans k4, k4.atV q1, k4.atV p1⟩, by omega⟩
          · rw [if_neg hz] at heq
            simp only [k27_a, WK, vop, evAll, evOpt, evParts, vbuiltin, vun, vextract, Nat.reduceLT, Nat.reduceEqDiff, ↓reduceIte, reduceCtorEq, Nat.reduceAdd, Int.reduceLT, Int.reduceNeg, h5, hz]
            exact ⟨by rw [heq], hkk.trans k4⟩
        · have hltm' : ¬ (i : Int) < l'.length := by omega
          have hmi : l'.drop i = [] := List.drop_of_length_le (by omega)
          rw [List.drop_eq_getElem_cons hlt, hmi, cmpL_cons_nil] at heq
          have e1 : ¬ (l.length : Int) < l'.length := by omega
          have e2 : (l'.length : Int) < l.length := by omega
          simp only [k27_a, WK, vop, evAll, evOpt, evParts, vbuiltin, vun, vextract, Nat.reduceLT, Nat.reduceEqDiff, ↓reduceIte, reduceCtorEq, Nat.reduceAdd, Int.reduceLT, Int.reduceNeg, h2, h3, h5, FV3, q1'.list, p1'.list, hw.len, hw'.len, hlt', hltm', e1, e2]
          exact ⟨by rw [heq], hkk⟩
      · have hlt' : ¬ (i : Int) < l.length := by omega
        have hli : l.drop i = [] := List.drop_of_length_le (by omega)
        rw [hli, cmpL_nil, List.length_drop] at heq
        have e2 : ¬ (l'.length : Int) < l.length := by omega
        by_cases hs : (l.length : Int) < l'.length
        · rw [if_pos (by omega)] at heq
          simp only [k27_a, WK, vop, evAll, evOpt, evParts, vbuiltin, vun, vextract, Nat.reduceLT, Nat.reduceEqDiff, ↓reduceIte, reduceCtorEq, Nat.reduceAdd, Int.reduceLT, Int.reduceNeg, h2, h3, h5, FV3, q1'.list, p1'.list, hw.len, hw'.len, hlt', hs]
          exact ⟨by rw [heq], hkk⟩
        · rw [if_neg (by omega)] at heq
          simp only [k27_a, WK, vop, evAll, evOpt, evParts, vbuiltin, vun, vextract, Nat.reduceLT, Nat.reduceEqDiff, ↓reduceIte, reduceCtorEq, Nat.reduceAdd, Int.reduceLT, Int.reduceNeg, h2, h3, h5, FV3, q1'.list, p1'.list, hw.len, hw'.len, hlt', hs, e2]
          exact ⟨by rw [heq], hkk⟩
    obtain ⟨q, σ', h1, rfl, h3⟩ := key
    exact ⟨σ', h1, h3⟩
theorem refcompare_does {a b : Val} {c1 c2 : List V} (σ : St) (hw : weight a ≤ 4294967296) (ha : ValC a c1) (hb : ValC b c2) : ∃ σ', Does Try.prog prims 27 [.agg c1, .agg c2] σ (.ret (.int .i64 (cmpV a b))) σ' ∧ Keep σ σ' :=
  refcompare_ok _ (Nat.le_refl _) σ hw ha hb

/-! ### Weights -/
def I28 (σ0 : St) (s : Nat) (l : List Val) : Nat → (Nat → V) → St → Prop := fun i e σ => e 13 = .int .i64 i ∧ i ≤ l.length ∧ e 3 = .int .i64 (s + weights (l.take i) : Nat) ∧ Keep σ0 σ

theorem weight_ok : ∀ (n : Nat), n ≤ 4294967296 → ∀ {a : Val} {c1 : List V} (σ : St), weight a ≤ n → ValC a c1 → ∃ σ', Does Try.prog prims 28 [.agg c1] σ (.ret (.int .i64 (weight a : Nat))) σ' ∧ Keep σ σ' := by
  intro n
  induction n with
  | zero => intro _ a c1 σ h; have := weight_pos a; omega
  | succ n ih =>
    intro hn a c1 σ hwt ha
    have key : ∃ q σ', Does Try.prog prims 28 [.agg c1] σ q σ' ∧ q = .ret (.int .i64 (weight a : Nat)) ∧ Keep σ σ' := by
      obtain ⟨k, m, t, l, w, rfl, rfl, hw, ik, im⟩ := ha.inv
      rw [weight] at hwt ⊢
      have hll := weights_len l
      apply k28_is.does (by simp)
      obtain ⟨σ2, hσ2⟩ : ∃ σ2 : St, σ2 = ⟨σ.objs ++ [Ob.cells [.int .i64 k, .int .i64 m, .str t, w]], σ.toks⟩ := ⟨_, rfl⟩
      have hk2 : Keep σ σ2 := by rw [hσ2]; exact (Keep.refl σ).push _
      have q2 : IsV σ2 σ.objs.length [.int .i64 k, .int .i64 m, .str t, w] := by rw [hσ2]; exact push_new _ _
      have w1 : IntKind.i64.wrap (1 + (t.length : Int)) = ((1 + t.length : Nat) : Int) := by rw [wrap_i64 (by omega) (by omega)]; omega
      simp only [k28_a, WK, vop, evAll, evOpt, evParts, vbuiltin, vun, vextract, Nat.reduceLT, Nat.reduceEqDiff, ↓reduceIte, reduceCtorEq, Nat.reduceAdd, Int.reduceLT, Int.reduceNeg, List.getD_cons_zero, vbox, vcells, ← hσ2, FV2, FV3, q2.text, q2.list, vlen_str T9, hw.len, w1]
      refine Ev.loopF (I28 σ (1 + t.length) l) (fun i => l.length - i) 0 ⟨by simp [upd_some], by simp, by simp [upd_some, weights], hk2⟩ ?_
      rintro i e σ1 ⟨h13, hi, h3, hk⟩ hf
      have h11 : e 11 = w := (hf 11 (by decide)).trans (by simp [upd_some])
      have h12 : e 12 = .int .i64 l.length := (hf 12 (by decide)).trans (by simp [upd_some])
      clear hf
      by_cases hlt : i < l.length
      · have hlt' : (i : Int) < l.length := by omega
        have hwi : IntKind.i64.wrap ((i : Int) + 1) = ((i + 1 : Nat) : Int) := by rw [show ((i : Int) + 1) = ((i + 1 : Nat) : Int) from by omega]; exact wrap_nat (by omega)
        obtain ⟨cs, c, ha0, hld, hc⟩ := hw.get hlt
        obtain ⟨s2, hs2⟩ : ∃ s2 : St, s2 = ⟨(σ1.objs ++ [Ob.cells val0C]).set σ1.objs.length (Ob.cells c), σ1.toks⟩ := ⟨_, rfl⟩
        have p2 : IsV s2 σ1.objs.length c := by rw [hs2]; exact IsV.made
        have k2 : Keep σ1 s2 := by rw [hs2]; exact (Keep.refl σ1).madeV _ _
        have hmem := weights_mem (List.getElem_mem hlt)
        obtain ⟨s3, d3, k3⟩ := ih (by omega) s2 (by omega) hc
        have hts := weights_take_succ hlt
        have htl := weights_take_le l (i + 1)
        have w2 : IntKind.i64.wrap (((1 + t.length + weights (l.take i) : Nat) : Int) + (weight l[i] : Nat)) = ((1 + t.length + weights (l.take (i + 1)) : Nat) : Int) := by rw [wrap_i64 (by omega) (by omega)]; omega
        simp only [k28_a, WK, vop, evAll, evOpt, evParts, vbuiltin, vun, vextract, Nat.reduceLT, Nat.reduceEqDiff, ↓reduceIte, reduceCtorEq, Nat.reduceAdd, Int.reduceLT, Int.reduceNeg, h3, h11, h12, h13, hlt', ha0, hld, VZ24, vbox, vcells, IsV.new hc.len (show val0C.length = 4 from rfl) hc.one, ← hs2, p2.load hc.len]
        refine KD.ret d3 ?_
        simp only [k28_a, WK, vop, evAll, evOpt, evParts, vbuiltin, vun, vextract, Nat.reduceLT, Nat.reduceEqDiff, ↓reduceIte, reduceCtorEq, Nat.reduceAdd, Int.reduceLT, Int.reduceNeg, h3, h13, w2, hwi]
        exact ⟨i + 1, ⟨by simp [upd_some], hlt, by simp [upd_some], (hk.trans k2).trans k3⟩, by omega⟩
      · have hlt' : ¬ (i : Int) < l.length := by omega
        simp only [k28_a, WK, vop, evAll, evOpt, evParts, vbuiltin, vun, vextract, Nat.reduceLT, Nat.reduceEqDiff, ↓reduceIte, reduceCtorEq, Nat.reduceAdd, Int.reduceLT, Int.reduceNeg, h3, h11, h12, h13, hlt']
        rw [List.take_of_length_le (by omega)]
        exact ⟨rfl, hk⟩
    obtain ⟨q, σ', h1, rfl, h3⟩ := key
    exact ⟨σ', h1, h3⟩
theorem weight_does {a : Val} {c1 : List V} (σ : St) (hw : weight a ≤ 4294967296) (ha : ValC a c1) : ∃ σ', Does Try.prog prims 28 [.agg c1] σ (.ret (.int .i64 (weight a : Nat))) σ' ∧ Keep σ σ' :=
  weight_ok _ (Nat.le_refl _) σ hw ha
end Go.Proofs.Ytlimedbanpfkgaa.Q
