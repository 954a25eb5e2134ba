import Derived.Test.YtlimedbanpfkgaaVo
set_option linter.unusedVariables false
set_option linter.unusedSimpArgs false
namespace Go.Proofs.Ytlimedbanpfkgaa.Q
open Go Go.RowKit Go.Proofs

theorem VRT : RowT Try.prog 22 24 4 56 := ⟨VT22, VS24, ⟨_, VZ24, rfl⟩, by kernel_rfl, by omega⟩
theorem ValsC.snoc : ∀ {l : List Val} {cs : List V} {v : Val} {c : List V}, ValsC l cs → ValC v c → ValsC (l ++ [v]) (cs ++ c)
  | [], _, v, c, .nil, h => by have := ValsC.cons h .nil; simpa using this
  | a :: l, _, v, c, .cons (c := c1) (cs := cs1) h1 h2, h => by
    rw [List.append_assoc]
    exact .cons h1 (ValsC.snoc h2 h)
theorem build1V {c : List V} (hc : c.length = 4) : vbuildSlice Try.prog 22 1 [(0, .agg c)] = some (.slice .exact 4 c 1) := by
  obtain ⟨z', hz', hl'⟩ : ∃ z', z' = vcells (.agg val0C) ∧ z'.length = 4 := ⟨_, rfl, rfl⟩
  simp only [vbuildSlice, VT22, VS24, VZ24, ← hz', hl']
  have h0 : (zeroCellsV z' (1 * 4)).length = 4 := by simp [zeroCellsV]
  have h1 : vfill (fun i => some (i * 4, 4)) (zeroCellsV z' (1 * 4)) [(0, .agg c)] = some c := by
    simp only [vfill, vcells, hc, h0]
    rw [setAll_take _ _ _ (by rw [hc, h0]; omega)]
    have : List.drop (0 * 4 + c.length) (zeroCellsV z' (1 * 4)) = [] := List.drop_of_length_le (by rw [h0, hc]; omega)
    rw [this]
    simp
  simp [h1]
theorem build2V {c d : List V} (hc : c.length = 4) (hd : d.length = 4) : vbuildSlice Try.prog 22 2 [(0, .agg c), (1, .agg d)] = some (.slice .exact 4 (c ++ d) 2) := by
  obtain ⟨z', hz', hl'⟩ : ∃ z', z' = vcells (.agg val0C) ∧ z'.length = 4 := ⟨_, rfl, rfl⟩
  simp only [vbuildSlice, VT22, VS24, VZ24, ← hz', hl']
  have h0 : (zeroCellsV z' (2 * 4)).length = 8 := by simp [zeroCellsV]
  have h1 : vfill (fun i => some (i * 4, 4)) (zeroCellsV z' (2 * 4)) [(0, .agg c), (1, .agg d)] = some (c ++ d) := by
    have hl : (setAll (zeroCellsV z' (2 * 4)) (0 * 4) c).length = 8 := by rw [length_setAll, h0]
    simp only [vfill, vcells, hc, hd, h0, hl]
    have e0 : setAll (zeroCellsV z' (2 * 4)) (0 * 4) c = c ++ (zeroCellsV z' (2 * 4)).drop 4 := by rw [setAll_take _ _ _ (by rw [hc, h0]; omega)]; simp [hc]
    have e1 : setAll (c ++ (zeroCellsV z' (2 * 4)).drop 4) (1 * 4) d = c ++ d := by
      rw [setAll_take _ _ _ (by simp [hc, hd, h0])]
      have e2 : List.drop (1 * 4 + d.length) (c ++ (zeroCellsV z' (2 * 4)).drop 4) = [] := List.drop_of_length_le (by simp [hc, hd, h0])
      have e3 : List.take (1 * 4) (c ++ (zeroCellsV z' (2 * 4)).drop 4) = c := by rw [show 1 * 4 = c.length by omega, List.take_left]
      rw [e2, e3, List.append_nil]
    rw [e0, e1]
    simp
  simp [h1]

/-! ### How long what is left is -/
theorem rdN_len {g : RS → List Val × RS} (H : ∀ s, (g s).2.1.length ≤ s.1.length) (s : RS) : ∀ n, (rdN g n s).2.1.length ≤ s.1.length
  | 0 => Nat.le_refl _
  | n + 1 => by
    rw [rdN]
    have := rdN_len H s n
    split
    · exact this
    · have h2 := H (rdN g n s).2
      exact Nat.le_trans h2 this
theorem rdRow_len {st : Bool} {k : Int} {g : RS → List Val × RS} (H : ∀ s, (g s).2.1.length ≤ s.1.length) (s : RS) : (rdRow st k g s).2.1.length ≤ s.1.length := by
  unfold rdRow
  have h1 := numS_len s.1 s.2
  have h2 := rdN_len H ((numS s.1 s.2).2.1, (numS s.1 s.2).2.2 || (st && decide (64 < (numS s.1 s.2).1))) (min (numS s.1 s.2).1 65)
  simp only at h2 ⊢
  omega
theorem rdInt_len (st : Bool) (s : RS) : (rdInt st s).2.1.length ≤ s.1.length := by
  unfold rdInt
  have h1 := numS_len s.1 s.2
  have h2 := numS_len (numS s.1 s.2).2.1 (numS s.1 s.2).2.2
  simp only
  omega
theorem rdText_len (st : Bool) (s : RS) : (rdText st s).2.1.length ≤ s.1.length := by
  unfold rdText
  have h1 := numS_len s.1 s.2
  have h2 := bytS_len (numS s.1 s.2).2.1 ((numS s.1 s.2).2.2 || (st && decide (256 < (numS s.1 s.2).1))) ((numS s.1 s.2).1 : Int)
  simp only
  omega
theorem rdS_len (st : Bool) : ∀ (T : Ty) (s : RS), (rdS st T s).2.1.length ≤ s.1.length
  | .int, s => rdInt_len st s
  | .bool, s => numS_len s.1 s.2
  | .text, s => rdText_len st s
  | .list e, s => rdRow_len (rdS_len st e) s
  | .mapI e, s => rdRow_len (fun s => Nat.le_trans (rdS_len st e _) (rdInt_len st s)) s
  | .mapT e, s => rdRow_len (fun s => Nat.le_trans (rdS_len st e _) (rdText_len st s)) s
theorem rdN_count_le {g : RS → List Val × RS} {c : Nat} (H : ∀ s, (g s).1.length = c) (s : RS) : ∀ n, (rdN g n s).1.length ≤ n * c
  | 0 => by simp [rdN]
  | n + 1 => by
    have e1 : (n + 1) * c = n * c + c := Nat.succ_mul n c
    have := rdN_count_le H s n
    rw [rdN]
    split
    · omega
    · simp only [List.length_append, H]; omega

theorem KeepX.len {r : Nat} {σ σ' : St} (hk : KeepX r σ σ') (hr : r < σ'.objs.length) : σ.objs.length ≤ σ'.objs.length := by
  apply Nat.le_of_not_lt
  intro hlt
  have h1 := hk.1 σ'.objs.length _ (by omega) (List.getElem?_eq_getElem hlt)
  have := (List.getElem?_eq_some_iff.1 h1).1
  omega
theorem OwnR.appendX {q : Nat} {t t2 e : TypeId} {k by_ : Nat} (hT : RowT Try.prog t e k by_) {m : Nat} {σ0 σ : St} {v y : V} {cs ys : List V} {n l : Nat} (h : OwnR e k m σ v cs n) (hn : m = σ0.toks.length) (hk : KeepX q σ0 σ) (hnews : vnews Try.prog t2 y k = some (ys, l)) (hyl : ys.length = l * k) (hone : ys.all one = true) (hl : n + l ≤ 140737488355328) (hb : (n + l) * by_ ≤ 140737488355328) :
    ∃ v' σ', vappend Try.prog σ t t2 v y = some (v', σ') ∧ OwnR e k m σ' v' (cs ++ ys) (n + l) ∧ KeepX q σ0 σ' ∧ σ'.objs = σ.objs := by
  obtain ⟨v', σ', h1, h2, h3, h4⟩ := h.append hT (σ0 := ⟨[], σ0.toks⟩) hn ⟨fun r o ho => by simp at ho, hk.2⟩ hnews hyl hone hl hb
  exact ⟨v', σ', h1, h2, ⟨fun r o hr ho => by rw [h4]; exact hk.1 r o hr ho, h3.2⟩, h4⟩
theorem KeepX.via {r p : Nat} {σ σ1 σ2 : St} (h : KeepX r σ σ1) (h2 : KeepX p σ1 σ2) (hp : σ.objs.length ≤ p) : KeepX r σ σ2 :=
  ⟨fun q o hq ho => h2.1 q o (by have := (List.getElem?_eq_some_iff.1 ho).1; omega) (h.1 q o hq ho), Nat.le_trans h.2.1 h2.2.1, fun k hk => h2.2.2 k (h.2.2 k hk)⟩
theorem IsV.lt {σ : St} {q : Nat} {c : List V} (h : IsV σ q c) : q < σ.objs.length := (List.getElem?_eq_some_iff.1 h).1
theorem Rdr.lt {σ : St} {r : Nat} {bs : List UInt8} {bad : Bool} (h : Rdr σ r bs bad) : r < σ.objs.length := by
  obtain ⟨v, h, _⟩ := h
  exact (List.getElem?_eq_some_iff.1 h).1

/-! ### take -/
def TakeOk (F : FuncId) (st : Bool) (T : Ty) : Prop := ∀ {σ : St} {r : Nat} {bs : List UInt8} {bad : Bool}, Rdr σ r bs bad → bs.length ≤ 100000000 →
  ∃ q σ', Does Try.prog prims F [.optr r 0, .str (tyB T)] σ q σ' ∧ ∃ c, q = .ret (.agg c) ∧ KeepX r σ σ' ∧ Rdr σ' r (rdS st T (bs, bad)).2.1 (rdS st T (bs, bad)).2.2 ∧ ValC (rdS st T (bs, bad)).1 c

theorem flatC_ok {k n : Int} (t : List UInt8) (hk : InI64 k) (hn : InI64 n) : ValC (.mk k n t []) (flatC k n t) := flat_ok t hk hn
theorem in63 {n : Nat} (h : n < 2 ^ 63) : InI64 (n : Int) := by unfold InI64; omega

theorem take_int : TakeOk 63 false .int := by
  intro σ r bs bad h hl
  apply k63_is.does (by simp)
  obtain ⟨s1, hs1⟩ : ∃ s1 : St, s1 = ⟨σ.objs ++ [Ob.cells val0C], σ.toks⟩ := ⟨_, rfl⟩
  have k1 : Keep σ s1 := by rw [hs1]; exact (Keep.refl σ).push _
  have q1 : IsV s1 σ.objs.length val0C := by rw [hs1]; exact push_new _ _
  have hne : σ.objs.length ≠ r := by have := h.lt; omega
  have b1 : decide (tyB .int = [105, 110, 116]) = true := rfl
  obtain ⟨s2, d2, k2, r2⟩ := number_does (h.keep' k1) (by unfold maxLen; omega)
  have l2 := numS_len bs bad
  obtain ⟨s3, d3, k3, r3⟩ := number_does r2 (by unfold maxLen; omega)
  have q3 := k3.atV hne (k2.atV hne q1)
  have ia := numS_in bs bad
  have ib := numS_in (numS bs bad).2.1 (numS bs bad).2.2
  have hk : KeepX r σ s3 := ((k1.x r).trans k2).trans k3
  simp only [k63_a, WK, vop, evAll, evOpt, evParts, vbuiltin, vun, vextract, Nat.reduceLT, Nat.reduceEqDiff, ↓reduceIte, reduceCtorEq, Nat.reduceAdd, Int.reduceLT, Int.reduceNeg, ofVal_str, strBin, VZ24, vbox, vcells, ← hs1, b1]
  refine KD.ret d2 ?_
  simp only [k63_a, WK, vop, evAll, evOpt, evParts, vbuiltin, vun, vextract, Nat.reduceLT, Nat.reduceEqDiff, ↓reduceIte, reduceCtorEq, Nat.reduceAdd, Int.reduceLT, Int.reduceNeg]
  refine KD.ret d3 ?_
  unfold rdS rdInt
  simp only [Bool.false_and, Bool.or_false]
  generalize hA : numS bs bad = a at *
  generalize hB : numS a.2.1 a.2.2 = b at *
  by_cases h1 : a.1 = 1
  · have h1' : (a.1 : Int) = 1 := by omega
    have w1 : IntKind.i64.wrap (0 - (b.1 : Int)) = -(b.1 : Int) := by rw [wrap_i64 (by omega) (by omega)]; omega
    have w2 : IntKind.i64.wrap (-(b.1 : Int) - 1) = -(b.1 : Int) - 1 := wrap_i64 (by omega) (by omega)
    obtain ⟨s4, d4, k4⟩ := intv_does s3 (-(b.1 : Int) - 1)
    obtain ⟨s5, g1, g2, g3⟩ := storeN (k4.atV q3) (c := flatC 1 (-(b.1 : Int) - 1) []) rfl rfl rfl
    simp only [k63_a, WK, vop, evAll, evOpt, evParts, vbuiltin, vun, vextract, Nat.reduceLT, Nat.reduceEqDiff, ↓reduceIte, reduceCtorEq, Nat.reduceAdd, Int.reduceLT, Int.reduceNeg, h1', w1, w2]
    refine KD.ret d4 ?_
    simp only [k63_a, WK, vop, evAll, evOpt, evParts, vbuiltin, vun, vextract, Nat.reduceLT, Nat.reduceEqDiff, ↓reduceIte, reduceCtorEq, Nat.reduceAdd, Int.reduceLT, Int.reduceNeg, g1, g2.load rfl]
    refine ⟨_, rfl, (hk.trans (k4.x r)).via g3 (Nat.le_refl _), (r3.keep' k4).keep g3 (Ne.symm hne), ?_⟩
    rw [if_pos h1]
    exact flatC_ok [] (by unfold InI64; omega) (by unfold InI64; omega)
  · have h1' : ¬ (a.1 : Int) = 1 := by omega
    obtain ⟨s4, d4, k4⟩ := intv_does s3 (b.1 : Int)
    obtain ⟨s5, g1, g2, g3⟩ := storeN (k4.atV q3) (c := flatC 1 (b.1 : Int) []) rfl rfl rfl
    simp only [k63_a, WK, vop, evAll, evOpt, evParts, vbuiltin, vun, vextract, Nat.reduceLT, Nat.reduceEqDiff, ↓reduceIte, reduceCtorEq, Nat.reduceAdd, Int.reduceLT, Int.reduceNeg, h1']
    refine KD.ret d4 ?_
    simp only [k63_a, WK, vop, evAll, evOpt, evParts, vbuiltin, vun, vextract, Nat.reduceLT, Nat.reduceEqDiff, ↓reduceIte, reduceCtorEq, Nat.reduceAdd, Int.reduceLT, Int.reduceNeg, g1, g2.load rfl]
    refine ⟨_, rfl, (hk.trans (k4.x r)).via g3 (Nat.le_refl _), (r3.keep' k4).keep g3 (Ne.symm hne), ?_⟩
    rw [if_neg h1]
    exact flatC_ok [] (by unfold InI64; omega) (by unfold InI64; omega)

theorem take_bool : TakeOk 63 false .bool := by
  intro σ r bs bad h hl
  apply k63_is.does (by simp)
  obtain ⟨s1, hs1⟩ : ∃ s1 : St, s1 = ⟨σ.objs ++ [Ob.cells val0C], σ.toks⟩ := ⟨_, rfl⟩
  have k1 : Keep σ s1 := by rw [hs1]; exact (Keep.refl σ).push _
  have q1 : IsV s1 σ.objs.length val0C := by rw [hs1]; exact push_new _ _
  have hne : σ.objs.length ≠ r := by have := h.lt; omega
  have b1 : decide (tyB .bool = [105, 110, 116]) = false := rfl
  have b2 : decide (tyB .bool = [98, 111, 111, 108]) = true := rfl
  obtain ⟨s2, d2, k2, r2⟩ := number_does (h.keep' k1) (by unfold maxLen; omega)
  have q2 := k2.atV hne q1
  have ia := numS_in bs bad
  have hk : KeepX r σ s2 := (k1.x r).trans k2
  simp only [k63_a, WK, vop, evAll, evOpt, evParts, vbuiltin, vun, vextract, Nat.reduceLT, Nat.reduceEqDiff, ↓reduceIte, reduceCtorEq, Nat.reduceAdd, Int.reduceLT, Int.reduceNeg, ofVal_str, strBin, VZ24, vbox, vcells, ← hs1, b1, b2]
  refine KD.ret d2 ?_
  unfold rdS rdBool
  simp only [Bool.false_and, Bool.or_false]
  generalize hA : numS bs bad = a at *
  obtain ⟨s5, g1, g2, g3⟩ := storeN q2 (c := flatC 2 (a.1 : Int) []) rfl rfl rfl
  simp only [k63_a, WK, vop, evAll, evOpt, evParts, vbuiltin, vun, vextract, Nat.reduceLT, Nat.reduceEqDiff, ↓reduceIte, reduceCtorEq, Nat.reduceAdd, Int.reduceLT, Int.reduceNeg, BVn, g1, g2.load rfl]
  exact ⟨_, rfl, hk.via g3 (Nat.le_refl _), r2.keep g3 (Ne.symm hne), flatC_ok [] (by unfold InI64; omega) (by unfold InI64; omega)⟩

theorem take_text : TakeOk 63 false .text := by
  intro σ r bs bad h hl
  apply k63_is.does (by simp)
  obtain ⟨s1, hs1⟩ : ∃ s1 : St, s1 = ⟨σ.objs ++ [Ob.cells val0C], σ.toks⟩ := ⟨_, rfl⟩
  have k1 : Keep σ s1 := by rw [hs1]; exact (Keep.refl σ).push _
  have q1 : IsV s1 σ.objs.length val0C := by rw [hs1]; exact push_new _ _
  have hne : σ.objs.length ≠ r := by have := h.lt; omega
  have b1 : decide (tyB .text = [105, 110, 116]) = false := rfl
  have b2 : decide (tyB .text = [98, 111, 111, 108]) = false := rfl
  have b3 : decide (tyB .text = [116, 101, 120, 116]) = true := rfl
  obtain ⟨s2, d2, k2, r2⟩ := number_does (h.keep' k1) (by unfold maxLen; omega)
  have l2 := numS_len bs bad
  obtain ⟨v, s3, d3, k3, r3, hv⟩ := bytes_does r2 (by omega) ((numS bs bad).1 : Int)
  have q3 := k3.atV hne (k2.atV hne q1)
  have hk : KeepX r σ s3 := ((k1.x r).trans k2).trans k3
  have hv2 := hv.str T22 (t2 := 9) (by kernel_rfl) T9
  obtain ⟨s4, d4, k4⟩ := textv_does s3 (bytS (numS bs bad).2.1 (numS bs bad).2.2 ((numS bs bad).1 : Int)).1
  obtain ⟨s5, g1, g2, g3⟩ := storeN (k4.atV q3) (c := flatC 3 0 (bytS (numS bs bad).2.1 (numS bs bad).2.2 ((numS bs bad).1 : Int)).1) rfl rfl rfl
  simp only [k63_a, WK, vop, evAll, evOpt, evParts, vbuiltin, vun, vextract, Nat.reduceLT, Nat.reduceEqDiff, ↓reduceIte, reduceCtorEq, Nat.reduceAdd, Int.reduceLT, Int.reduceNeg, ofVal_str, strBin, VZ24, vbox, vcells, ← hs1, b1, b2, b3]
  refine KD.ret d2 ?_
  simp only [k63_a, WK, vop, evAll, evOpt, evParts, vbuiltin, vun, vextract, Nat.reduceLT, Nat.reduceEqDiff, ↓reduceIte, reduceCtorEq, Nat.reduceAdd, Int.reduceLT, Int.reduceNeg]
  refine KD.ret d3 ?_
  simp only [k63_a, WK, vop, evAll, evOpt, evParts, vbuiltin, vun, vextract, Nat.reduceLT, Nat.reduceEqDiff, ↓reduceIte, reduceCtorEq, Nat.reduceAdd, Int.reduceLT, Int.reduceNeg, hv2]
  refine KD.ret d4 ?_
  simp only [k63_a, WK, vop, evAll, evOpt, evParts, vbuiltin, vun, vextract, Nat.reduceLT, Nat.reduceEqDiff, ↓reduceIte, reduceCtorEq, Nat.reduceAdd, Int.reduceLT, Int.reduceNeg, g1, g2.load rfl]
  unfold rdS rdText
  simp only [Bool.false_and, Bool.or_false]
  exact ⟨_, rfl, (hk.trans (k4.x r)).via g3 (Nat.le_refl _), (r3.keep' k4).keep g3 (Ne.symm hne), flatC_ok _ (by unfold InI64; omega) (by unfold InI64; omega)⟩
/-! ### Rows -/
theorem rdN_step {g : RS → List Val × RS} {s : RS} {i : Nat} (h : (rdN g i s).2.2 = false) : rdN g (i + 1) s = ((rdN g i s).1 ++ (g (rdN g i s).2).1, (g (rdN g i s).2).2) := by
  rw [rdN, if_neg (by rw [h]; decide)]
def InvT (r q p m : Nat) (σ0 : St) (K : Int) (g : RS → List Val × RS) (s : RS) (n : Nat) : Nat → (Nat → V) → St → Prop := fun i e σ =>
  e 14 = .int .i64 i ∧ i ≤ n ∧ Rdr σ r (rdN g i s).2.1 (rdN g i s).2.2 ∧ (∃ w cs, IsV σ p [.int .i64 K, .int .i64 0, .str [], w] ∧ OwnR 24 4 m σ w cs (rdN g i s).1.length ∧ ValsC (rdN g i s).1 cs) ∧ KeepX r σ0 σ ∧ IsV σ q val0C
theorem OwnR.vals {m : Nat} {σ : St} {w : V} {cs : List V} {l : List Val} (h : OwnR 24 4 m σ w cs l.length) (hc : ValsC l cs) : ValsW l w := by
  rcases h.2 with ⟨rfl, h0⟩ | ⟨p, rfl, _⟩
  · have : l = [] := List.length_eq_zero_iff.1 h0
    subst this
    exact .nil
  · exact .row hc
theorem OwnR.one {e k m n : Nat} {σ : St} {v : V} {cs : List V} (h : OwnR e k m σ v cs n) : one v = true := h.row.one

set_option maxRecDepth 100000 in
theorem take_list {e : Ty} (hT : tyD (.list e) ≤ 4) (H : TakeOk 63 false e) : TakeOk 63 false (.list e) := by
  intro σ r bs bad h hl
  apply k63_is.does (by simp)
  obtain ⟨g1, g2⟩ := tyS_list hT
  have hlen := tyB_len (.list e)
  have hkd := kindS_ty hT
  obtain ⟨s1, hs1⟩ : ∃ s1 : St, s1 = ⟨σ.objs ++ [Ob.cells val0C], σ.toks⟩ := ⟨_, rfl⟩
  have k1 : Keep σ s1 := by rw [hs1]; exact (Keep.refl σ).push _
  have q1 : IsV s1 σ.objs.length val0C := by rw [hs1]; exact push_new _ _
  have hrl := h.lt
  have hne : σ.objs.length ≠ r := by omega
  have b1 : decide (tyB (.list e) = [105, 110, 116]) = false := by simp [tyB]
  have b2 : decide (tyB (.list e) = [98, 111, 111, 108]) = false := by simp [tyB]
  have b3 : decide (tyB (.list e) = [116, 101, 120, 116]) = false := by simp [tyB]
  obtain ⟨s2, d2, k2⟩ := zero_does (σ := s1) (tyB (.list e)) (by omega)
  have hz : zeroS (tyB (.list e)) = flatC 4 0 [] := by rw [zeroS, hkd]; rfl
  rw [hz] at d2
  obtain ⟨s3, hs3⟩ : ∃ s3 : St, s3 = ⟨(s2.objs ++ [Ob.cells val0C]).set s2.objs.length (Ob.cells (flatC 4 0 [])), s2.toks⟩ := ⟨_, rfl⟩
  have k3 : Keep s2 s3 := by rw [hs3]; exact (Keep.refl s2).madeV _ _
  have p3 : IsV s3 s2.objs.length (flatC 4 0 []) := by rw [hs3]; exact IsV.made
  have q2 := k2.atV q1
  have q3 := k3.atV q2
  have hpr : s2.objs.length ≠ r := by have := q2.lt; omega
  have hpq : σ.objs.length < s2.objs.length := q2.lt
  have d4 := vlist_does (tyB (.list e)) (by omega) s3
  rw [g1, g2] at d4
  have d5 := vmap_does (tyB (.list e)) (by omega) s3
  obtain ⟨s6, d6, k6, r6⟩ := number_does (((h.keep' k1).keep' k2).keep' k3) (by unfold maxLen; omega)
  have l6 := numS_len bs bad
  have ia := numS_in bs bad
  unfold rdS rdRow
  simp only [Bool.false_and, Bool.or_false]
  generalize hA : numS bs bad = a at *
  have hk6 : KeepX r σ s6 := ((((k1.trans k2).trans k3).x r).trans k6)
  simp only [k63_a, WK, vop, evAll, evOpt, evParts, vbuiltin, vun, vextract, Nat.reduceLT, Nat.reduceEqDiff, ↓reduceIte, reduceCtorEq, Nat.reduceAdd, Int.reduceLT, Int.reduceNeg, ofVal_str, strBin, VZ24, vbox, vcells, ← hs1, b1, b2, b3]
  refine KD.ret d2 ?_
  simp only [k63_a, WK, vop, evAll, evOpt, evParts, vbuiltin, vun, vextract, Nat.reduceLT, Nat.reduceEqDiff, ↓reduceIte, reduceCtorEq, Nat.reduceAdd, Int.reduceLT, Int.reduceNeg, VZ24, vbox, vcells, IsV.new (show (flatC 4 0 []).length = 4 from rfl) (show val0C.length = 4 from rfl) (show (flatC 4 0 []).all one = true from rfl), ← hs3]
  refine KD.ret d4 ?_
  simp only [k63_a, WK, vop, evAll, evOpt, evParts, vbuiltin, vun, vextract, Nat.reduceLT, Nat.reduceEqDiff, ↓reduceIte, reduceCtorEq, Nat.reduceAdd, Int.reduceLT, Int.reduceNeg]
  refine KD.ret d5 ?_
  simp only [k63_a, WK, vop, evAll, evOpt, evParts, vbuiltin, vun, vextract, Nat.reduceLT, Nat.reduceEqDiff, ↓reduceIte, reduceCtorEq, Nat.reduceAdd, Int.reduceLT, Int.reduceNeg]
  refine KD.ret d6 ?_
  simp only [k63_a, WK, vop, evAll, evOpt, evParts, vbuiltin, vun, vextract, Nat.reduceLT, Nat.reduceEqDiff, ↓reduceIte, reduceCtorEq, Nat.reduceAdd, Int.reduceLT, Int.reduceNeg]
  obtain ⟨n, hn⟩ : ∃ n, n = min a.1 65 := ⟨_, rfl⟩
  obtain ⟨G, hG⟩ : ∃ G, G = one1 (rdS false e) := ⟨_, rfl⟩
  have hGl : ∀ s, (G s).2.1.length ≤ s.1.length := by intro s; rw [hG]; exact rdS_len false e s
  have hGc : ∀ s, (G s).1.length = 1 := by intro s; rw [hG]; rfl
  rw [← hn, ← hG]
  refine Ev.loopF (InvT r σ.objs.length s2.objs.length σ.toks.length σ 4 G a.2 n) (fun i => n - i) 0 ⟨by simp [upd_some], by omega, r6, ⟨.nils, [], k6.atV hpr p3, OwnR.nil, .nil⟩, hk6, k6.atV hne q3⟩ ?_
  rintro i e0 σ1 ⟨h14, hi, hr, ⟨w, cs, hp, ho, hc⟩, hk, hq⟩ hf
  have h0 : e0 0 = .optr r 0 := (hf 0 (by decide)).trans (by simp [upd_some])
  have h4 : e0 4 = .optr σ.objs.length 0 := (hf 4 (by decide)).trans (by simp [upd_some])
  have h7 : e0 7 = .optr s2.objs.length 0 := (hf 7 (by decide)).trans (by simp [upd_some])
  have h8 : e0 8 = .str (tyB e) := (hf 8 (by decide)).trans (by simp [upd_some])
  have h9 : e0 9 = .bool true := (hf 9 (by decide)).trans (by simp [upd_some])
  have h13 : e0 13 = .int .i64 a.1 := (hf 13 (by decide)).trans (by simp [upd_some])
  clear hf
  have hd := bad_does hr
  have hll := rdN_len hGl a.2 i
  have hcl := rdN_count_le hGc a.2 i
  have hstay := fun h => rdN_stay (g := G) (s := a.2) (i := i) h n hi
  have hstep := fun h => rdN_step (g := G) (s := a.2) (i := i) h
  generalize hD : rdN G i a.2 = D at *
  obtain ⟨s9, j1, j2, j3⟩ := storeN hq (c := [.int .i64 4, .int .i64 0, .str [], w]) rfl rfl (by simp only [List.all_cons, List.all_nil, ho.one]; rfl)
  have hfin : D = rdN G n a.2 → ∃ c, (VRes.ret (.agg [.int .i64 4, .int .i64 0, .str [], w])) = .ret (.agg c) ∧ KeepX r σ s9 ∧ Rdr s9 r (rdN G n a.2).2.1 (rdN G n a.2).2.2 ∧ ValC (.mk 4 0 [] (rdN G n a.2).1) c := by
    intro hDn
    rw [← hDn]
    exact ⟨_, rfl, hk.via j3 (Nat.le_refl _), hr.keep j3 (Ne.symm hne), .mk (by unfold InI64; omega) (by unfold InI64; omega) (ho.vals hc)⟩
  have hwx : IntKind.i64.wrap ((i : Int) + 1) = ((i + 1 : Nat) : Int) := idx_wrap (by omega)
  by_cases hlt : i < a.1
  · have hlt' : (i : Int) < a.1 := by omega
    cases hb : D.2.2 with
    | true =>
      rw [hb] at hd
      simp only [k63_a, WK, vop, evAll, evOpt, evParts, vbuiltin, vun, vextract, Nat.reduceLT, Nat.reduceEqDiff, ↓reduceIte, reduceCtorEq, Nat.reduceAdd, Int.reduceLT, Int.reduceNeg, h0, h13, h14, hlt']
      refine KD.ret hd ?_
      simp only [k63_a, WK, vop, evAll, evOpt, evParts, vbuiltin, vun, vextract, Nat.reduceLT, Nat.reduceEqDiff, ↓reduceIte, reduceCtorEq, Nat.reduceAdd, Int.reduceLT, Int.reduceNeg, h0, h4, h7, h13, h14, hp.load (show List.length [V.int .i64 4, V.int .i64 0, .str [], w] = 4 from rfl), j1, j2.load (show List.length [V.int .i64 4, V.int .i64 0, .str [], w] = 4 from rfl)]
      exact hfin (hstay hb).symm
    | false =>
      rw [hb] at hd hr
      by_cases h64 : i ≤ 64
      · have h64' : (i : Int) ≤ 64 := by omega
        obtain ⟨rv, s4, d10, c, rfl, k10, r10, hcv⟩ := H (bs := D.2.1) (bad := false) hr (by omega)
        have p10 := k10.atV hpr hp
        obtain ⟨v8, s8, ha8, ho8, hk8, hob⟩ := (ho.keep k10.2.2).appendX VRT (q := r) (σ0 := σ) rfl (hk.trans k10) (t2 := 22) (y := .slice .exact 4 c 1) (ys := c) (l := 1) (by simp [vnews, VT22]) hcv.len hcv.one (by omega) (by omega)
        have p8 : IsV s8 s2.objs.length [.int .i64 4, .int .i64 0, .str [], w] := by unfold IsV; rw [hob]; exact p10
        have hst := vstore_obj (P := Try.prog) (off := 3) (t := 22) p8 VS22 ho8.one (by simp)
        obtain ⟨s7, hs7⟩ : ∃ s7 : St, s7 = ⟨s8.objs.set s2.objs.length (Ob.cells [.int .i64 4, .int .i64 0, .str [], v8]), s8.toks⟩ := ⟨_, rfl⟩
        have hst' : vstore Try.prog s8 22 (.optr s2.objs.length 3) v8 = some s7 := by rw [hst, hs7]; rfl
        obtain ⟨kx, p7⟩ := KeepX.set_eq p8 hs7
        have hDs : D.2 = (D.2.1, false) := by rw [← hb]
        have hst2 := hstep hb
        rw [hDs, hG] at hst2
        simp only [one1] at hst2
        simp only [k63_a, WK, vop, evAll, evOpt, evParts, vbuiltin, vun, vextract, Nat.reduceLT, Nat.reduceEqDiff, ↓reduceIte, reduceCtorEq, Nat.reduceAdd, Int.reduceLT, Int.reduceNeg, h0, h13, h14, hlt']
        refine KD.ret hd ?_
        simp only [k63_a, WK, vop, evAll, evOpt, evParts, vbuiltin, vun, vextract, Nat.reduceLT, Nat.reduceEqDiff, ↓reduceIte, reduceCtorEq, Nat.reduceAdd, Int.reduceLT, Int.reduceNeg, h0, h4, h7, h8, h9, h13, h14, h64', FV3, hp.list, p10.list]
        refine KD.ret d10 ?_
        simp only [k63_a, WK, vop, evAll, evOpt, evParts, vbuiltin, vun, vextract, Nat.reduceLT, Nat.reduceEqDiff, ↓reduceIte, reduceCtorEq, Nat.reduceAdd, Int.reduceLT, Int.reduceNeg, h0, h4, h7, h8, h9, h13, h14, h64', FV3, hp.list, p10.list, build1V hcv.len, ha8, hst', hwx]
        refine ⟨i + 1, ⟨by simp [upd_some], by omega, ?_, ⟨v8, cs ++ c, p7, ?_, ?_⟩, hk8.via kx (by omega), ?_⟩, by omega⟩
        · rw [← hG] at hst2
          rw [hst2, hDs]
          obtain ⟨v0, hv0, hv1⟩ := r10
          exact Rdr.keep (σ := s8) ⟨v0, by rw [hob]; exact hv0, hv1⟩ kx (Ne.symm hpr)
        · rw [← hG] at hst2
          rw [hst2, List.length_append, List.length_singleton]
          exact ho8.keep kx.2.2
        · rw [← hG] at hst2
          rw [hst2]
          exact hc.snoc hcv
        · have : IsV s8 σ.objs.length val0C := by unfold IsV; rw [hob]; exact k10.atV hne hq
          exact kx.atV (by omega) this
      · have h64' : ¬ (i : Int) ≤ 64 := by omega
        simp only [k63_a, WK, vop, evAll, evOpt, evParts, vbuiltin, vun, vextract, Nat.reduceLT, Nat.reduceEqDiff, ↓reduceIte, reduceCtorEq, Nat.reduceAdd, Int.reduceLT, Int.reduceNeg, h0, h13, h14, hlt']
        refine KD.ret hd ?_
        simp only [k63_a, WK, vop, evAll, evOpt, evParts, vbuiltin, vun, vextract, Nat.reduceLT, Nat.reduceEqDiff, ↓reduceIte, reduceCtorEq, Nat.reduceAdd, Int.reduceLT, Int.reduceNeg, h0, h4, h7, h13, h14, h64', hp.load (show List.length [V.int .i64 4, V.int .i64 0, .str [], w] = 4 from rfl), j1, j2.load (show List.length [V.int .i64 4, V.int .i64 0, .str [], w] = 4 from rfl)]
        exact hfin (by rw [← hD]; congr 1; omega)
  · have hlt' : ¬ (i : Int) < a.1 := by omega
    simp only [k63_a, WK, vop, evAll, evOpt, evParts, vbuiltin, vun, vextract, Nat.reduceLT, Nat.reduceEqDiff, ↓reduceIte, reduceCtorEq, Nat.reduceAdd, Int.reduceLT, Int.reduceNeg, h0, h4, h7, h13, h14, hlt', hp.load (show List.length [V.int .i64 4, V.int .i64 0, .str [], w] = 4 from rfl), j1, j2.load (show List.length [V.int .i64 4, V.int .i64 0, .str [], w] = 4 from rfl)]
    exact hfin (by rw [← hD]; congr 1; omega)
def TakeF (F : FuncId) (s : List UInt8) (f : RS → Val × RS) : Prop := ∀ {σ : St} {r : Nat} {bs : List UInt8} {bad : Bool}, Rdr σ r bs bad → bs.length ≤ 100000000 →
  ∃ q σ', Does Try.prog prims F [.optr r 0, .str s] σ q σ' ∧ ∃ c, q = .ret (.agg c) ∧ KeepX r σ σ' ∧ Rdr σ' r (f (bs, bad)).2.1 (f (bs, bad)).2.2 ∧ ValC (f (bs, bad)).1 c
set_option maxRecDepth 100000 in
theorem take_map {T : Ty} {ks vs : List UInt8} {fk fv : RS → Val × RS} (hT : tyD T ≤ 4) (hK : tyK T = 5) (hls : listS (tyB T) = [] ∧ isListS (tyB T) = false ∧ keyS (tyB T) = ks ∧ valS (tyB T) = vs ∧ isMapS (tyB T) = true)
    (b1 : decide (tyB T = [105, 110, 116]) = false) (b2 : decide (tyB T = [98, 111, 111, 108]) = false) (b3 : decide (tyB T = [116, 101, 120, 116]) = false)
    (lk : ∀ s, (fk s).2.1.length ≤ s.1.length) (lv : ∀ s, (fv s).2.1.length ≤ s.1.length)
    (H : TakeF 63 ks fk) (H' : TakeF 63 vs fv) : TakeF 63 (tyB T) (rdRow false 5 (two2 fk fv)) := by
  intro σ r bs bad h hl
  apply k63_is.does (by simp)
  obtain ⟨g1, g2, g3, g4, g5⟩ := hls
  have hlen := tyB_len T
  have hkd := kindS_ty hT
  obtain ⟨s1, hs1⟩ : ∃ s1 : St, s1 = ⟨σ.objs ++ [Ob.cells val0C], σ.toks⟩ := ⟨_, rfl⟩
  have k1 : Keep σ s1 := by rw [hs1]; exact (Keep.refl σ).push _
  have q1 : IsV s1 σ.objs.length val0C := by rw [hs1]; exact push_new _ _
  have hrl := h.lt
  have hne : σ.objs.length ≠ r := by omega
  obtain ⟨s2, d2, k2⟩ := zero_does (σ := s1) (tyB T) (by omega)
  have hz : zeroS (tyB T) = flatC 5 0 [] := by rw [zeroS, hkd, hK]
  rw [hz] at d2
  obtain ⟨s3, hs3⟩ : ∃ s3 : St, s3 = ⟨(s2.objs ++ [Ob.cells val0C]).set s2.objs.length (Ob.cells (flatC 5 0 [])), s2.toks⟩ := ⟨_, rfl⟩
  have k3 : Keep s2 s3 := by rw [hs3]; exact (Keep.refl s2).madeV _ _
  have p3 : IsV s3 s2.objs.length (flatC 5 0 []) := by rw [hs3]; exact IsV.made
  have q2 := k2.atV q1
  have q3 := k3.atV q2
  have hpr : s2.objs.length ≠ r := by have := q2.lt; omega
  have hpq : σ.objs.length < s2.objs.length := q2.lt
  have d4 := vlist_does (tyB T) (by omega) s3
  rw [g1, g2] at d4
  have d5 := vmap_does (tyB T) (by omega) s3
  rw [g3, g4, g5] at d5
  obtain ⟨s6, d6, k6, r6⟩ := number_does (((h.keep' k1).keep' k2).keep' k3) (by unfold maxLen; omega)
  have l6 := numS_len bs bad
  have ia := numS_in bs bad
  unfold rdRow
  simp only [Bool.false_and, Bool.or_false]
  generalize hA : numS bs bad = a at *
  have hk6 : KeepX r σ s6 := ((((k1.trans k2).trans k3).x r).trans k6)
  simp only [k63_a, WK, vop, evAll, evOpt, evParts, vbuiltin, vun, vextract, Nat.reduceLT, Nat.reduceEqDiff, ↓reduceIte, reduceCtorEq, Nat.reduceAdd, Int.reduceLT, Int.reduceNeg, ofVal_str, strBin, VZ24, vbox, vcells, ← hs1, b1, b2, b3]
  refine KD.ret d2 ?_
  simp only [k63_a, WK, vop, evAll, evOpt, evParts, vbuiltin, vun, vextract, Nat.reduceLT, Nat.reduceEqDiff, ↓reduceIte, reduceCtorEq, Nat.reduceAdd, Int.reduceLT, Int.reduceNeg, VZ24, vbox, vcells, IsV.new (show (flatC 5 0 []).length = 4 from rfl) (show val0C.length = 4 from rfl) (show (flatC 5 0 []).all one = true from rfl), ← hs3]
  refine KD.ret d4 ?_
  simp only [k63_a, WK, vop, evAll, evOpt, evParts, vbuiltin, vun, vextract, Nat.reduceLT, Nat.reduceEqDiff, ↓reduceIte, reduceCtorEq, Nat.reduceAdd, Int.reduceLT, Int.reduceNeg]
  refine KD.ret d5 ?_
  simp only [k63_a, WK, vop, evAll, evOpt, evParts, vbuiltin, vun, vextract, Nat.reduceLT, Nat.reduceEqDiff, ↓reduceIte, reduceCtorEq, Nat.reduceAdd, Int.reduceLT, Int.reduceNeg]
  refine KD.ret d6 ?_
  simp only [k63_a, WK, vop, evAll, evOpt, evParts, vbuiltin, vun, vextract, Nat.reduceLT, Nat.reduceEqDiff, ↓reduceIte, reduceCtorEq, Nat.reduceAdd, Int.reduceLT, Int.reduceNeg]
  obtain ⟨n, hn⟩ : ∃ n, n = min a.1 65 := ⟨_, rfl⟩
  obtain ⟨G, hG⟩ : ∃ G, G = two2 fk fv := ⟨_, rfl⟩
  have hGl : ∀ s, (G s).2.1.length ≤ s.1.length := by intro s; rw [hG]; exact Nat.le_trans (lv _) (lk s)
  have hGc : ∀ s, (G s).1.length = 2 := by intro s; rw [hG]; rfl
  rw [← hn, ← hG]
  refine Ev.loopF (InvT r σ.objs.length s2.objs.length σ.toks.length σ 5 G a.2 n) (fun i => n - i) 0 ⟨by simp [upd_some], by omega, r6, ⟨.nils, [], k6.atV hpr p3, OwnR.nil, .nil⟩, hk6, k6.atV hne q3⟩ ?_
  rintro i e0 σ1 ⟨h14, hi, hr, ⟨w, cs, hp, ho, hc⟩, hk, hq⟩ hf
  have h0 : e0 0 = .optr r 0 := (hf 0 (by decide)).trans (by simp [upd_some])
  have h4 : e0 4 = .optr σ.objs.length 0 := (hf 4 (by decide)).trans (by simp [upd_some])
  have h7 : e0 7 = .optr s2.objs.length 0 := (hf 7 (by decide)).trans (by simp [upd_some])
  have h10 : e0 10 = .str ks := (hf 10 (by decide)).trans (by simp [upd_some])
  have h11 : e0 11 = .str vs := (hf 11 (by decide)).trans (by simp [upd_some])
  have h9 : e0 9 = .bool false := (hf 9 (by decide)).trans (by simp [upd_some])
  have h13 : e0 13 = .int .i64 a.1 := (hf 13 (by decide)).trans (by simp [upd_some])
  clear hf
  have hd := bad_does hr
  have hll := rdN_len hGl a.2 i
  have hcl := rdN_count_le hGc a.2 i
  have hstay := fun h => rdN_stay (g := G) (s := a.2) (i := i) h n hi
  have hstep := fun h => rdN_step (g := G) (s := a.2) (i := i) h
  generalize hD : rdN G i a.2 = D at *
  obtain ⟨s9, j1, j2, j3⟩ := storeN hq (c := [.int .i64 5, .int .i64 0, .str [], w]) rfl rfl (by simp only [List.all_cons, List.all_nil, ho.one]; rfl)
  have hfin : D = rdN G n a.2 → ∃ c, (VRes.ret (.agg [.int .i64 5, .int .i64 0, .str [], w])) = .ret (.agg c) ∧ KeepX r σ s9 ∧ Rdr s9 r (rdN G n a.2).2.1 (rdN G n a.2).2.2 ∧ ValC (.mk 5 0 [] (rdN G n a.2).1) c := by
    intro hDn
    rw [← hDn]
    exact ⟨_, rfl, hk.via j3 (Nat.le_refl _), hr.keep j3 (Ne.symm hne), .mk (by unfold InI64; omega) (by unfold InI64; omega) (ho.vals hc)⟩
  have hwx : IntKind.i64.wrap ((i : Int) + 1) = ((i + 1 : Nat) : Int) := idx_wrap (by omega)
  by_cases hlt : i < a.1
  · have hlt' : (i : Int) < a.1 := by omega
    cases hb : D.2.2 with
    | true =>
      rw [hb] at hd
      simp only [k63_a, WK, vop, evAll, evOpt, evParts, vbuiltin, vun, vextract, Nat.reduceLT, Nat.reduceEqDiff, ↓reduceIte, reduceCtorEq, Nat.reduceAdd, Int.reduceLT, Int.reduceNeg, h0, h13, h14, hlt']
      refine KD.ret hd ?_
      simp only [k63_a, WK, vop, evAll, evOpt, evParts, vbuiltin, vun, vextract, Nat.reduceLT, Nat.reduceEqDiff, ↓reduceIte, reduceCtorEq, Nat.reduceAdd, Int.reduceLT, Int.reduceNeg, h0, h4, h7, h13, h14, hp.load (show List.length [V.int .i64 5, V.int .i64 0, .str [], w] = 4 from rfl), j1, j2.load (show List.length [V.int .i64 5, V.int .i64 0, .str [], w] = 4 from rfl)]
      exact hfin (hstay hb).symm
    | false =>
      rw [hb] at hd hr
      by_cases h64 : i ≤ 64
      · have h64' : (i : Int) ≤ 64 := by omega
        obtain ⟨rv, s4, d10, c, rfl, k10, r10, hcv⟩ := H (bs := D.2.1) (bad := false) hr (by omega)
        have l10 := lk (D.2.1, false)
        simp only at l10
        obtain ⟨rv', s5, d11, c', rfl, k11, r11, hcv'⟩ := H' r10 (by omega)
        have p10 := k10.atV hpr hp
        have p11 := k11.atV hpr p10
        obtain ⟨v8, s8, ha8, ho8, hk8, hob⟩ := (ho.keep fun k hk => k11.2.2 k (k10.2.2 k hk)).appendX VRT (q := r) (σ0 := σ) rfl ((hk.trans k10).trans k11) (t2 := 22) (y := .slice .exact 4 (c ++ c') 2) (ys := c ++ c') (l := 2) (by simp [vnews, VT22]) (by rw [List.length_append, hcv.len, hcv'.len]) (by rw [List.all_append, hcv.one, hcv'.one]; rfl) (by omega) (by omega)
        have p8 : IsV s8 s2.objs.length [.int .i64 5, .int .i64 0, .str [], w] := by unfold IsV; rw [hob]; exact p11
        have hst := vstore_obj (P := Try.prog) (off := 3) (t := 22) p8 VS22 ho8.one (by simp)
        obtain ⟨s7, hs7⟩ : ∃ s7 : St, s7 = ⟨s8.objs.set s2.objs.length (Ob.cells [.int .i64 5, .int .i64 0, .str [], v8]), s8.toks⟩ := ⟨_, rfl⟩
        have hst' : vstore Try.prog s8 22 (.optr s2.objs.length 3) v8 = some s7 := by rw [hst, hs7]; rfl
        obtain ⟨kx, p7⟩ := KeepX.set_eq p8 hs7
        have hDs : D.2 = (D.2.1, false) := by rw [← hb]
        have hst2 := hstep hb
        rw [hDs, hG] at hst2
        simp only [two2] at hst2
        simp only [k63_a, WK, vop, evAll, evOpt, evParts, vbuiltin, vun, vextract, Nat.reduceLT, Nat.reduceEqDiff, ↓reduceIte, reduceCtorEq, Nat.reduceAdd, Int.reduceLT, Int.reduceNeg, h0, h13, h14, hlt']
        refine KD.ret hd ?_
        simp only [k63_a, WK, vop, evAll, evOpt, evParts, vbuiltin, vun, vextract, Nat.reduceLT, Nat.reduceEqDiff, ↓reduceIte, reduceCtorEq, Nat.reduceAdd, Int.reduceLT, Int.reduceNeg, h0, h4, h7, h9, h10, h11, h13, h14, h64', FV3, hp.list, p10.list, p11.list]
        refine KD.ret d10 ?_
        simp only [k63_a, WK, vop, evAll, evOpt, evParts, vbuiltin, vun, vextract, Nat.reduceLT, Nat.reduceEqDiff, ↓reduceIte, reduceCtorEq, Nat.reduceAdd, Int.reduceLT, Int.reduceNeg, h0, h4, h7, h9, h10, h11, h13, h14, h64', FV3, hp.list, p10.list, p11.list]
        refine KD.ret d11 ?_
        simp only [k63_a, WK, vop, evAll, evOpt, evParts, vbuiltin, vun, vextract, Nat.reduceLT, Nat.reduceEqDiff, ↓reduceIte, reduceCtorEq, Nat.reduceAdd, Int.reduceLT, Int.reduceNeg, h0, h4, h7, h9, h13, h14, h64', FV3, hp.list, p10.list, p11.list, build2V hcv.len hcv'.len, ha8, hst', hwx]
        refine ⟨i + 1, ⟨by simp [upd_some], by omega, ?_, ⟨v8, cs ++ (c ++ c'), p7, ?_, ?_⟩, hk8.via kx (by omega), ?_⟩, by omega⟩
        · rw [← hG] at hst2
          rw [hst2, hDs]
          obtain ⟨v0, hv0, hv1⟩ := r11
          exact Rdr.keep (σ := s8) ⟨v0, by rw [hob]; exact hv0, hv1⟩ kx (Ne.symm hpr)
        · rw [← hG] at hst2
          rw [hst2, List.length_append]
          exact ho8.keep kx.2.2
        · rw [← hG] at hst2
          rw [hst2]
          have := (hc.snoc hcv).snoc hcv'
          rwa [List.append_assoc, List.append_assoc] at this
        · have : IsV s8 σ.objs.length val0C := by unfold IsV; rw [hob]; exact k11.atV hne (k10.atV hne hq)
          exact kx.atV (by omega) this
      · have h64' : ¬ (i : Int) ≤ 64 := by omega
        simp only [k63_a, WK, vop, evAll, evOpt, evParts, vbuiltin, vun, vextract, Nat.reduceLT, Nat.reduceEqDiff, ↓reduceIte, reduceCtorEq, Nat.reduceAdd, Int.reduceLT, Int.reduceNeg, h0, h13, h14, hlt']
        refine KD.ret hd ?_
        simp only [k63_a, WK, vop, evAll, evOpt, evParts, vbuiltin, vun, vextract, Nat.reduceLT, Nat.reduceEqDiff, ↓reduceIte, reduceCtorEq, Nat.reduceAdd, Int.reduceLT, Int.reduceNeg, h0, h4, h7, h13, h14, h64', hp.load (show List.length [V.int .i64 5, V.int .i64 0, .str [], w] = 4 from rfl), j1, j2.load (show List.length [V.int .i64 5, V.int .i64 0, .str [], w] = 4 from rfl)]
        exact hfin (by rw [← hD]; congr 1; omega)
  · have hlt' : ¬ (i : Int) < a.1 := by omega
    simp only [k63_a, WK, vop, evAll, evOpt, evParts, vbuiltin, vun, vextract, Nat.reduceLT, Nat.reduceEqDiff, ↓reduceIte, reduceCtorEq, Nat.reduceAdd, Int.reduceLT, Int.reduceNeg, h0, h4, h7, h13, h14, hlt', hp.load (show List.length [V.int .i64 5, V.int .i64 0, .str [], w] = 4 from rfl), j1, j2.load (show List.length [V.int .i64 5, V.int .i64 0, .str [], w] = 4 from rfl)]
    exact hfin (by rw [← hD]; congr 1; omega)
theorem vtake_does : ∀ (T : Ty), tyD T ≤ 4 → TakeOk 63 false T
  | .int, _ => take_int
  | .bool, _ => take_bool
  | .text, _ => take_text
  | .list e, h => take_list h (vtake_does e (by simp only [tyD] at h; omega))
  | .mapI e, h => take_map h rfl (tyS_mapI h) (by simp [tyB, mI]) (by simp [tyB, mI]) (by simp [tyB, mI]) (rdInt_len false) (rdS_len false e) take_int (vtake_does e (by simp only [tyD] at h; omega))
  | .mapT e, h => take_map h rfl (tyS_mapT h) (by simp [tyB, mT]) (by simp [tyB, mT]) (by simp [tyB, mT]) (rdText_len false) (rdS_len false e) take_text (vtake_does e (by simp only [tyD] at h; omega))
end Go.Proofs.Ytlimedbanpfkgaa.Q
set_option linter.unusedVariables false
set_option linter.unusedSimpArgs false
namespace Go.Proofs.Ytlimedbanpfkgaa.Q
open Go Go.RowKit Go.Proofs

/-! ### Read: the document's -/
theorem Rdr.setBad {σ : St} {r : Nat} {bs : List UInt8} {bad : Bool} (h : Rdr σ r bs bad) : ∃ σ', vstore Try.prog σ 4 (.optr r 1) (.bool true) = some σ' ∧ Rdr σ' r bs true ∧ KeepX r σ σ' := by
  obtain ⟨v, h1, h2⟩ := h
  obtain ⟨σ', hs⟩ : ∃ σ' : St, σ' = ⟨σ.objs.set r (.cells [v, .bool true]), σ.toks⟩ := ⟨_, rfl⟩
  obtain ⟨k, hk⟩ := KeepX.set_eq h1 hs
  exact ⟨σ', by rw [vstore_obj h1 S4 rfl (by simp), hs]; rfl, ⟨v, hk, h2⟩, k⟩
theorem Rdr.getBad {σ : St} {r : Nat} {bs : List UInt8} {bad : Bool} (h : Rdr σ r bs bad) : vload Try.prog σ.objs 4 (.optr r 1) = some (.bool bad) := by
  obtain ⟨v, h1, h2⟩ := h
  rw [vload_obj h1 G4]; rfl
theorem setObj {σ : St} {p off : Nat} {cs cs' : List V} {t : TypeId} {v : V} (h : IsV σ p cs) (hs : sizeT Try.prog t = some 1) (h1 : one v = true) (ho : off < cs.length) (he : cs.set off v = cs') : ∃ σ', vstore Try.prog σ t (.optr p off) v = some σ' ∧ IsV σ' p cs' ∧ KeepX p σ σ' := by
  obtain ⟨σ', e⟩ : ∃ σ' : St, σ' = ⟨σ.objs.set p (.cells cs'), σ.toks⟩ := ⟨_, rfl⟩
  obtain ⟨k, hk⟩ := KeepX.set_eq h e
  exact ⟨σ', by rw [vstore_obj h hs h1 ho, e, he], hk, k⟩

theorem read_int : TakeOk 65 true .int := by
  have hT : tyD .int ≤ 4 := by decide
  intro σ r bs bad h hl
  apply k65_is.does (by simp)
  have hlen := tyB_len .int
  have hkd := kindS_ty hT
  obtain ⟨s1, hs1⟩ : ∃ s1 : St, s1 = ⟨σ.objs ++ [Ob.cells val0C], σ.toks⟩ := ⟨_, rfl⟩
  have k1 : Keep σ s1 := by rw [hs1]; exact (Keep.refl σ).push _
  have q1 : IsV s1 σ.objs.length val0C := by rw [hs1]; exact push_new _ _
  have hrl := h.lt
  have hne : σ.objs.length ≠ r := by omega
  obtain ⟨s2, d2, k2⟩ := refzero_does (σ := s1) (tyB .int) (by omega)
  have hz : zeroS (tyB .int) = flatC 1 0 [] := by rw [zeroS, hkd]; rfl
  rw [hz] at d2
  obtain ⟨s3, hs3⟩ : ∃ s3 : St, s3 = ⟨(s2.objs ++ [Ob.cells val0C]).set s2.objs.length (Ob.cells (flatC 1 0 [])), s2.toks⟩ := ⟨_, rfl⟩
  have k3 : Keep s2 s3 := by rw [hs3]; exact (Keep.refl s2).madeV _ _
  have p3 : IsV s3 s2.objs.length [.int .i64 1, .int .i64 0, .str [], .nils] := by rw [hs3]; exact IsV.made
  have q2 := k2.atV q1
  have q3 := k3.atV q2
  have hpr : s2.objs.length ≠ r := by have := q2.lt; omega
  have hpq : σ.objs.length < s2.objs.length := q2.lt
  have h3 : Rdr s3 r bs bad := ((h.keep' k1).keep' k2).keep' k3
  have hk3 : KeepX r σ s3 := ((k1.trans k2).trans k3).x r
  obtain ⟨s4, d4, k4, r4⟩ := refnumber_does h3 (by unfold maxLen; omega)
  have l4 := numS_len bs bad
  obtain ⟨s5, d5, k5, r5⟩ := refnumber_does r4 (by unfold maxLen; omega)
  have p5 := k5.atV hpr (k4.atV hpr p3)
  have q5 := k5.atV hne (k4.atV hne q3)
  have hk5 : KeepX r σ s5 := (hk3.trans k4).trans k5
  have ia := numS_in bs bad
  have ib := numS_in (numS bs bad).2.1 (numS bs bad).2.2
  simp only [k65_a, WK, vop, evAll, evOpt, evParts, vbuiltin, vun, vextract, Nat.reduceLT, Nat.reduceEqDiff, ↓reduceIte, reduceCtorEq, Nat.reduceAdd, Int.reduceLT, Int.reduceNeg, VZ24, vbox, vcells, ← hs1]
  refine KD.ret d2 ?_
  simp only [k65_a, WK, vop, evAll, evOpt, evParts, vbuiltin, vun, vextract, Nat.reduceLT, Nat.reduceEqDiff, ↓reduceIte, reduceCtorEq, Nat.reduceAdd, Int.reduceLT, Int.reduceNeg, VZ24, vbox, vcells, IsV.new (show (flatC 1 0 []).length = 4 from rfl) (show val0C.length = 4 from rfl) (show (flatC 1 0 []).all one = true from rfl), ← hs3, FV0, p3.kind, Int.reduceEq]
  refine KD.ret d4 ?_
  simp only [k65_a, WK, vop, evAll, evOpt, evParts, vbuiltin, vun, vextract, Nat.reduceLT, Nat.reduceEqDiff, ↓reduceIte, reduceCtorEq, Nat.reduceAdd, Int.reduceLT, Int.reduceNeg]
  refine KD.ret d5 ?_
  unfold rdS rdInt
  simp only [Bool.true_and]
  generalize hA : numS bs bad = a at *
  generalize hB : numS a.2.1 a.2.2 = b at *
  by_cases h1 : 1 < a.1
  · have h1' : (1 : Int) < a.1 := by omega
    have h2' : ¬ (a.1 : Int) = 1 := by omega
    obtain ⟨s6, g1, r6, k6⟩ := r5.setBad
    obtain ⟨s7, g2, p7, k7⟩ := setObj (k6.atV hpr p5) S3 (v := .int .i64 (b.1 : Int)) (off := 1) (cs' := flatC 1 (b.1 : Int) []) rfl (by simp) rfl
    obtain ⟨s8, g3, q8, k8⟩ := storeN (k7.atV (by omega) (k6.atV hne q5)) (c := flatC 1 (b.1 : Int) []) rfl rfl rfl
    simp only [k65_a, WK, vop, evAll, evOpt, evParts, vbuiltin, vun, vextract, Nat.reduceLT, Nat.reduceEqDiff, ↓reduceIte, reduceCtorEq, Nat.reduceAdd, Int.reduceLT, Int.reduceNeg, h1', h2', FB1, FV1, g1, g2, p7.load (show (flatC 1 (b.1 : Int) []).length = 4 from rfl), g3, q8.load (show (flatC 1 (b.1 : Int) []).length = 4 from rfl)]
    refine ⟨_, rfl, ((hk5.trans k6).via k7 (by omega)).via k8 (Nat.le_refl _), ?_, ?_⟩
    · simp only [h1, decide_true, Bool.or_true]
      exact (r6.keep k7 (Ne.symm hpr)).keep k8 (Ne.symm hne)
    · rw [if_neg (by omega)]
      exact flatC_ok [] (by unfold InI64; omega) (by unfold InI64; omega)
  · have h1' : ¬ (1 : Int) < a.1 := by omega
    by_cases h2 : a.1 = 1
    · have h2' : (a.1 : Int) = 1 := by omega
      have w1 : IntKind.i64.wrap (0 - (b.1 : Int)) = -(b.1 : Int) := by rw [wrap_i64 (by omega) (by omega)]; omega
      have w2 : IntKind.i64.wrap (-(b.1 : Int) - 1) = -(b.1 : Int) - 1 := wrap_i64 (by omega) (by omega)
      obtain ⟨s7, g2, p7, k7⟩ := setObj p5 S3 (v := .int .i64 (-(b.1 : Int) - 1)) (off := 1) (cs' := flatC 1 (-(b.1 : Int) - 1) []) rfl (by simp) rfl
      obtain ⟨s8, g3, q8, k8⟩ := storeN (k7.atV (by omega) q5) (c := flatC 1 (-(b.1 : Int) - 1) []) rfl rfl rfl
      simp only [k65_a, WK, vop, evAll, evOpt, evParts, vbuiltin, vun, vextract, Nat.reduceLT, Nat.reduceEqDiff, ↓reduceIte, reduceCtorEq, Nat.reduceAdd, Int.reduceLT, Int.reduceNeg, h2', Int.lt_irrefl, w1, w2, FV1, g2, p7.load (show (flatC 1 (-(b.1 : Int) - 1) []).length = 4 from rfl), g3, q8.load (show (flatC 1 (-(b.1 : Int) - 1) []).length = 4 from rfl)]
      refine ⟨_, rfl, (hk5.via k7 (by omega)).via k8 (Nat.le_refl _), ?_, ?_⟩
      · simp only [h1, decide_false, Bool.or_false]
        exact (r5.keep k7 (Ne.symm hpr)).keep k8 (Ne.symm hne)
      · rw [if_pos h2]
        exact flatC_ok [] (by unfold InI64; omega) (by unfold InI64; omega)
    · have h2' : ¬ (a.1 : Int) = 1 := by omega
      obtain ⟨s7, g2, p7, k7⟩ := setObj p5 S3 (v := .int .i64 (b.1 : Int)) (off := 1) (cs' := flatC 1 (b.1 : Int) []) rfl (by simp) rfl
      obtain ⟨s8, g3, q8, k8⟩ := storeN (k7.atV (by omega) q5) (c := flatC 1 (b.1 : Int) []) rfl rfl rfl
      simp only [k65_a, WK, vop, evAll, evOpt, evParts, vbuiltin, vun, vextract, Nat.reduceLT, Nat.reduceEqDiff, ↓reduceIte, reduceCtorEq, Nat.reduceAdd, Int.reduceLT, Int.reduceNeg, h1', h2', FV1, g2, p7.load (show (flatC 1 (b.1 : Int) []).length = 4 from rfl), g3, q8.load (show (flatC 1 (b.1 : Int) []).length = 4 from rfl)]
      refine ⟨_, rfl, (hk5.via k7 (by omega)).via k8 (Nat.le_refl _), ?_, ?_⟩
      · simp only [h1, decide_false, Bool.or_false]
        exact (r5.keep k7 (Ne.symm hpr)).keep k8 (Ne.symm hne)
      · rw [if_neg h2]
        exact flatC_ok [] (by unfold InI64; omega) (by unfold InI64; omega)

theorem read_bool : TakeOk 65 true .bool := by
  have hT : tyD .bool ≤ 4 := by decide
  intro σ r bs bad h hl
  apply k65_is.does (by simp)
  have hlen := tyB_len .bool
  have hkd := kindS_ty hT
  obtain ⟨s1, hs1⟩ : ∃ s1 : St, s1 = ⟨σ.objs ++ [Ob.cells val0C], σ.toks⟩ := ⟨_, rfl⟩
  have k1 : Keep σ s1 := by rw [hs1]; exact (Keep.refl σ).push _
  have q1 : IsV s1 σ.objs.length val0C := by rw [hs1]; exact push_new _ _
  have hrl := h.lt
  have hne : σ.objs.length ≠ r := by omega
  obtain ⟨s2, d2, k2⟩ := refzero_does (σ := s1) (tyB .bool) (by omega)
  have hz : zeroS (tyB .bool) = flatC 2 0 [] := by rw [zeroS, hkd]; rfl
  rw [hz] at d2
  obtain ⟨s3, hs3⟩ : ∃ s3 : St, s3 = ⟨(s2.objs ++ [Ob.cells val0C]).set s2.objs.length (Ob.cells (flatC 2 0 [])), s2.toks⟩ := ⟨_, rfl⟩
  have k3 : Keep s2 s3 := by rw [hs3]; exact (Keep.refl s2).madeV _ _
  have p3 : IsV s3 s2.objs.length [.int .i64 2, .int .i64 0, .str [], .nils] := by rw [hs3]; exact IsV.made
  have q2 := k2.atV q1
  have q3 := k3.atV q2
  have hpr : s2.objs.length ≠ r := by have := q2.lt; omega
  have hpq : σ.objs.length < s2.objs.length := q2.lt
  have h3 : Rdr s3 r bs bad := ((h.keep' k1).keep' k2).keep' k3
  have hk3 : KeepX r σ s3 := ((k1.trans k2).trans k3).x r
  obtain ⟨s4, d4, k4, r4⟩ := refnumber_does h3 (by unfold maxLen; omega)
  have p4 := k4.atV hpr p3
  have q4 := k4.atV hne q3
  have hk4 : KeepX r σ s4 := hk3.trans k4
  have ia := numS_in bs bad
  simp only [k65_a, WK, vop, evAll, evOpt, evParts, vbuiltin, vun, vextract, Nat.reduceLT, Nat.reduceEqDiff, ↓reduceIte, reduceCtorEq, Nat.reduceAdd, Int.reduceLT, Int.reduceNeg, VZ24, vbox, vcells, ← hs1]
  refine KD.ret d2 ?_
  simp only [k65_a, WK, vop, evAll, evOpt, evParts, vbuiltin, vun, vextract, Nat.reduceLT, Nat.reduceEqDiff, ↓reduceIte, reduceCtorEq, Nat.reduceAdd, Int.reduceLT, Int.reduceNeg, VZ24, vbox, vcells, IsV.new (show (flatC 2 0 []).length = 4 from rfl) (show val0C.length = 4 from rfl) (show (flatC 2 0 []).all one = true from rfl), ← hs3, FV0, p3.kind, Int.reduceEq]
  refine KD.ret d4 ?_
  unfold rdS rdBool
  simp only [Bool.true_and]
  generalize hA : numS bs bad = a at *
  obtain ⟨s5, g1, p5, k5⟩ := setObj p4 S3 (v := .int .i64 (a.1 : Int)) (off := 1) (cs' := [.int .i64 2, .int .i64 (a.1 : Int), .str [], .nils]) rfl (by simp) rfl
  have hk5 : KeepX r σ s5 := hk4.via k5 (by omega)
  have r5 := r4.keep k5 (Ne.symm hpr)
  have q5 := k5.atV (by omega) q4
  by_cases h1 : 1 < a.1
  · have h1' : (1 : Int) < a.1 := by omega
    obtain ⟨s6, g2, r6, k6⟩ := r5.setBad
    have p6 := k6.atV hpr p5
    obtain ⟨s8, g3, q8, k8⟩ := storeN (k6.atV hne q5) (c := [.int .i64 2, .int .i64 (a.1 : Int), .str [], .nils]) rfl rfl rfl
    simp only [k65_a, WK, vop, evAll, evOpt, evParts, vbuiltin, vun, vextract, Nat.reduceLT, Nat.reduceEqDiff, ↓reduceIte, reduceCtorEq, Nat.reduceAdd, Int.reduceLT, Int.reduceNeg, FV1, g1, p5.num, h1', FB1, g2, p6.load (show List.length [V.int .i64 2, .int .i64 (a.1 : Int), .str [], .nils] = 4 from rfl), g3, q8.load (show List.length [V.int .i64 2, .int .i64 (a.1 : Int), .str [], .nils] = 4 from rfl)]
    refine ⟨_, rfl, (hk5.trans k6).via k8 (Nat.le_refl _), ?_, flatC_ok [] (by unfold InI64; omega) (by unfold InI64; omega)⟩
    simp only [h1, decide_true, Bool.or_true]
    exact r6.keep k8 (Ne.symm hne)
  · have h1' : ¬ (1 : Int) < a.1 := by omega
    obtain ⟨s8, g3, q8, k8⟩ := storeN q5 (c := [.int .i64 2, .int .i64 (a.1 : Int), .str [], .nils]) rfl rfl rfl
    simp only [k65_a, WK, vop, evAll, evOpt, evParts, vbuiltin, vun, vextract, Nat.reduceLT, Nat.reduceEqDiff, ↓reduceIte, reduceCtorEq, Nat.reduceAdd, Int.reduceLT, Int.reduceNeg, FV1, g1, p5.num, h1', p5.load (show List.length [V.int .i64 2, .int .i64 (a.1 : Int), .str [], .nils] = 4 from rfl), g3, q8.load (show List.length [V.int .i64 2, .int .i64 (a.1 : Int), .str [], .nils] = 4 from rfl)]
    refine ⟨_, rfl, hk5.via k8 (Nat.le_refl _), ?_, flatC_ok [] (by unfold InI64; omega) (by unfold InI64; omega)⟩
    simp only [h1, decide_false, Bool.or_false]
    exact r5.keep k8 (Ne.symm hne)

theorem read_text : TakeOk 65 true .text := by
  have hT : tyD .text ≤ 4 := by decide
  intro σ r bs bad h hl
  apply k65_is.does (by simp)
  have hlen := tyB_len .text
  have hkd := kindS_ty hT
  obtain ⟨s1, hs1⟩ : ∃ s1 : St, s1 = ⟨σ.objs ++ [Ob.cells val0C], σ.toks⟩ := ⟨_, rfl⟩
  have k1 : Keep σ s1 := by rw [hs1]; exact (Keep.refl σ).push _
  have q1 : IsV s1 σ.objs.length val0C := by rw [hs1]; exact push_new _ _
  have hrl := h.lt
  have hne : σ.objs.length ≠ r := by omega
  obtain ⟨s2, d2, k2⟩ := refzero_does (σ := s1) (tyB .text) (by omega)
  have hz : zeroS (tyB .text) = flatC 3 0 [] := by rw [zeroS, hkd]; rfl
  rw [hz] at d2
  obtain ⟨s3, hs3⟩ : ∃ s3 : St, s3 = ⟨(s2.objs ++ [Ob.cells val0C]).set s2.objs.length (Ob.cells (flatC 3 0 [])), s2.toks⟩ := ⟨_, rfl⟩
  have k3 : Keep s2 s3 := by rw [hs3]; exact (Keep.refl s2).madeV _ _
  have p3 : IsV s3 s2.objs.length [.int .i64 3, .int .i64 0, .str [], .nils] := by rw [hs3]; exact IsV.made
  have q2 := k2.atV q1
  have q3 := k3.atV q2
  have hpr : s2.objs.length ≠ r := by have := q2.lt; omega
  have hpq : σ.objs.length < s2.objs.length := q2.lt
  have h3 : Rdr s3 r bs bad := ((h.keep' k1).keep' k2).keep' k3
  have hk3 : KeepX r σ s3 := ((k1.trans k2).trans k3).x r
  obtain ⟨s4, d4, k4, r4⟩ := refnumber_does h3 (by unfold maxLen; omega)
  have p4 := k4.atV hpr p3
  have q4 := k4.atV hne q3
  have hk4 : KeepX r σ s4 := hk3.trans k4
  have ia := numS_in bs bad
  have l4 := numS_len bs bad
  simp only [k65_a, WK, vop, evAll, evOpt, evParts, vbuiltin, vun, vextract, Nat.reduceLT, Nat.reduceEqDiff, ↓reduceIte, reduceCtorEq, Nat.reduceAdd, Int.reduceLT, Int.reduceNeg, VZ24, vbox, vcells, ← hs1]
  refine KD.ret d2 ?_
  simp only [k65_a, WK, vop, evAll, evOpt, evParts, vbuiltin, vun, vextract, Nat.reduceLT, Nat.reduceEqDiff, ↓reduceIte, reduceCtorEq, Nat.reduceAdd, Int.reduceLT, Int.reduceNeg, VZ24, vbox, vcells, IsV.new (show (flatC 3 0 []).length = 4 from rfl) (show val0C.length = 4 from rfl) (show (flatC 3 0 []).all one = true from rfl), ← hs3, FV0, p3.kind, Int.reduceEq]
  refine KD.ret d4 ?_
  unfold rdS rdText
  simp only [Bool.true_and]
  generalize hA : numS bs bad = a at *
  have tail : ∀ (s5 : St) (bd : Bool), bd = (a.2.2 || decide (256 < a.1)) → KeepX r σ s5 → Rdr s5 r a.2.1 bd → IsV s5 s2.objs.length [.int .i64 3, .int .i64 0, .str [], .nils] → IsV s5 σ.objs.length val0C →
      ∃ v s6 s7 s8, Does Try.prog prims 87 [.optr r 0, .int .i64 (a.1 : Int)] s5 (.ret v) s6 ∧ vconv Try.prog 44 9 v = some (.str (bytS a.2.1 bd (a.1 : Int)).1) ∧ vstore Try.prog s6 9 (.optr s2.objs.length 2) (.str (bytS a.2.1 bd (a.1 : Int)).1) = some s7 ∧
        vload Try.prog s7.objs 24 (.optr s2.objs.length 0) = some (.agg [.int .i64 3, .int .i64 0, .str (bytS a.2.1 bd (a.1 : Int)).1, .nils]) ∧ vstore Try.prog s7 24 (.optr σ.objs.length 0) (.agg [.int .i64 3, .int .i64 0, .str (bytS a.2.1 bd (a.1 : Int)).1, .nils]) = some s8 ∧
        vload Try.prog s8.objs 24 (.optr σ.objs.length 0) = some (.agg [.int .i64 3, .int .i64 0, .str (bytS a.2.1 bd (a.1 : Int)).1, .nils]) ∧
        ∃ c, (VRes.ret (.agg [.int .i64 3, .int .i64 0, .str (bytS a.2.1 bd (a.1 : Int)).1, .nils])) = .ret (.agg c) ∧ KeepX r σ s8 ∧ Rdr s8 r (bytS a.2.1 (a.2.2 || decide (256 < a.1)) (a.1 : Int)).2.1 (bytS a.2.1 (a.2.2 || decide (256 < a.1)) (a.1 : Int)).2.2 ∧ ValC (.mk 3 0 (bytS a.2.1 (a.2.2 || decide (256 < a.1)) (a.1 : Int)).1 []) c := by
    rintro s5 bd rfl hk5 r5 p5 q5
    obtain ⟨v, s6, d6, k6, r6, hv⟩ := refbytes_does r5 (by omega) (a.1 : Int)
    have hv2 := hv.str T22 (t2 := 9) (by kernel_rfl) T9
    obtain ⟨s7, g7, p7, k7⟩ := setObj (k6.atV hpr p5) S9 (v := .str (bytS a.2.1 (a.2.2 || decide (256 < a.1)) (a.1 : Int)).1) (off := 2) (cs' := [.int .i64 3, .int .i64 0, .str (bytS a.2.1 (a.2.2 || decide (256 < a.1)) (a.1 : Int)).1, .nils]) rfl (by simp) rfl
    obtain ⟨s8, g8, q8, k8⟩ := storeN (k7.atV (by omega) (k6.atV hne q5)) (c := [.int .i64 3, .int .i64 0, .str (bytS a.2.1 (a.2.2 || decide (256 < a.1)) (a.1 : Int)).1, .nils]) rfl rfl rfl
    exact ⟨v, s6, s7, s8, d6, hv2, g7, p7.load rfl, g8, q8.load rfl, _, rfl, ((hk5.trans k6).via k7 (by omega)).via k8 (Nat.le_refl _), (r6.keep k7 (Ne.symm hpr)).keep k8 (Ne.symm hne), flatC_ok _ (by unfold InI64; omega) (by unfold InI64; omega)⟩
  by_cases h1 : 256 < a.1
  · have h1' : (256 : Int) < a.1 := by omega
    obtain ⟨s5, g1, r5, k5⟩ := r4.setBad
    obtain ⟨v, s6, s7, s8, d6, e1, e2, e3, e4, e5, e6⟩ := tail s5 true (by simp [h1]) (hk4.trans k5) r5 (k5.atV hpr p4) (k5.atV hne q4)
    simp only [k65_a, WK, vop, evAll, evOpt, evParts, vbuiltin, vun, vextract, Nat.reduceLT, Nat.reduceEqDiff, ↓reduceIte, reduceCtorEq, Nat.reduceAdd, Int.reduceLT, Int.reduceNeg, h1', FB1, g1]
    refine KD.ret d6 ?_
    simp only [k65_a, WK, vop, evAll, evOpt, evParts, vbuiltin, vun, vextract, Nat.reduceLT, Nat.reduceEqDiff, ↓reduceIte, reduceCtorEq, Nat.reduceAdd, Int.reduceLT, Int.reduceNeg, FV2, e1, e2, e3, e4, e5]
    exact e6
  · have h1' : ¬ (256 : Int) < a.1 := by omega
    obtain ⟨v, s6, s7, s8, d6, e1, e2, e3, e4, e5, e6⟩ := tail s4 a.2.2 (by simp [h1]) hk4 r4 p4 q4
    simp only [k65_a, WK, vop, evAll, evOpt, evParts, vbuiltin, vun, vextract, Nat.reduceLT, Nat.reduceEqDiff, ↓reduceIte, reduceCtorEq, Nat.reduceAdd, Int.reduceLT, Int.reduceNeg, h1']
    refine KD.ret d6 ?_
    simp only [k65_a, WK, vop, evAll, evOpt, evParts, vbuiltin, vun, vextract, Nat.reduceLT, Nat.reduceEqDiff, ↓reduceIte, reduceCtorEq, Nat.reduceAdd, Int.reduceLT, Int.reduceNeg, FV2, e1, e2, e3, e4, e5]
    exact e6

def InvR (x : Nat) (r q p m : Nat) (σ0 : St) (K : Int) (g : RS → List Val × RS) (s : RS) (n : Nat) : Nat → (Nat → V) → St → Prop := fun i e σ =>
  e x = .int .i64 i ∧ i ≤ n ∧ Rdr σ r (rdN g i s).2.1 (rdN g i s).2.2 ∧ (∃ w cs, IsV σ p [.int .i64 K, .int .i64 0, .str [], w] ∧ OwnR 24 4 m σ w cs (rdN g i s).1.length ∧ ValsC (rdN g i s).1 cs) ∧ KeepX r σ0 σ ∧ IsV σ q val0C

set_option maxRecDepth 100000 in
theorem read_list {e : Ty} (hT : tyD (.list e) ≤ 4) (H : TakeOk 65 true e) : TakeOk 65 true (.list e) := by
  intro σ r bs bad h hl
  apply k65_is.does (by simp)
  have hlen := tyB_len (.list e)
  have hkd := kindS_ty hT
  obtain ⟨s1, hs1⟩ : ∃ s1 : St, s1 = ⟨σ.objs ++ [Ob.cells val0C], σ.toks⟩ := ⟨_, rfl⟩
  have k1 : Keep σ s1 := by rw [hs1]; exact (Keep.refl σ).push _
  have q1 : IsV s1 σ.objs.length val0C := by rw [hs1]; exact push_new _ _
  have hrl := h.lt
  have hne : σ.objs.length ≠ r := by omega
  obtain ⟨s2, d2, k2⟩ := refzero_does (σ := s1) (tyB (.list e)) (by omega)
  have hz : zeroS (tyB (.list e)) = flatC 4 0 [] := by rw [zeroS, hkd]; rfl
  rw [hz] at d2
  obtain ⟨s3, hs3⟩ : ∃ s3 : St, s3 = ⟨(s2.objs ++ [Ob.cells val0C]).set s2.objs.length (Ob.cells (flatC 4 0 [])), s2.toks⟩ := ⟨_, rfl⟩
  have k3 : Keep s2 s3 := by rw [hs3]; exact (Keep.refl s2).madeV _ _
  have p3 : IsV s3 s2.objs.length [.int .i64 4, .int .i64 0, .str [], .nils] := by rw [hs3]; exact IsV.made
  have q2 := k2.atV q1
  have q3 := k3.atV q2
  have hpr : s2.objs.length ≠ r := by have := q2.lt; omega
  have hpq : σ.objs.length < s2.objs.length := q2.lt
  have h3 : Rdr s3 r bs bad := ((h.keep' k1).keep' k2).keep' k3
  have hk3 : KeepX r σ s3 := ((k1.trans k2).trans k3).x r
  obtain ⟨g1, g2⟩ := tyS_list hT
  obtain ⟨s6, d6, k6, r6⟩ := refnumber_does h3 (by unfold maxLen; omega)
  have l6 := numS_len bs bad
  have ia := numS_in bs bad
  unfold rdS rdRow
  simp only [Bool.true_and]
  generalize hA : numS bs bad = a at *
  have hk6 : KeepX r σ s6 := hk3.trans k6
  have p6 := k6.atV hpr p3
  have q6 := k6.atV hne q3
  simp only [k65_a, WK, vop, evAll, evOpt, evParts, vbuiltin, vun, vextract, Nat.reduceLT, Nat.reduceEqDiff, ↓reduceIte, reduceCtorEq, Nat.reduceAdd, Int.reduceLT, Int.reduceNeg, VZ24, vbox, vcells, ← hs1]
  refine KD.ret d2 ?_
  simp only [k65_a, WK, vop, evAll, evOpt, evParts, vbuiltin, vun, vextract, Nat.reduceLT, Nat.reduceEqDiff, ↓reduceIte, reduceCtorEq, Nat.reduceAdd, Int.reduceLT, Int.reduceNeg, VZ24, vbox, vcells, IsV.new (show (flatC 4 0 []).length = 4 from rfl) (show val0C.length = 4 from rfl) (show (flatC 4 0 []).all one = true from rfl), ← hs3, FV0, p3.kind, Int.reduceEq]
  refine KD.ret d6 ?_
  by_cases h64 : 64 < a.1
  · have h64' : (64 : Int) < a.1 := by omega
    obtain ⟨s7, j1, r7, k7⟩ := r6.setBad
    obtain ⟨s9, j3, j4, j5⟩ := storeN (k7.atV hne q6) (c := [.int .i64 4, .int .i64 0, .str [], .nils]) rfl rfl rfl
    have hlt' : (0 : Int) < a.1 := by omega
    simp only [k65_a, WK, vop, evAll, evOpt, evParts, vbuiltin, vun, vextract, Nat.reduceLT, Nat.reduceEqDiff, ↓reduceIte, reduceCtorEq, Nat.reduceAdd, Int.reduceLT, Int.reduceNeg, h64', FB1, j1]
    rw [Ev_loop]
    simp only [k65_a, WK, vop, evAll, evOpt, evParts, vbuiltin, vun, vextract, Nat.reduceLT, Nat.reduceEqDiff, ↓reduceIte, reduceCtorEq, Nat.reduceAdd, Int.reduceLT, Int.reduceNeg, seqK, hlt', FB1, r7.getBad, (k7.atV hpr p6).load (show List.length [V.int .i64 4, V.int .i64 0, .str [], .nils] = 4 from rfl), j3, j4.load (show List.length [V.int .i64 4, V.int .i64 0, .str [], .nils] = 4 from rfl)]
    simp only [h64, decide_true, Bool.or_true]
    rw [rdN_bad _ rfl]
    exact ⟨_, rfl, (hk6.trans k7).via j5 (Nat.le_refl _), r7.keep j5 (Ne.symm hne), flatC_ok [] (by unfold InI64; omega) (by unfold InI64; omega)⟩
  · have h64' : ¬ (64 : Int) < a.1 := by omega
    simp only [h64, decide_false, Bool.or_false]
    simp only [k65_a, WK, vop, evAll, evOpt, evParts, vbuiltin, vun, vextract, Nat.reduceLT, Nat.reduceEqDiff, ↓reduceIte, reduceCtorEq, Nat.reduceAdd, Int.reduceLT, Int.reduceNeg, h64']
    obtain ⟨n, hn⟩ : ∃ n, n = min a.1 65 := ⟨_, rfl⟩
    have hna : n = a.1 := by omega
    obtain ⟨G, hG⟩ : ∃ G, G = one1 (rdS true e) := ⟨_, rfl⟩
    have hGl : ∀ s, (G s).2.1.length ≤ s.1.length := by intro s; rw [hG]; exact rdS_len true e s
    have hGc : ∀ s, (G s).1.length = 1 := by intro s; rw [hG]; rfl
    rw [← hn, ← hG]
    refine Ev.loopF (InvR 10 r σ.objs.length s2.objs.length σ.toks.length σ 4 G a.2 n) (fun i => n - i) 0 ⟨by simp [upd_some], by omega, r6, ⟨.nils, [], p6, OwnR.nil, .nil⟩, hk6, q6⟩ ?_
    rintro i e0 σ1 ⟨h14, hi, hr, ⟨w, cs, hp, ho, hc⟩, hk, hq⟩ hf
    have h0 : e0 0 = .optr r 0 := (hf 0 (by decide)).trans (by simp [upd_some])
    have h4 : e0 4 = .optr σ.objs.length 0 := (hf 4 (by decide)).trans (by simp [upd_some])
    have h5 : e0 5 = .optr s2.objs.length 0 := (hf 5 (by decide)).trans (by simp [upd_some])
    have h13 : e0 9 = .int .i64 a.1 := (hf 9 (by decide)).trans (by simp [upd_some])
    have h1 : e0 1 = .str (tyB (.list e)) := (hf 1 (by decide)).trans (by simp [upd_some])
    clear hf
    have hll := rdN_len hGl a.2 i
    have hcl := rdN_count_le hGc a.2 i
    have hstay := fun h => rdN_stay (g := G) (s := a.2) (i := i) h n hi
    have hstep := fun h => rdN_step (g := G) (s := a.2) (i := i) h
    generalize hD : rdN G i a.2 = D at *
    obtain ⟨s9, j1, j2, j3⟩ := storeN hq (c := [.int .i64 4, .int .i64 0, .str [], w]) rfl rfl (by simp only [List.all_cons, List.all_nil, ho.one]; rfl)
    have hfin : D = rdN G n a.2 → ∃ c, (VRes.ret (.agg [.int .i64 4, .int .i64 0, .str [], w])) = .ret (.agg c) ∧ KeepX r σ s9 ∧ Rdr s9 r (rdN G n a.2).2.1 (rdN G n a.2).2.2 ∧ ValC (.mk 4 0 [] (rdN G n a.2).1) c := by
      intro hDn
      rw [← hDn]
      exact ⟨_, rfl, hk.via j3 (Nat.le_refl _), hr.keep j3 (Ne.symm hne), .mk (by unfold InI64; omega) (by unfold InI64; omega) (ho.vals hc)⟩
    have hwx : IntKind.i64.wrap ((i : Int) + 1) = ((i + 1 : Nat) : Int) := idx_wrap (by omega)
    have hgb := hr.getBad
    by_cases hlt : i < a.1
    · have hlt' : (i : Int) < a.1 := by omega
      cases hb : D.2.2 with
      | true =>
        rw [hb] at hgb
        simp only [k65_a, WK, vop, evAll, evOpt, evParts, vbuiltin, vun, vextract, Nat.reduceLT, Nat.reduceEqDiff, ↓reduceIte, reduceCtorEq, Nat.reduceAdd, Int.reduceLT, Int.reduceNeg, h0, h4, h5, h13, h14, hlt', FB1, hgb, hp.load (show List.length [V.int .i64 4, V.int .i64 0, .str [], w] = 4 from rfl), j1, j2.load (show List.length [V.int .i64 4, V.int .i64 0, .str [], w] = 4 from rfl)]
        exact hfin (hstay hb).symm
      | false =>
        rw [hb] at hgb hr
        obtain ⟨rv, s4, d10, c, rfl, k10, r10, hcv⟩ := H (bs := D.2.1) (bad := false) hr (by omega)
        have d9 := reflist_does (tyB (.list e)) (by omega) σ1
        rw [g1] at d9
        have p10 := k10.atV hpr hp
        obtain ⟨v8, s8, ha8, ho8, hk8, hob⟩ := (ho.keep k10.2.2).appendX VRT (q := r) (σ0 := σ) rfl (hk.trans k10) (t2 := 22) (y := .slice .exact 4 c 1) (ys := c) (l := 1) (by simp [vnews, VT22]) hcv.len hcv.one (by omega) (by omega)
        have p8 : IsV s8 s2.objs.length [.int .i64 4, .int .i64 0, .str [], w] := by unfold IsV; rw [hob]; exact p10
        obtain ⟨s7, hst', p7, kx⟩ := setObj p8 VS22 (v := v8) (off := 3) (cs' := [.int .i64 4, .int .i64 0, .str [], v8]) ho8.one (by simp) rfl
        have hDs : D.2 = (D.2.1, false) := by rw [← hb]
        have hst2 := hstep hb
        rw [hDs, hG] at hst2
        simp only [one1] at hst2
        simp only [k65_a, WK, vop, evAll, evOpt, evParts, vbuiltin, vun, vextract, Nat.reduceLT, Nat.reduceEqDiff, ↓reduceIte, reduceCtorEq, Nat.reduceAdd, Int.reduceLT, Int.reduceNeg, h0, h13, h14, hlt', FB1, hgb, h1, h4, h5, FV3, hp.list, p10.list]
        refine KD.ret d9 ?_
        simp only [k65_a, WK, vop, evAll, evOpt, evParts, vbuiltin, vun, vextract, Nat.reduceLT, Nat.reduceEqDiff, ↓reduceIte, reduceCtorEq, Nat.reduceAdd, Int.reduceLT, Int.reduceNeg, h0, h1, h4, h5, h13, h14, FV3, hp.list, p10.list]
        refine KD.ret d10 ?_
        simp only [k65_a, WK, vop, evAll, evOpt, evParts, vbuiltin, vun, vextract, Nat.reduceLT, Nat.reduceEqDiff, ↓reduceIte, reduceCtorEq, Nat.reduceAdd, Int.reduceLT, Int.reduceNeg, h0, h1, h4, h5, h13, h14, FV3, hp.list, p10.list, build1V hcv.len, ha8, hst', hwx]
        refine ⟨i + 1, ⟨by simp [upd_some], by omega, ?_, ⟨v8, cs ++ c, p7, ?_, ?_⟩, hk8.via kx (by omega), ?_⟩, by omega⟩
        · rw [← hG] at hst2
          rw [hst2, hDs]
          obtain ⟨v0, hv0, hv1⟩ := r10
          exact Rdr.keep (σ := s8) ⟨v0, by rw [hob]; exact hv0, hv1⟩ kx (Ne.symm hpr)
        · rw [← hG] at hst2
          rw [hst2, List.length_append, List.length_singleton]
          exact ho8.keep kx.2.2
        · rw [← hG] at hst2
          rw [hst2]
          exact hc.snoc hcv
        · have : IsV s8 σ.objs.length val0C := by unfold IsV; rw [hob]; exact k10.atV hne hq
          exact kx.atV (by omega) this
    · have hlt' : ¬ (i : Int) < a.1 := by omega
      simp only [k65_a, WK, vop, evAll, evOpt, evParts, vbuiltin, vun, vextract, Nat.reduceLT, Nat.reduceEqDiff, ↓reduceIte, reduceCtorEq, Nat.reduceAdd, Int.reduceLT, Int.reduceNeg, h0, h4, h5, h13, h14, hlt', hp.load (show List.length [V.int .i64 4, V.int .i64 0, .str [], w] = 4 from rfl), j1, j2.load (show List.length [V.int .i64 4, V.int .i64 0, .str [], w] = 4 from rfl)]
      exact hfin (by rw [← hD]; congr 1; omega)

set_option maxRecDepth 100000 in
theorem read_map {T : Ty} {ks vs : List UInt8} {fk fv : RS → Val × RS} (hT : tyD T ≤ 4) (hK : tyK T = 5) (hls : keyS (tyB T) = ks ∧ valS (tyB T) = vs)
    (lk : ∀ s, (fk s).2.1.length ≤ s.1.length) (lv : ∀ s, (fv s).2.1.length ≤ s.1.length)
    (H : TakeF 65 ks fk) (H' : TakeF 65 vs fv) : TakeF 65 (tyB T) (rdRow true 5 (two2 fk fv)) := by
  intro σ r bs bad h hl
  apply k65_is.does (by simp)
  have hlen := tyB_len T
  have hkd := kindS_ty hT
  obtain ⟨s1, hs1⟩ : ∃ s1 : St, s1 = ⟨σ.objs ++ [Ob.cells val0C], σ.toks⟩ := ⟨_, rfl⟩
  have k1 : Keep σ s1 := by rw [hs1]; exact (Keep.refl σ).push _
  have q1 : IsV s1 σ.objs.length val0C := by rw [hs1]; exact push_new _ _
  have hrl := h.lt
  have hne : σ.objs.length ≠ r := by omega
  obtain ⟨s2, d2, k2⟩ := refzero_does (σ := s1) (tyB T) (by omega)
  have hz : zeroS (tyB T) = flatC 5 0 [] := by rw [zeroS, hkd]; rw [hK]
  rw [hz] at d2
  obtain ⟨s3, hs3⟩ : ∃ s3 : St, s3 = ⟨(s2.objs ++ [Ob.cells val0C]).set s2.objs.length (Ob.cells (flatC 5 0 [])), s2.toks⟩ := ⟨_, rfl⟩
  have k3 : Keep s2 s3 := by rw [hs3]; exact (Keep.refl s2).madeV _ _
  have p3 : IsV s3 s2.objs.length [.int .i64 5, .int .i64 0, .str [], .nils] := by rw [hs3]; exact IsV.made
  have q2 := k2.atV q1
  have q3 := k3.atV q2
  have hpr : s2.objs.length ≠ r := by have := q2.lt; omega
  have hpq : σ.objs.length < s2.objs.length := q2.lt
  have h3 : Rdr s3 r bs bad := ((h.keep' k1).keep' k2).keep' k3
  have hk3 : KeepX r σ s3 := ((k1.trans k2).trans k3).x r
  have dm := refmap_does (tyB T) (by omega) s3
  rw [hls.1, hls.2] at dm
  obtain ⟨s6, d6, k6, r6⟩ := refnumber_does h3 (by unfold maxLen; omega)
  have l6 := numS_len bs bad
  have ia := numS_in bs bad
  unfold rdRow
  simp only [Bool.true_and]
  generalize hA : numS bs bad = a at *
  have hk6 : KeepX r σ s6 := hk3.trans k6
  have p6 := k6.atV hpr p3
  have q6 := k6.atV hne q3
  simp only [k65_a, WK, vop, evAll, evOpt, evParts, vbuiltin, vun, vextract, Nat.reduceLT, Nat.reduceEqDiff, ↓reduceIte, reduceCtorEq, Nat.reduceAdd, Int.reduceLT, Int.reduceNeg, VZ24, vbox, vcells, ← hs1]
  refine KD.ret d2 ?_
  simp only [k65_a, WK, vop, evAll, evOpt, evParts, vbuiltin, vun, vextract, Nat.reduceLT, Nat.reduceEqDiff, ↓reduceIte, reduceCtorEq, Nat.reduceAdd, Int.reduceLT, Int.reduceNeg, VZ24, vbox, vcells, IsV.new (show (flatC 5 0 []).length = 4 from rfl) (show val0C.length = 4 from rfl) (show (flatC 5 0 []).all one = true from rfl), ← hs3, FV0, p3.kind, Int.reduceEq]
  refine KD.ret dm ?_
  simp only [k65_a, WK, vop, evAll, evOpt, evParts, vbuiltin, vun, vextract, Nat.reduceLT, Nat.reduceEqDiff, ↓reduceIte, reduceCtorEq, Nat.reduceAdd, Int.reduceLT, Int.reduceNeg]
  refine KD.ret d6 ?_
  by_cases h64 : 64 < a.1
  · have h64' : (64 : Int) < a.1 := by omega
    obtain ⟨s7, j1, r7, k7⟩ := r6.setBad
    obtain ⟨s9, j3, j4, j5⟩ := storeN (k7.atV hne q6) (c := [.int .i64 5, .int .i64 0, .str [], .nils]) rfl rfl rfl
    have hlt' : (0 : Int) < a.1 := by omega
    simp only [k65_a, WK, vop, evAll, evOpt, evParts, vbuiltin, vun, vextract, Nat.reduceLT, Nat.reduceEqDiff, ↓reduceIte, reduceCtorEq, Nat.reduceAdd, Int.reduceLT, Int.reduceNeg, h64', FB1, j1]
    rw [Ev_loop]
    simp only [k65_a, WK, vop, evAll, evOpt, evParts, vbuiltin, vun, vextract, Nat.reduceLT, Nat.reduceEqDiff, ↓reduceIte, reduceCtorEq, Nat.reduceAdd, Int.reduceLT, Int.reduceNeg, seqK, hlt', FB1, r7.getBad, (k7.atV hpr p6).load (show List.length [V.int .i64 5, V.int .i64 0, .str [], .nils] = 4 from rfl), j3, j4.load (show List.length [V.int .i64 5, V.int .i64 0, .str [], .nils] = 4 from rfl)]
    simp only [h64, decide_true, Bool.or_true]
    rw [rdN_bad _ rfl]
    exact ⟨_, rfl, (hk6.trans k7).via j5 (Nat.le_refl _), r7.keep j5 (Ne.symm hne), flatC_ok [] (by unfold InI64; omega) (by unfold InI64; omega)⟩
  · have h64' : ¬ (64 : Int) < a.1 := by omega
    simp only [h64, decide_false, Bool.or_false]
    simp only [k65_a, WK, vop, evAll, evOpt, evParts, vbuiltin, vun, vextract, Nat.reduceLT, Nat.reduceEqDiff, ↓reduceIte, reduceCtorEq, Nat.reduceAdd, Int.reduceLT, Int.reduceNeg, h64']
    obtain ⟨n, hn⟩ : ∃ n, n = min a.1 65 := ⟨_, rfl⟩
    have hna : n = a.1 := by omega
    obtain ⟨G, hG⟩ : ∃ G, G = two2 fk fv := ⟨_, rfl⟩
    have hGl : ∀ s, (G s).2.1.length ≤ s.1.length := by intro s; rw [hG]; exact Nat.le_trans (lv _) (lk s)
    have hGc : ∀ s, (G s).1.length = 2 := by intro s; rw [hG]; rfl
    rw [← hn, ← hG]
    refine Ev.loopF (InvR 14 r σ.objs.length s2.objs.length σ.toks.length σ 5 G a.2 n) (fun i => n - i) 0 ⟨by simp [upd_some], by omega, r6, ⟨.nils, [], p6, OwnR.nil, .nil⟩, hk6, q6⟩ ?_
    rintro i e0 σ1 ⟨h14, hi, hr, ⟨w, cs, hp, ho, hc⟩, hk, hq⟩ hf
    have h0 : e0 0 = .optr r 0 := (hf 0 (by decide)).trans (by simp [upd_some])
    have h4 : e0 4 = .optr σ.objs.length 0 := (hf 4 (by decide)).trans (by simp [upd_some])
    have h5 : e0 5 = .optr s2.objs.length 0 := (hf 5 (by decide)).trans (by simp [upd_some])
    have h13 : e0 13 = .int .i64 a.1 := (hf 13 (by decide)).trans (by simp [upd_some])
    have h11 : e0 11 = .str ks := (hf 11 (by decide)).trans (by simp [upd_some])
    have h12 : e0 12 = .str vs := (hf 12 (by decide)).trans (by simp [upd_some])
    clear hf
    have hll := rdN_len hGl a.2 i
    have hcl := rdN_count_le hGc a.2 i
    have hstay := fun h => rdN_stay (g := G) (s := a.2) (i := i) h n hi
    have hstep := fun h => rdN_step (g := G) (s := a.2) (i := i) h
    generalize hD : rdN G i a.2 = D at *
    obtain ⟨s9, j1, j2, j3⟩ := storeN hq (c := [.int .i64 5, .int .i64 0, .str [], w]) rfl rfl (by simp only [List.all_cons, List.all_nil, ho.one]; rfl)
    have hfin : D = rdN G n a.2 → ∃ c, (VRes.ret (.agg [.int .i64 5, .int .i64 0, .str [], w])) = .ret (.agg c) ∧ KeepX r σ s9 ∧ Rdr s9 r (rdN G n a.2).2.1 (rdN G n a.2).2.2 ∧ ValC (.mk 5 0 [] (rdN G n a.2).1) c := by
      intro hDn
      rw [← hDn]
      exact ⟨_, rfl, hk.via j3 (Nat.le_refl _), hr.keep j3 (Ne.symm hne), .mk (by unfold InI64; omega) (by unfold InI64; omega) (ho.vals hc)⟩
    have hwx : IntKind.i64.wrap ((i : Int) + 1) = ((i + 1 : Nat) : Int) := idx_wrap (by omega)
    have hgb := hr.getBad
    by_cases hlt : i < a.1
    · have hlt' : (i : Int) < a.1 := by omega
      cases hb : D.2.2 with
      | true =>
        rw [hb] at hgb
        simp only [k65_a, WK, vop, evAll, evOpt, evParts, vbuiltin, vun, vextract, Nat.reduceLT, Nat.reduceEqDiff, ↓reduceIte, reduceCtorEq, Nat.reduceAdd, Int.reduceLT, Int.reduceNeg, h0, h4, h5, h13, h14, hlt', FB1, hgb, hp.load (show List.length [V.int .i64 5, V.int .i64 0, .str [], w] = 4 from rfl), j1, j2.load (show List.length [V.int .i64 5, V.int .i64 0, .str [], w] = 4 from rfl)]
        exact hfin (hstay hb).symm
      | false =>
        rw [hb] at hgb hr
        obtain ⟨rv, s4, d10, c, rfl, k10, r10, hcv⟩ := H (bs := D.2.1) (bad := false) hr (by omega)
        have l10 := lk (D.2.1, false)
        simp only at l10
        have p10 := k10.atV hpr hp
        obtain ⟨v8, s8, ha8, ho8, hk8, hob⟩ := (ho.keep k10.2.2).appendX VRT (q := r) (σ0 := σ) rfl (hk.trans k10) (t2 := 22) (y := .slice .exact 4 c 1) (ys := c) (l := 1) (by simp [vnews, VT22]) hcv.len hcv.one (by omega) (by omega)
        have p8 : IsV s8 s2.objs.length [.int .i64 5, .int .i64 0, .str [], w] := by unfold IsV; rw [hob]; exact p10
        obtain ⟨s7, hst', p7, kx⟩ := setObj p8 VS22 (v := v8) (off := 3) (cs' := [.int .i64 5, .int .i64 0, .str [], v8]) ho8.one (by simp) rfl
        have r7 : Rdr s7 r _ _ := Rdr.keep (σ := s8) (by obtain ⟨v0, hv0, hv1⟩ := r10; exact ⟨v0, by rw [hob]; exact hv0, hv1⟩) kx (Ne.symm hpr)
        have q7 : IsV s7 σ.objs.length val0C := kx.atV (by omega) (by unfold IsV; rw [hob]; exact k10.atV hne hq)
        have hk7 : KeepX r σ s7 := hk8.via kx (by omega)
        obtain ⟨rv', s11, d11, c', rfl, k11, r11, hcv'⟩ := H' r7 (by omega)
        have p11 := k11.atV hpr p7
        obtain ⟨v12, s12, ha12, ho12, hk12, hob12⟩ := ((ho8.keep kx.2.2).keep k11.2.2).appendX VRT (q := r) (σ0 := σ) rfl (hk7.trans k11) (t2 := 22) (y := .slice .exact 4 c' 1) (ys := c') (l := 1) (by simp [vnews, VT22]) hcv'.len hcv'.one (by omega) (by omega)
        have p12 : IsV s12 s2.objs.length [.int .i64 5, .int .i64 0, .str [], v8] := by unfold IsV; rw [hob12]; exact p11
        obtain ⟨s13, hst13, p13, kx13⟩ := setObj p12 VS22 (v := v12) (off := 3) (cs' := [.int .i64 5, .int .i64 0, .str [], v12]) ho12.one (by simp) rfl
        have hDs : D.2 = (D.2.1, false) := by rw [← hb]
        have hst2 := hstep hb
        rw [hDs, hG] at hst2
        simp only [two2] at hst2
        simp only [k65_a, WK, vop, evAll, evOpt, evParts, vbuiltin, vun, vextract, Nat.reduceLT, Nat.reduceEqDiff, ↓reduceIte, reduceCtorEq, Nat.reduceAdd, Int.reduceLT, Int.reduceNeg, h0, h13, h14, hlt', FB1, hgb, h4, h5, h11, h12, FV3, hp.list, p10.list]
        refine KD.ret d10 ?_
        simp only [k65_a, WK, vop, evAll, evOpt, evParts, vbuiltin, vun, vextract, Nat.reduceLT, Nat.reduceEqDiff, ↓reduceIte, reduceCtorEq, Nat.reduceAdd, Int.reduceLT, Int.reduceNeg, h0, h4, h5, h11, h12, h13, h14, FV3, hp.list, p10.list, build1V hcv.len, ha8, hst', p7.list, p11.list]
        refine KD.ret d11 ?_
        simp only [k65_a, WK, vop, evAll, evOpt, evParts, vbuiltin, vun, vextract, Nat.reduceLT, Nat.reduceEqDiff, ↓reduceIte, reduceCtorEq, Nat.reduceAdd, Int.reduceLT, Int.reduceNeg, h0, h4, h5, h13, h14, FV3, p7.list, p11.list, build1V hcv'.len, ha12, hst13, hwx]
        refine ⟨i + 1, ⟨by simp [upd_some], by omega, ?_, ⟨v12, (cs ++ c) ++ c', p13, ?_, ?_⟩, hk12.via kx13 (by omega), ?_⟩, by omega⟩
        · rw [← hG] at hst2
          rw [hst2, hDs]
          obtain ⟨v0, hv0, hv1⟩ := r11
          exact Rdr.keep (σ := s12) ⟨v0, by rw [hob12]; exact hv0, hv1⟩ kx13 (Ne.symm hpr)
        · rw [← hG] at hst2
          rw [hst2, List.length_append]
          exact ho12.keep kx13.2.2
        · rw [← hG] at hst2
          rw [hst2]
          have := (hc.snoc hcv).snoc hcv'
          rwa [List.append_assoc (D.1)] at this
        · have : IsV s12 σ.objs.length val0C := by unfold IsV; rw [hob12]; exact k11.atV hne q7
          exact kx13.atV (by omega) this
    · have hlt' : ¬ (i : Int) < a.1 := by omega
      simp only [k65_a, WK, vop, evAll, evOpt, evParts, vbuiltin, vun, vextract, Nat.reduceLT, Nat.reduceEqDiff, ↓reduceIte, reduceCtorEq, Nat.reduceAdd, Int.reduceLT, Int.reduceNeg, h0, h4, h5, h13, h14, hlt', hp.load (show List.length [V.int .i64 5, V.int .i64 0, .str [], w] = 4 from rfl), j1, j2.load (show List.length [V.int .i64 5, V.int .i64 0, .str [], w] = 4 from rfl)]
      exact hfin (by rw [← hD]; congr 1; omega)

theorem read_does : ∀ (T : Ty), tyD T ≤ 4 → TakeOk 65 true T
  | .int, _ => read_int
  | .bool, _ => read_bool
  | .text, _ => read_text
  | .list e, h => read_list h (read_does e (by simp only [tyD] at h; omega))
  | .mapI e, h => read_map h rfl ⟨(tyS_mapI h).2.2.1, (tyS_mapI h).2.2.2.1⟩ (rdInt_len true) (rdS_len true e) read_int (read_does e (by simp only [tyD] at h; omega))
  | .mapT e, h => read_map h rfl ⟨(tyS_mapT h).2.2.1, (tyS_mapT h).2.2.2.1⟩ (rdText_len true) (rdS_len true e) read_text (read_does e (by simp only [tyD] at h; omega))
end Go.Proofs.Ytlimedbanpfkgaa.Q
