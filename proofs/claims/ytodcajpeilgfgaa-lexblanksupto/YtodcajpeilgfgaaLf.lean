import Derived.Test.YtodcajpeilgfgaaLe
set_option linter.unusedVariables false
set_option linter.unusedSimpArgs false
namespace Go.Proofs.Ytodcajpeilgfgaa.Q
open Go Go.RowKit Go.Proofs

/-! ### How wide a token is -/
theorem txtR_w : ∀ (N : Nat) (l acc : List UInt8) (off : Nat), l.length ≤ N → ∀ {k t n w}, txtR l acc off = .ok k t n w → off < w ∧ w ≤ off + l.length
  | _, [], acc, off, _, k, t, n, w, h => by rw [txtR_nil] at h; cases h
  | 0, c :: l, acc, off, hN, k, t, n, w, h => by simp at hN
  | N + 1, c :: l, acc, off, hN, k, t, n, w, h => by
    rw [txtR_cons] at h
    simp only [List.length_cons] at hN ⊢
    split at h
    · split at h
      · cases h
      · injection h with _ _ _ h; omega
    split at h
    · cases h
    split at h
    · cases l with
      | nil => cases h
      | cons d l' =>
        simp only at h
        split at h
        · cases h
        · have := txtR_w N l' _ _ (by simp at hN; omega) h
          simp only [List.length_cons]
          omega
    · have := txtR_w N l _ _ (by omega) h
      omega
theorem nextR_w {l : List UInt8} {k : Int} {t : List UInt8} {n w : Nat} (h : nextR l = .ok k t n w) : 1 ≤ w ∧ w ≤ l.length := by
  cases l with
  | nil => cases h
  | cons c r =>
    simp only [nextR] at h
    split at h
    · rename_i hl
      unfold nameR at h
      split at h
      · cases h
      · injection h with _ _ _ h
        have h1 := spanL_le isNm (c :: r)
        rw [spanL_cons (by simp [isNm, hl])] at h h1
        omega
    split at h
    · rename_i hd
      unfold numR at h
      split at h
      · cases h
      split at h
      · cases h
      · injection h with _ _ _ h
        have h1 := spanL_le isDg (c :: r)
        rw [spanL_cons hd] at h h1
        omega
    split at h
    · have := txtR_w _ r [] 1 (Nat.le_refl _) h
      simp only [List.length_cons]
      omega
    · unfold markR at h
      split at h
      · rename_i hm
        injection h with _ _ _ h
        have : ∀ m ∈ dbl, m.length = 2 := by decide
        have := this _ hm
        rw [List.length_take] at this
        omega
      · simp only at h
        split at h
        · injection h with _ _ _ h
          simp only [List.length_cons]
          omega
        · cases h

/-! ### The function whose call is put off -/
theorem GE : isAggT Try.prog 24 = some false := by kernel_rfl
theorem SE : sizeT Try.prog 24 = some 1 := by kernel_rfl
theorem ZT : zeroT Try.prog 23 = some .nils := by kernel_rfl
theorem ZI : zeroT Try.prog 3 = some (.int .i64 0) := by kernel_rfl
theorem ZE : zeroT Try.prog 24 = some (.int .i64 0) := by kernel_rfl
theorem ZF : zeroT Try.prog 39 = some (.agg [.int .i64 0, .int .i64 0]) := by kernel_rfl
theorem SF : sizeT Try.prog 39 = some 2 := by kernel_rfl
theorem FF0 (r : Nat) : vfieldAddr Try.prog 39 (.optr r 0) 0 = some (.optr r 0) := by kernel_rfl
theorem FF1 (r : Nat) : vfieldAddr Try.prog 39 (.optr r 0) 1 = some (.optr r 1) := by kernel_rfl
theorem TI20 : Try.prog.underlying 20 = some (.interface #[]) := by kernel_rfl
theorem eql_inil {t : TypeId} {v : V} {xo : Operand} : vbin Try.prog .eql 20 xo (.const .nilIface) (.iface t v) .nili = some (.bool false) := by
  simp [vbin, bothSame, guardFree, aggEq, TI20]
theorem eql_nilnil {xo : Operand} : vbin Try.prog .eql 20 xo (.const .nilIface) .nili .nili = some (.bool true) := by
  simp [vbin, bothSame, guardFree, aggEq, TI20, isC]
theorem TA (v : V) : vtypeAssert Try.prog (.iface 39 v) 20 39 true = some (.tuple [v, .bool true]) := by kernel_rfl
theorem cell1_load {σ : St} {p : Nat} {v : V} {t : TypeId} (h : σ.objs[p]? = some (.cells [v])) (ha : isAggT Try.prog t = some false) : vload Try.prog σ.objs t (.optr p 0) = some v := by rw [vload_obj h ha]; rfl
theorem cell1_store {σ : St} {p : Nat} {v u : V} {t : TypeId} (h : σ.objs[p]? = some (.cells [v])) (hs : sizeT Try.prog t = some 1) (h1 : one u = true) : ∃ σ', vstore Try.prog σ t (.optr p 0) u = some σ' ∧ σ'.objs[p]? = some (.cells [u]) ∧ KeepX p σ σ' ∧ σ'.toks = σ.toks ∧ σ'.objs.length = σ.objs.length := by
  obtain ⟨σ', e⟩ : ∃ σ' : St, σ' = ⟨σ.objs.set p (.cells [u]), σ.toks⟩ := ⟨_, rfl⟩
  obtain ⟨k, hk⟩ := KeepX.set_eq h e
  exact ⟨σ', by rw [vstore_obj h hs h1 (by simp), e]; rfl, hk, k, by rw [e], by rw [e]; simp⟩

set_option maxRecDepth 100000 in
theorem caught_does {σ : St} {a b c : Nat} {va vb vc : V} (ha : σ.objs[a]? = some (.cells [va])) (hb : σ.objs[b]? = some (.cells [vb])) (hc : σ.objs[c]? = some (.cells [vc])) (hab : a ≠ b) (hac : a ≠ c) (hbc : b ≠ c) (n : Nat) (er : Int) :
    ∃ σ', DoesS Try.prog prims 13 [.optr a 0, .optr b 0, .optr c 0] (some (faultV n er, false)) σ (some (faultV n er, true)) σ' ∧ σ'.objs[a]? = some (.cells [.nils]) ∧ σ'.objs[b]? = some (.cells [.int .i64 n]) ∧ σ'.objs[c]? = some (.cells [.int .i64 er]) ∧ (∀ q o, q ≠ a → q ≠ b → q ≠ c → σ.objs[q]? = some o → σ'.objs[q]? = some o) ∧ σ'.toks = σ.toks := by
  have key : ∃ m' σ', DoesS Try.prog prims 13 [.optr a 0, .optr b 0, .optr c 0] (some (faultV n er, false)) σ m' σ' ∧ m' = some (faultV n er, true) ∧ σ'.objs[a]? = some (.cells [.nils]) ∧ σ'.objs[b]? = some (.cells [.int .i64 n]) ∧ σ'.objs[c]? = some (.cells [.int .i64 er]) ∧ (∀ q o, q ≠ a → q ≠ b → q ≠ c → σ.objs[q]? = some o → σ'.objs[q]? = some o) ∧ σ'.toks = σ.toks := by
    apply k13_is.does (by simp)
    have hla := (List.getElem?_eq_some_iff.1 ha).1
    have hlb := (List.getElem?_eq_some_iff.1 hb).1
    have hlc := (List.getElem?_eq_some_iff.1 hc).1
    obtain ⟨s1, hs1⟩ : ∃ s1 : St, s1 = ⟨σ.objs ++ [Ob.cells [.int .i64 0, .int .i64 0]], σ.toks⟩ := ⟨_, rfl⟩
    have k1 : Keep σ s1 := by rw [hs1]; exact (Keep.refl σ).push _
    have f1 : s1.objs[σ.objs.length]? = some (.cells [.int .i64 0, .int .i64 0]) := by rw [hs1]; exact push_new _ _
    obtain ⟨s2, hs2⟩ : ∃ s2 : St, s2 = ⟨s1.objs.set σ.objs.length (.cells [.int .i64 n, .int .i64 er]), s1.toks⟩ := ⟨_, rfl⟩
    obtain ⟨k2, f2⟩ := KeepX.set_eq f1 hs2
    have hst : vstore Try.prog s1 39 (.optr σ.objs.length 0) (.agg [.int .i64 n, .int .i64 er]) = some s2 := by rw [vstore_agg (cs' := [.int .i64 n, .int .i64 er]) f1 SF rfl rfl, hs2]
    have l0 : vload Try.prog s2.objs 3 (.optr σ.objs.length 0) = some (.int .i64 n) := by rw [vload_obj f2 G3]; rfl
    have l1 : vload Try.prog s2.objs 24 (.optr σ.objs.length 1) = some (.int .i64 er) := by rw [vload_obj f2 GE]; rfl
    have a2 := k2.1 _ _ (by omega) (k1.1 _ _ ha)
    have b2 := k2.1 _ _ (by omega) (k1.1 _ _ hb)
    have c2 := k2.1 _ _ (by omega) (k1.1 _ _ hc)
    obtain ⟨s3, g3, a3, k3, t3, _⟩ := cell1_store a2 ST (u := .nils) rfl
    obtain ⟨s4, g4, b4, k4, t4, _⟩ := cell1_store (k3.1 _ _ (Ne.symm hab) b2) S3 (u := .int .i64 n) rfl
    obtain ⟨s5, g5, c5, k5, t5, _⟩ := cell1_store (k4.1 _ _ (Ne.symm hbc) (k3.1 _ _ (Ne.symm hac) c2)) SE (u := .int .i64 er) rfl
    have hne : ∀ {q : Nat}, q < σ.objs.length → σ.objs.length ≠ q := fun h => by omega
    have f3 := k3.1 _ _ (hne hla) f2
    have f4 := k4.1 _ _ (hne hlb) f3
    have l3 : vload Try.prog s3.objs 24 (.optr σ.objs.length 1) = some (.int .i64 er) := by rw [vload_obj f3 GE]; rfl
    have l4 : vload Try.prog s4.objs 24 (.optr σ.objs.length 1) = some (.int .i64 er) := by rw [vload_obj f4 GE]; rfl
    have m3 : vload Try.prog s3.objs 3 (.optr σ.objs.length 0) = some (.int .i64 n) := by rw [vload_obj f3 G3]; rfl
    have m4 : vload Try.prog s4.objs 3 (.optr σ.objs.length 0) = some (.int .i64 n) := by rw [vload_obj f4 G3]; rfl
    simp only [k13_a, WD, WK, vop, evAll, evOpt, evParts, vbuiltin, vun, vextract, Nat.reduceLT, Nat.reduceEqDiff, ↓reduceIte, reduceCtorEq, Nat.reduceAdd, Int.reduceLT, Int.reduceNeg, valloc_std, noSB, faultV, eql_inil, TA, ZF, vbox, vcells, ← hs1, hst, FF0, FF1, l0, l1, l3, l4, m3, m4, ofVal_nil, ofVal, ofVal1, g3, g4, g5]
    refine ⟨⟨_, rfl⟩, k5.1 _ _ hac (k4.1 _ _ hab a3), k5.1 _ _ hbc b4, c5, fun q o q1 q2 q3 ho => ?_, ?_⟩
    · exact k5.1 _ _ q3 (k4.1 _ _ q2 (k3.1 _ _ q1 (k2.1 _ _ (by have := (List.getElem?_eq_some_iff.1 ho).1; omega) (k1.1 _ _ ho))))
    · rw [t5, t4, t3, hs2, hs1]
  obtain ⟨m', σ', h, rfl, h2⟩ := key
  exact ⟨σ', h, h2⟩
theorem calm_does {σ : St} {a b c : Nat} : DoesS Try.prog prims 13 [.optr a 0, .optr b 0, .optr c 0] none σ none σ := by
  have key : ∃ m' σ', DoesS Try.prog prims 13 [.optr a 0, .optr b 0, .optr c 0] none σ m' σ' ∧ m' = none ∧ σ' = σ := by
    apply k13_is.does (by simp)
    simp only [k13_a, WD, WK, vop, evAll, evOpt, evParts, vbuiltin, vun, vextract, Nat.reduceLT, Nat.reduceEqDiff, ↓reduceIte, reduceCtorEq, Nat.reduceAdd, Int.reduceLT, Int.reduceNeg, valloc_std, noSB, eql_nilnil, ofVal, ofVal1]
    exact ⟨_, rfl⟩
  obtain ⟨m', σ', h, rfl, rfl⟩ := key
  exact h

/-! ### Lex -/
theorem BL (s : List UInt8) : vbuild Try.prog 42 [(0, .str s)] = some (.agg [.str s, .int .i64 0, .nils]) := by kernel_rfl
theorem lexGo_end {s : List UInt8} {f a : Nat} {toks : List Tok} (h : ¬ a < s.length) : lexGo s (f + 1) a toks = if 4096 ≤ toks.length then ([], a, 36) else (toks ++ [⟨5, [], 0, a⟩], 0, 0) := by rw [lexGo, if_neg h]
theorem lexGo_bad {s : List UInt8} {f a : Nat} {toks : List Tok} (h : a < s.length) {off : Nat} {e : Int} (hn : nextR (s.drop a) = .bad off e) : lexGo s (f + 1) a toks = ([], a + off, e) := by rw [lexGo, if_pos h, hn]
theorem lexGo_ok {s : List UInt8} {f a : Nat} {toks : List Tok} (h : a < s.length) {k : Int} {t : List UInt8} {n w : Nat} (hn : nextR (s.drop a) = .ok k t n w) : lexGo s (f + 1) a toks = if 4096 ≤ toks.length then ([], a, 36) else lexGo s f (a + w + skipL (s.drop (a + w))) (toks ++ [⟨k, t, n, a⟩]) := by rw [lexGo, if_pos h, hn]

theorem Keep.trans' {σ σ1 σ2 : St} {p m : Nat} (h : Keep σ σ1) (h2 : KeepM p m σ1 σ2) (hp : σ.objs.length ≤ p) (ht : ∀ k, tokLive σ.toks k = true → tokLive σ2.toks k = true) : Keep σ σ2 :=
  ⟨fun q o ho => h2.1 q o (by have := (List.getElem?_eq_some_iff.1 ho).1; omega) (h.1 q o ho), Nat.le_trans h.2.1 h2.2.1, ht⟩
def TokRow (w : V) (toks : List Tok) : Prop := RowV 4 w (toks.flatMap tokC) toks.length
theorem in_range_le {s : List UInt8} (h : s.length ≤ 16384) : s.length ≤ 1000000 := by omega

theorem Keep.viaX' {σ σ1 σ2 : St} {r : Nat} (h : Keep σ σ1) (h2 : KeepX r σ1 σ2) (hr : σ.objs.length ≤ r) : Keep σ σ2 :=
  h.trans' (h2.m 0) hr (fun k hk => h2.2.2 k (h.2.2 k hk))
theorem blankR {σ : St} {p : Nat} {s : List UInt8} {n : Nat} {toks : List Tok} {m : Nat} (h : LexR σ p s n toks m) (hn : n ≤ s.length) (hs : s.length ≤ 1000000000) : ∃ σ', Does Try.prog prims 14 [.optr p 0] σ (.ret (.tuple [])) σ' ∧ LexR σ' p s (n + skipL (s.drop n)) toks m ∧ KeepM p m σ σ' := by
  obtain ⟨v, h1, h2, h3⟩ := h
  obtain ⟨σ', d, l, k, t⟩ := blank_does h1 hn hs
  exact ⟨σ', d, ⟨v, l, h2.keep k.2.2, by rw [t]; exact h3⟩, k.m m⟩
set_option maxRecDepth 100000 in
theorem lex_key (s : List UInt8) (hs : s.length ≤ 4294967296) (σ : St) : ∃ q σ', Does Try.prog prims 8 [.str s] σ q σ' ∧ ∃ w, q = .ret (.tuple [w, .int .i64 ((lexS s).2.1 : Nat), .int .i64 (lexS s).2.2]) ∧ TokRow w (lexS s).1 ∧ Keep σ σ' := by
  apply k8_is.does (by simp)
  obtain ⟨s1, hs1⟩ : ∃ s1 : St, s1 = ⟨σ.objs ++ [Ob.cells [.nils]], σ.toks⟩ := ⟨_, rfl⟩
  obtain ⟨s2, hs2⟩ : ∃ s2 : St, s2 = ⟨s1.objs ++ [Ob.cells [.int .i64 0]], s1.toks⟩ := ⟨_, rfl⟩
  obtain ⟨s3, hs3⟩ : ∃ s3 : St, s3 = ⟨s2.objs ++ [Ob.cells [.int .i64 0]], s2.toks⟩ := ⟨_, rfl⟩
  have k1 : Keep σ s1 := by rw [hs1]; exact (Keep.refl σ).push _
  have k2 : Keep s1 s2 := by rw [hs2]; exact (Keep.refl s1).push _
  have k3 : Keep s2 s3 := by rw [hs3]; exact (Keep.refl s2).push _
  have e1 : s1.objs.length = σ.objs.length + 1 := by rw [hs1]; simp
  have e2 : s2.objs.length = σ.objs.length + 2 := by rw [hs2]; simp [e1]
  have e3 : s3.objs.length = σ.objs.length + 3 := by rw [hs3]; simp [e2]
  have a3 : s3.objs[σ.objs.length]? = some (.cells [.nils]) := k3.1 _ _ (k2.1 _ _ (by rw [hs1]; exact push_new _ _))
  have b3 : s3.objs[s1.objs.length]? = some (.cells [.int .i64 0]) := k3.1 _ _ (by rw [hs2]; exact push_new _ _)
  have c3 : s3.objs[s2.objs.length]? = some (.cells [.int .i64 0]) := by rw [hs3]; exact push_new _ _
  have t3 : s3.toks = σ.toks := by rw [hs3, hs2, hs1]
  have K3 : Keep σ s3 := (k1.trans k2).trans k3
  -- the results, and how a run ends
  have fin : ∀ (σ1 : St) (va vb vc : V), (∀ q o, q ≠ σ.objs.length → q ≠ s1.objs.length → q ≠ s2.objs.length → q < σ.objs.length → σ.objs[q]? = some o → σ1.objs[q]? = some o) → σ.toks.length ≤ σ1.toks.length → (∀ k, tokLive σ.toks k = true → tokLive σ1.toks k = true) →
      Keep σ σ1 := fun σ1 va vb vc h1 h2 h3 => ⟨fun q o ho => by have := (List.getElem?_eq_some_iff.1 ho).1; exact h1 q o (by omega) (by omega) (by omega) this ho, h2, h3⟩
  have resv : ∀ {σ1 : St} {va vb vc : V}, σ1.objs[σ.objs.length]? = some (.cells [va]) → σ1.objs[s1.objs.length]? = some (.cells [vb]) → σ1.objs[s2.objs.length]? = some (.cells [vc]) → ∀ {e : Nat → V}, e 2 = .optr σ.objs.length 0 → e 3 = .optr s1.objs.length 0 → e 4 = .optr s2.objs.length 0 →
      vresults Try.prog σ1 (env 37 e) [.cell 2 23, .cell 3 3, .cell 4 24] = some [va, vb, vc] := by
    intro σ1 va vb vc h1 h2 h3 e g2 g3 g4
    rw [vresults_cell (by decide), g2, cell1_load h1 GT, vresults_cell (by decide), g3, cell1_load h2 G3, vresults_cell (by decide), g4, cell1_load h3 GE, vresults_nil]
  by_cases hbig : 16384 < s.length
  · have hbig' : (16384 : Int) < s.length := by omega
    obtain ⟨s4, g4, b4, k4, t4, _⟩ := cell1_store a3 ST (u := .nils) rfl
    obtain ⟨s5, g5, b5, k5, t5, _⟩ := cell1_store (k4.1 _ _ (by omega) b3) S3 (u := .int .i64 16384) rfl
    obtain ⟨s6, g6, b6, k6, t6, _⟩ := cell1_store (k5.1 _ _ (by omega) (k4.1 _ _ (by omega) c3)) SE (u := .int .i64 3) rfl
    simp only [k8_a, WD, WK, vop, evAll, evOpt, evParts, vbuiltin, vun, vextract, Nat.reduceLT, Nat.reduceEqDiff, ↓reduceIte, reduceCtorEq, Nat.reduceAdd, Int.reduceLT, Int.reduceNeg, valloc_std, noSB, ZT, ZI, ZE, vbox, vcells, ← hs1, ← hs2, ← hs3, vlen_str T9, hbig', ofVal_nil, g4, g5, g6, List.append_nil]
    have hl : lexS s = ([], 16384, 3) := by unfold lexS; rw [if_pos hbig]
    rw [hl]
    have ha := k6.1 _ _ (by omega) (k5.1 _ _ (by omega) b4)
    have hb := k6.1 _ _ (by omega) b5
    rw [cell1_load ha GT, cell1_load hb G3, cell1_load b6 GE]
    simp only [WK, vop, evAll, evOpt, evParts, vbuiltin, vun, vextract, Nat.reduceLT, Nat.reduceEqDiff, ↓reduceIte, reduceCtorEq, Nat.reduceAdd, Int.reduceLT, Int.reduceNeg, valloc_std, noSB]
    refine ⟨_, rfl, RowV.nil 4, ((K3.viaX' k4 (by omega)).viaX' k5 (by omega)).viaX' k6 (by omega)⟩
  · have hbig' : ¬ (16384 : Int) < s.length := by omega
    have hsl : s.length ≤ 16384 := by omega
    obtain ⟨s4, hs4⟩ : ∃ s4 : St, s4 = ⟨s3.objs ++ [Ob.cells [.str s, .int .i64 0, .nils]], s3.toks⟩ := ⟨_, rfl⟩
    have k4 : Keep s3 s4 := by rw [hs4]; exact (Keep.refl s3).push _
    have t4 : s4.toks = σ.toks := by rw [hs4, t3]
    have L4 : LexR s4 s3.objs.length s 0 [] σ.toks.length := ⟨.nils, by rw [hs4]; exact push_new _ _, OwnR.nil, by rw [t4]; exact Nat.le_refl _⟩
    obtain ⟨s5, d5, L5, k5⟩ := blankR L4 (by omega) (by omega)
    rw [Nat.zero_add, List.drop_zero] at L5
    have hlS : lexS s = lexGo s (s.length + 1) (skipL s) [] := by unfold lexS; rw [if_neg hbig]
    simp only [k8_a, WD, WK, vop, evAll, evOpt, evParts, vbuiltin, vun, vextract, Nat.reduceLT, Nat.reduceEqDiff, ↓reduceIte, reduceCtorEq, Nat.reduceAdd, Int.reduceLT, Int.reduceNeg, valloc_std, noSB, ZT, ZI, ZE, vbox, vcells, ← hs1, ← hs2, ← hs3, vlen_str T9, hbig', BL, ← hs4]
    refine KD.ret d5 ?_
    simp only [k8_a, WD, WK, vop, evAll, evOpt, evParts, vbuiltin, vun, vextract, Nat.reduceLT, Nat.reduceEqDiff, ↓reduceIte, reduceCtorEq, Nat.reduceAdd, Int.reduceLT, Int.reduceNeg, valloc_std, noSB, List.nil_append]
    have hsk := skipL_le s
    refine Ev.loopF (fun i e σ' => ∃ toks f, LexR σ' s3.objs.length s i toks σ.toks.length ∧ toks.length ≤ 4096 ∧ i ≤ s.length ∧ lexGo s f i toks = lexS s ∧ s.length < i + f ∧ KeepM s3.objs.length σ.toks.length s4 σ') (fun i => s.length - i) (skipL s) ⟨[], s.length + 1, L5, by simp, hsk, hlS.symm, by omega, k5⟩ ?_
    rintro i e σ' ⟨toks, f, hL, htl, hi, hgo, hf1, hk⟩ hf
    have h0 : e 0 = .str s := (hf 0 (by decide)).trans (by simp [upd_some])
    have h2 : e 2 = .optr σ.objs.length 0 := (hf 2 (by decide)).trans (by simp [upd_some])
    have h3 : e 3 = .optr s1.objs.length 0 := (hf 3 (by decide)).trans (by simp [upd_some])
    have h4 : e 4 = .optr s2.objs.length 0 := (hf 4 (by decide)).trans (by simp [upd_some])
    have h5 : e 5 = .optr s3.objs.length 0 := (hf 5 (by decide)).trans (by simp [upd_some])
    clear hf
    obtain ⟨v, hLv⟩ := hL.at
    -- a fault
    have fault : ∀ (σ1 : St) (e' : Nat → V) (n : Nat) (er : Int), KeepM s3.objs.length σ.toks.length s4 σ1 → e' 2 = .optr σ.objs.length 0 → e' 3 = .optr s1.objs.length 0 → e' 4 = .optr s2.objs.length 0 → lexS s = ([], n, er) →
        fnDK Try.prog prims 37 [.cell 2 23, .cell 3 3, .cell 4 24] (fun q σ' => ∃ w, q = .ret (.tuple [w, .int .i64 ((lexS s).2.1 : Nat), .int .i64 (lexS s).2.2]) ∧ TokRow w (lexS s).1 ∧ Keep σ σ') (.pan (faultV n er)) e' σ1 [(13, [.optr σ.objs.length 0, .optr s1.objs.length 0, .optr s2.objs.length 0])] := by
      intro σ1 e' n er hk1 g2 g3 g4 hR
      have a1 := hk1.1 _ _ (by omega) (k4.1 _ _ a3)
      have b1 := hk1.1 _ _ (by omega) (k4.1 _ _ b3)
      have c1 := hk1.1 _ _ (by omega) (k4.1 _ _ c3)
      obtain ⟨s6, dS, a6, b6, c6, k6, t6⟩ := caught_does a1 b1 c1 (by omega) (by omega) (by omega) n er
      refine ⟨s6, Leave.cons dS Leave.nil, _, resv a6 b6 c6 g2 g3 g4, .nils, ?_, ?_, ?_⟩
      · rw [hR]; rfl
      · rw [hR]; exact RowV.nil 4
      · refine fin s6 .nils .nils .nils (fun q o q1 q2 q3 q4 ho => k6 q o q1 q2 q3 (hk1.1 q o (by omega) (k4.1 _ _ (K3.1 _ _ ho)))) ?_ (fun k hk => ?_)
        · rw [t6]; have := hk1.2.1; rw [t4] at this; exact this
        · rw [t6]; exact hk1.2.2 k (tokLive_lt hk) (by rw [t4]; exact hk)
    cases f with
    | zero => omega
    | succ f =>
    by_cases hlt : i < s.length
    · have hlt' : (i : Int) < s.length := by omega
      obtain ⟨q, s6, d6, k6, r6⟩ := one_does hL hlt (by omega) htl
      simp only [k8_a, WD, WK, vop, evAll, evOpt, evParts, vbuiltin, vun, vextract, Nat.reduceLT, Nat.reduceEqDiff, ↓reduceIte, reduceCtorEq, Nat.reduceAdd, Int.reduceLT, Int.reduceNeg, valloc_std, noSB, h0, h5, FL1, hLv.at, vlen_str T9, hlt']
      have hpan : ∀ n er, q = .pan (faultV n er) → lexS s = ([], n, er) → ∃ r σ', Does Try.prog prims 15 [.optr s3.objs.length 0] σ' (.pan r) s6 := fun n er h _ => ⟨_, σ', by rw [← h]; exact d6⟩
      cases hn : nextR (s.drop i) with
      | bad off er =>
        rw [hn] at r6
        simp only at r6
        subst r6
        rw [lexGo_bad hlt hn] at hgo
        refine KD.pan d6 ?_
        simp only [k8_a, WD, WK, vop, evAll, evOpt, evParts, vbuiltin, vun, vextract, Nat.reduceLT, Nat.reduceEqDiff, ↓reduceIte, reduceCtorEq, Nat.reduceAdd, Int.reduceLT, Int.reduceNeg, valloc_std, noSB, List.nil_append, List.append_nil]
        exact fault s6 _ _ _ (hk.trans k6) (by simp [upd_some, h2]) (by simp [upd_some, h3]) (by simp [upd_some, h4]) hgo.symm
      | ok k t nm w =>
        rw [hn] at r6
        simp only at r6
        rw [lexGo_ok hlt hn] at hgo
        by_cases h4096 : 4096 ≤ toks.length
        · rw [if_pos h4096] at r6 hgo
          subst r6
          refine KD.pan d6 ?_
          simp only [k8_a, WD, WK, vop, evAll, evOpt, evParts, vbuiltin, vun, vextract, Nat.reduceLT, Nat.reduceEqDiff, ↓reduceIte, reduceCtorEq, Nat.reduceAdd, Int.reduceLT, Int.reduceNeg, valloc_std, noSB, List.nil_append, List.append_nil]
          exact fault s6 _ _ _ (hk.trans k6) (by simp [upd_some, h2]) (by simp [upd_some, h3]) (by simp [upd_some, h4]) hgo.symm
        · rw [if_neg h4096] at r6 hgo
          obtain ⟨rfl, L6⟩ := r6
          have hw := nextR_w hn
          rw [List.length_drop] at hw
          obtain ⟨s7, d7, L7, k7⟩ := blankR L6 (by omega) (by omega)
          have hsk2 := skipL_le (s.drop (i + w))
          rw [List.length_drop] at hsk2
          refine KD.ret d6 ?_
          simp only [k8_a, WD, WK, vop, evAll, evOpt, evParts, vbuiltin, vun, vextract, Nat.reduceLT, Nat.reduceEqDiff, ↓reduceIte, reduceCtorEq, Nat.reduceAdd, Int.reduceLT, Int.reduceNeg, valloc_std, noSB, h0, h5]
          refine KD.ret d7 ?_
          simp only [k8_a, WD, WK, vop, evAll, evOpt, evParts, vbuiltin, vun, vextract, Nat.reduceLT, Nat.reduceEqDiff, ↓reduceIte, reduceCtorEq, Nat.reduceAdd, Int.reduceLT, Int.reduceNeg, valloc_std, noSB, h0, h5]
          exact ⟨i + w + skipL (s.drop (i + w)), ⟨toks ++ [⟨k, t, nm, i⟩], f, L7, by simp; omega, by omega, hgo, by omega, (hk.trans k6).trans k7⟩, by omega⟩
    · have hlt' : ¬ (i : Int) < s.length := by omega
      rw [lexGo_end hlt] at hgo
      obtain ⟨q, s6, d6, k6, r6⟩ := add_does hL htl 5 [] 0 0 i
      simp only [k8_a, WD, WK, vop, evAll, evOpt, evParts, vbuiltin, vun, vextract, Nat.reduceLT, Nat.reduceEqDiff, ↓reduceIte, reduceCtorEq, Nat.reduceAdd, Int.reduceLT, Int.reduceNeg, valloc_std, noSB, h0, h5, FL1, hLv.at, vlen_str T9, hlt', BK1]
      by_cases h4096 : 4096 ≤ toks.length
      · rw [if_pos h4096] at r6 hgo
        subst r6
        refine KD.pan d6 ?_
        simp only [k8_a, WD, WK, vop, evAll, evOpt, evParts, vbuiltin, vun, vextract, Nat.reduceLT, Nat.reduceEqDiff, ↓reduceIte, reduceCtorEq, Nat.reduceAdd, Int.reduceLT, Int.reduceNeg, valloc_std, noSB, List.nil_append, List.append_nil]
        exact fault s6 _ _ _ (hk.trans k6) (by simp [upd_some, h2]) (by simp [upd_some, h3]) (by simp [upd_some, h4]) hgo.symm
      · rw [if_neg h4096] at r6 hgo
        obtain ⟨rfl, v6, hL6, hO6, _⟩ := r6
        have hk6 := hk.trans k6
        have a6 := hk6.1 _ _ (by omega) (k4.1 _ _ a3)
        have b6 := hk6.1 _ _ (by omega) (k4.1 _ _ b3)
        have c6 := hk6.1 _ _ (by omega) (k4.1 _ _ c3)
        obtain ⟨s7, g7, a7, k7, t7, _⟩ := cell1_store a6 ST (u := v6) hO6.row.one
        obtain ⟨s8, g8, b8, k8, t8, _⟩ := cell1_store (k7.1 _ _ (by omega) b6) S3 (u := .int .i64 0) rfl
        obtain ⟨s9, g9, c9, k9, t9, _⟩ := cell1_store (k8.1 _ _ (by omega) (k7.1 _ _ (by omega) c6)) SE (u := .int .i64 0) rfl
        refine KD.ret d6 ?_
        simp only [k8_a, WD, WK, vop, evAll, evOpt, evParts, vbuiltin, vun, vextract, Nat.reduceLT, Nat.reduceEqDiff, ↓reduceIte, reduceCtorEq, Nat.reduceAdd, Int.reduceLT, Int.reduceNeg, valloc_std, noSB, h0, h2, h3, h4, h5, FL2, hL6.out, g7, g8, g9, List.nil_append, List.append_nil]
        refine ⟨s9, Leave.cons calm_does Leave.nil, _, resv (k9.1 _ _ (by omega) (k8.1 _ _ (by omega) a7)) (k9.1 _ _ (by omega) b8) c9 (by simp [upd_some, h2]) (by simp [upd_some, h3]) (by simp [upd_some, h4]), v6, ?_, ?_, ?_⟩
        · rw [← hgo]; rfl
        · rw [← hgo]; exact hO6.row
        · refine fin s9 .nils .nils .nils (fun q o q1 q2 q3 q4 ho => k9.1 _ _ q3 (k8.1 _ _ q2 (k7.1 _ _ q1 (hk6.1 q o (by omega) (k4.1 _ _ (K3.1 _ _ ho)))))) ?_ (fun k hk => ?_)
          · rw [t9, t8, t7]; have := hk6.2.1; rw [t4] at this; exact this
          · rw [t9, t8, t7]; exact hk6.2.2 k (tokLive_lt hk) (by rw [t4]; exact hk)
end Go.Proofs.Ytodcajpeilgfgaa.Q
