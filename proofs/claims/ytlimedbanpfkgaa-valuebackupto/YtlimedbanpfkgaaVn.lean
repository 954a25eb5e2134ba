import Derived.Test.YtlimedbanpfkgaaVm
set_option linter.unusedVariables false
set_option linter.unusedSimpArgs false
namespace Go.Proofs.Ytlimedbanpfkgaa.Q
open Go Go.RowKit Go.Proofs

/-! ### What fits has parts that fit -/
theorem fit_parts {T : Ty} {k n : Int} {t : List UInt8} {l : List Val} (h : fitsT T (.mk k n t l) = true) : 1 ≤ k ∧ k ≤ 5 ∧ ∀ x ∈ l, ∃ T', fitsT T' x = true := by
  have hk : k = tyK T := by
    apply Classical.byContradiction
    intro hk
    rw [fitsT_kind hk] at h
    cases h
  have hi := tyK_in T
  refine ⟨by omega, by omega, ?_⟩
  have mp : ∀ {fk fv : Val → Bool}, fitMap fk fv (.mk k n t l) = true → ∀ x ∈ l, fk x = true ∨ fv x = true := by
    intro fk fv hm x hx
    simp only [fitMap, Bool.and_eq_true, okAll, List.all_eq_true] at hm
    obtain ⟨j, hj, rfl⟩ := List.mem_iff_getElem.1 hx
    have h1 := hm.2.2.2.2.2 j (List.mem_range.2 hj)
    rw [okAt, List.getElem?_eq_getElem hj] at h1
    simp only at h1
    split at h1
    · simp only [Bool.and_eq_true] at h1
      exact .inl h1.1
    · exact .inr h1
  cases T with
  | int => simp [fitsT, fitInt] at h; intro x hx; rw [h.2.2] at hx; cases hx
  | bool => simp [fitsT, fitBool] at h; intro x hx; rw [h.2.2.2] at hx; cases hx
  | text => simp [fitsT, fitText] at h; intro x hx; rw [h.2.2.2] at hx; cases hx
  | list e =>
    simp only [fitsT, fitList, Bool.and_eq_true, List.all_eq_true] at h
    exact fun x hx => ⟨e, h.2.2.2.2 x hx⟩
  | mapI e => intro x hx; rcases mp h x hx with h | h; exact ⟨.int, h⟩; exact ⟨e, h⟩
  | mapT e => intro x hx; rcases mp h x hx with h | h; exact ⟨.text, h⟩; exact ⟨e, h⟩

theorem byte1 (b : UInt8) : vbuildSlice Try.prog 44 1 [(0, .int .u8 (b.toNat : Int))] = some (.slice .exact 1 [byteV b] 1) ∧ BtsV (.slice .exact 1 [byteV b] 1) [b] := by
  refine ⟨?_, .inr ⟨.exact, rfl⟩⟩
  obtain ⟨z, hz, hl⟩ := BT.row.z
  obtain ⟨z', hz', hl'⟩ : ∃ z', z' = vcells z ∧ z'.length = 1 := ⟨_, rfl, hl⟩
  simp only [vbuildSlice, T22, S5, hz, ← hz', hl']
  have h0 : (zeroCellsV z' (1 * 1)).length = 1 := by simp [zeroCellsV]
  have h1 : vfill (fun i => some (i * 1, 1)) (zeroCellsV z' (1 * 1)) [(0, .int .u8 (b.toNat : Int))] = some [byteV b] := by
    simp only [vfill, vcells, h0]
    rw [setAll_take _ _ _ (by simp [h0])]
    have : List.drop (0 * 1 + 1) (zeroCellsV z' (1 * 1)) = [] := List.drop_of_length_le (by rw [h0]; omega)
    simp [this, byteV]
  simp only [Nat.mul_one] at h1
  simp [h1]

/-- Its bytes are told. -/
def BOk (a : Val) : Prop := ∀ (c : List V) (σ : St), weight a ≤ 4294967296 → ValC a c → ∃ r σ', Does Try.prog prims 61 [.agg c] σ (.ret r) σ' ∧ Keep σ σ' ∧ BtsV r (putV a)
def I61 (σ0 : St) (m : Nat) (bs : List UInt8) (l : List Val) : Nat → (Nat → V) → St → Prop := fun i e σ => e 51 = .int .i64 i ∧ i ≤ l.length ∧ OwnV 5 m σ (e 3) (bs ++ putL (l.take i)) ∧ Keep σ0 σ
theorem putN_one {x : Nat} (h : x ≤ 127) : putN x = [UInt8.ofNat x] := by rw [putN, dif_neg (by omega)]
theorem putL_len {l : List Val} {w : V} (hw : ValsW l w) (hl : weights l ≤ 4294967296) (i : Nat) : (putL (l.take i)).length ≤ 18 * weights (l.take i) := by
  have : ∀ {l : List Val} {cs : List V} (i : Nat), weights l ≤ 4294967296 → ValsC l cs → (putL (l.take i)).length ≤ 18 * weights (l.take i) := by
    intro l
    induction l with
    | nil => intro cs i _ _; simp [putL]
    | cons v l ihl =>
      intro cs i hl h
      cases h with
      | cons hc1 hc2 =>
        rw [weights] at hl
        cases i with
        | zero => simp [putL]
        | succ i =>
          have x1 := putV_len _ (Nat.le_refl _) (by omega) hc1
          have x2 := ihl i (by omega) hc2
          rw [List.take_succ_cons, putL, weights, List.length_append]
          omega
  cases hw with
  | nil => simp [putL]
  | row hc => exact this i hl hc

set_option maxRecDepth 100000 in
theorem refbytes_one {k n : Int} {t : List UInt8} {l : List Val} (hk1 : 1 ≤ k) (hk5 : k ≤ 5) (H : ∀ x ∈ l, BOk x) : BOk (.mk k n t l) := by
  intro c σ hwt ha
  have key : ∃ q σ', Does Try.prog prims 61 [.agg c] σ q σ' ∧ ∃ r, q = .ret r ∧ Keep σ σ' ∧ BtsV r (putV (.mk k n t l)) := by
    obtain ⟨k', n', t', l', w, hkk, rfl, hw, ik, im⟩ := ha.inv
    injection hkk with e1 e2 e3 e4
    subst e1 e2 e3 e4
    rw [weight] at hwt
    rw [putV]
    have hll := weights_len l
    apply k61_is.does (by simp)
    obtain ⟨σ2, hσ2⟩ : ∃ σ2 : St, σ2 = ⟨σ.objs ++ [Ob.cells [.int .i64 k, .int .i64 n, .str t, w]], σ.toks⟩ := ⟨_, rfl⟩
    have hk2 : Keep σ σ2 := by rw [hσ2]; exact (Keep.refl σ).push _
    have q2 : IsV σ2 σ.objs.length [.int .i64 k, .int .i64 n, .str t, w] := by rw [hσ2]; exact push_new _ _
    simp only [k61_a, WK, vop, evAll, evOpt, evParts, vbuiltin, vun, vextract, Nat.reduceLT, Nat.reduceEqDiff, ↓reduceIte, reduceCtorEq, Nat.reduceAdd, Int.reduceLT, Int.reduceNeg, vbox, vcells, ← hσ2, ofVal_nil, FV0, q2.kind]
    by_cases h1 : k = 1
    · rw [if_pos h1]
      unfold zig
      by_cases h0 : n < 0
      · have w1 : IntKind.i64.wrap (n + 1) = n + 1 := wrap_i64 (by unfold InI64 at im; omega) (by unfold InI64 at im; omega)
        have w2 : IntKind.i64.wrap (0 - (n + 1)) = -(n + 1) := by rw [wrap_i64 (by unfold InI64 at im; omega) (by unfold InI64 at im; omega)]; omega
        obtain ⟨b1, b2⟩ := byte1 1
        have b1 : vbuildSlice Try.prog 44 1 [(0, .int .u8 1)] = some (.slice .exact 1 [byteV 1] 1) := b1
        obtain ⟨r, s3, d3, k3, o3⟩ := refput_does b2 (x := -(n + 1)) (by unfold InI64 at *; omega) (by simp) σ2
        simp only [k61_a, WK, vop, evAll, evOpt, evParts, vbuiltin, vun, vextract, Nat.reduceLT, Nat.reduceEqDiff, ↓reduceIte, reduceCtorEq, Nat.reduceAdd, Int.reduceLT, Int.reduceNeg, FV1, q2.num, decide_eq_true h1, h0, w1, w2, b1]
        refine KD.ret d3 ?_
        simp only [k61_a, WK, vop, evAll, evOpt, evParts, vbuiltin, vun, vextract, Nat.reduceLT, Nat.reduceEqDiff, ↓reduceIte, reduceCtorEq, Nat.reduceAdd, Int.reduceLT, Int.reduceNeg]
        rw [if_neg (by omega)]
        refine ⟨_, rfl, hk2.trans k3, ?_⟩
        have e1 : putN 1 = [1] := by rw [putN_one (by omega)]; rfl
        have : putS [1, -(n + 1)] = [1] ++ putN (-(n + 1)).toNat := by simp [putS, e1]
        rw [this]
        exact o3.bts
      · obtain ⟨b1, b2⟩ := byte1 0
        have b1 : vbuildSlice Try.prog 44 1 [(0, .int .u8 0)] = some (.slice .exact 1 [byteV 0] 1) := b1
        obtain ⟨r, s3, d3, k3, o3⟩ := refput_does b2 im (by simp) σ2
        simp only [k61_a, WK, vop, evAll, evOpt, evParts, vbuiltin, vun, vextract, Nat.reduceLT, Nat.reduceEqDiff, ↓reduceIte, reduceCtorEq, Nat.reduceAdd, Int.reduceLT, Int.reduceNeg, FV1, q2.num, decide_eq_true h1, h0, b1]
        refine KD.ret d3 ?_
        simp only [k61_a, WK, vop, evAll, evOpt, evParts, vbuiltin, vun, vextract, Nat.reduceLT, Nat.reduceEqDiff, ↓reduceIte, reduceCtorEq, Nat.reduceAdd, Int.reduceLT, Int.reduceNeg]
        rw [if_pos (by omega)]
        refine ⟨_, rfl, hk2.trans k3, ?_⟩
        have e1 : putN 0 = [0] := by rw [putN_one (by omega)]; rfl
        have : putS [0, n] = [0] ++ putN n.toNat := by simp [putS, e1]
        rw [this]
        exact o3.bts
    rw [if_neg h1]
    by_cases h2 : k = 2
    · obtain ⟨r, s3, d3, k3, o3⟩ := refput_does BtsV.nil im (by simp) σ2
      rw [if_pos h2]
      simp only [k61_a, WK, vop, evAll, evOpt, evParts, vbuiltin, vun, vextract, Nat.reduceLT, Nat.reduceEqDiff, ↓reduceIte, reduceCtorEq, Nat.reduceAdd, Int.reduceLT, Int.reduceNeg, ofVal_nil, FV1, q2.num, decide_eq_false h1, decide_eq_true h2]
      refine KD.ret d3 ?_
      simp only [k61_a, WK, vop, evAll, evOpt, evParts, vbuiltin, vun, vextract, Nat.reduceLT, Nat.reduceEqDiff, ↓reduceIte, reduceCtorEq, Nat.reduceAdd, Int.reduceLT, Int.reduceNeg]
      refine ⟨_, rfl, hk2.trans k3, ?_⟩
      have := o3.bts
      simpa [putS] using this
    rw [if_neg h2]
    by_cases h3 : k = 3
    · obtain ⟨r, s3, d3, k3, o3⟩ := refput_does BtsV.nil (x := (t.length : Int)) (by unfold InI64; omega) (by simp) σ2
      have hpl := putS_len (xs := [(t.length : Int)]) (by simp [InI64]; omega)
      simp only [List.length_singleton] at hpl
      have e1 : putS [(t.length : Int)] = putN (t.length : Int).toNat := by simp [putS]
      rw [List.nil_append, ← e1] at o3
      obtain ⟨v4, s4, a4, o4, k4, hob4⟩ := o3.appendS (t := 44) BT rfl k3 T9 (ys := t) (by omega)
      have q3 := k3.atV q2
      rw [if_pos h3]
      simp only [k61_a, WK, vop, evAll, evOpt, evParts, vbuiltin, vun, vextract, Nat.reduceLT, Nat.reduceEqDiff, ↓reduceIte, reduceCtorEq, Nat.reduceAdd, Int.reduceLT, Int.reduceNeg, ofVal_nil, FV2, q2.text, vlen_str T9, decide_eq_false h1, decide_eq_false h2, decide_eq_true h3]
      refine KD.ret d3 ?_
      simp only [k61_a, WK, vop, evAll, evOpt, evParts, vbuiltin, vun, vextract, Nat.reduceLT, Nat.reduceEqDiff, ↓reduceIte, reduceCtorEq, Nat.reduceAdd, Int.reduceLT, Int.reduceNeg, FV2, q2.text, q3.text, a4]
      exact ⟨_, rfl, hk2.trans k4, o4.bts⟩
    rw [if_neg h3]
    have hhead : InI64 (headV k l.length) := by unfold InI64 headV; split <;> omega
    obtain ⟨r, s3, d3, k3, o3⟩ := refput_does BtsV.nil hhead (by simp) σ2
    have hpl := putS_len (xs := [headV k l.length]) (by simpa using hhead)
    simp only [List.length_singleton] at hpl
    have e1 : putS [headV k l.length] = putN (headV k l.length).toNat := by simp [putS]
    rw [List.nil_append, ← e1] at o3
    have q3 := k3.atV q2
    have hloop : ∀ (e : Nat → V), e 1 = .optr σ.objs.length 0 → OwnV 5 σ2.toks.length s3 (e 3) (putS [headV k l.length]) → Ev Try.prog prims 61 (.seq (.seq (.region k61_r14) (.block 1 (.loop k61_l0))) (.seq (.region k61_r19) .ret)) e s3 (fnK Try.prog 61 [ResultVar.tmp 2] fun q σ' => ∃ r, q = .ret r ∧ Keep σ σ' ∧ BtsV r (putS [headV k l.length] ++ putL l)) := by
      intro e h3 h0
      simp only [k61_a, WK, vop, evAll, evOpt, evParts, vbuiltin, vun, vextract, Nat.reduceLT, Nat.reduceEqDiff, ↓reduceIte, reduceCtorEq, Nat.reduceAdd, Int.reduceLT, Int.reduceNeg, h3, FV3, q3.list, hw.len]
      refine Ev.loopF (I61 σ2 σ2.toks.length (putS [headV k l.length]) l) (fun i => l.length - i) 0 ⟨by simp [upd_some], by simp, by simpa [upd_some, putL] using h0, k3⟩ ?_
      rintro i e1 σ1 ⟨h51, hi, hb, hk⟩ hf
      have h50 : e1 50 = .int .i64 l.length := (hf 50 (by decide)).trans (by simp [upd_some])
      have h49 : e1 49 = w := (hf 49 (by decide)).trans (by simp [upd_some])
      clear hf
      have hplt := weights_take_le l i
      have hpll := putL_len hw (by omega) i
      by_cases hlt : i < l.length
      · have hlt' : (i : Int) < l.length := by omega
        have hwi := idx_wrap (i := i) (by omega)
        obtain ⟨cs, c, ha0, hld, hc⟩ := hw.get hlt
        obtain ⟨s5, hs5⟩ : ∃ s5 : St, s5 = ⟨(σ1.objs ++ [Ob.cells val0C]).set σ1.objs.length (Ob.cells c), σ1.toks⟩ := ⟨_, rfl⟩
        have p5 : IsV s5 σ1.objs.length c := by rw [hs5]; exact IsV.made
        have k5 : Keep σ1 s5 := by rw [hs5]; exact (Keep.refl σ1).madeV _ _
        have hmem := weights_mem (List.getElem_mem hlt)
        have hbl := putV_len _ (Nat.le_refl _) (by omega) hc
        obtain ⟨r6, s6, d6, k6, o6⟩ := H l[i] (List.getElem_mem hlt) c s5 (by omega) hc
        have hb6 := hb.keep (k5.trans k6)
        obtain ⟨v7, s7, a7, o7, k7⟩ := hb6.append (t := 44) BT rfl ((hk.trans k5).trans k6) T22 o6 (by simp only [List.length_append]; omega)
        simp only [k61_a, WK, vop, evAll, evOpt, evParts, vbuiltin, vun, vextract, Nat.reduceLT, Nat.reduceEqDiff, ↓reduceIte, reduceCtorEq, Nat.reduceAdd, Int.reduceLT, Int.reduceNeg, h49, h50, h51, hlt', ha0, hld, VZ24, vbox, vcells, IsV.new hc.len (show val0C.length = 4 from rfl) hc.one, ← hs5, p5.load hc.len]
        refine KD.ret d6 ?_
        simp only [k61_a, WK, vop, evAll, evOpt, evParts, vbuiltin, vun, vextract, Nat.reduceLT, Nat.reduceEqDiff, ↓reduceIte, reduceCtorEq, Nat.reduceAdd, Int.reduceLT, Int.reduceNeg, h51, hwi, a7]
        refine ⟨i + 1, ⟨by simp [upd_some], hlt, ?_, k7⟩, by omega⟩
        rw [putL_take_succ hlt, ← List.append_assoc]
        simpa [upd_some] using o7
      · have hlt' : ¬ (i : Int) < l.length := by omega
        simp only [k61_a, WK, vop, evAll, evOpt, evParts, vbuiltin, vun, vextract, Nat.reduceLT, Nat.reduceEqDiff, ↓reduceIte, reduceCtorEq, Nat.reduceAdd, Int.reduceLT, Int.reduceNeg, h49, h50, h51, hlt']
        rw [List.take_of_length_le (by omega)] at hb
        exact ⟨_, rfl, hk2.trans hk, hb.bts⟩
    simp only [WK, vop, evAll, evOpt, evParts, vbuiltin, vun, vextract, Nat.reduceLT, Nat.reduceEqDiff, ↓reduceIte, reduceCtorEq, Nat.reduceAdd, Int.reduceLT, Int.reduceNeg] at hloop
    have e20 : ((2 : Int) = 0) = False := eq_false (by decide)
    have w2 : IntKind.i64.wrap (Int.tdiv (l.length : Int) 2) = ((l.length / 2 : Nat) : Int) := by
      rw [Int.tdiv_eq_ediv_of_nonneg (by omega), wrap_i64 (by omega) (by omega)]; omega
    by_cases h4 : k = 4
    · have hh : headV k l.length = (l.length : Int) := by rw [headV, if_neg (by omega)]
      rw [hh] at d3
      simp only [k61_r4_e, k61_r8_e, k61_r10_e, k61_r12_e, k61_r13_e, k61_r3_e, WK, vop, evAll, evOpt, evParts, vbuiltin, vun, vextract, Nat.reduceLT, Nat.reduceEqDiff, ↓reduceIte, reduceCtorEq, Nat.reduceAdd, Int.reduceLT, Int.reduceNeg, ofVal_nil, FV0, FV3, q2.kind, q2.list, hw.len, decide_eq_false h1, decide_eq_false h2, decide_eq_false h3, decide_eq_true h4]
      refine KD.ret d3 ?_
      simp only [WK, vop, evAll, evOpt, evParts, vbuiltin, vun, vextract, Nat.reduceLT, Nat.reduceEqDiff, ↓reduceIte, reduceCtorEq, Nat.reduceAdd, Int.reduceLT, Int.reduceNeg]
      exact hloop _ (by simp [upd_some]) (by simpa [upd_some] using o3)
    · have h5 : k = 5 := by omega
      have hh : headV k l.length = ((l.length / 2 : Nat) : Int) := by rw [headV, if_pos h5]
      rw [← hh] at w2
      simp only [k61_r4_e, k61_r8_e, k61_r10_e, k61_r12_e, k61_r13_e, k61_r3_e, WK, vop, evAll, evOpt, evParts, vbuiltin, vun, vextract, Nat.reduceLT, Nat.reduceEqDiff, ↓reduceIte, reduceCtorEq, Nat.reduceAdd, Int.reduceLT, Int.reduceNeg, ofVal_nil, FV0, FV3, q2.kind, q2.list, hw.len, decide_eq_false h1, decide_eq_false h2, decide_eq_false h3, decide_eq_false h4, e20, w2]
      refine KD.ret d3 ?_
      simp only [WK, vop, evAll, evOpt, evParts, vbuiltin, vun, vextract, Nat.reduceLT, Nat.reduceEqDiff, ↓reduceIte, reduceCtorEq, Nat.reduceAdd, Int.reduceLT, Int.reduceNeg]
      exact hloop _ (by simp [upd_some]) (by simpa [upd_some] using o3)
  obtain ⟨q, σ', h1, r, rfl, h3, h4⟩ := key
  exact ⟨r, σ', h1, h3, h4⟩
theorem refbytes_fit : ∀ (N : Nat) (T : Ty) (a : Val), weight a ≤ N → fitsT T a = true → BOk a
  | 0, T, a, hN, _ => by have := weight_pos a; omega
  | N + 1, T, .mk k n t l, hN, h => by
    obtain ⟨h1, h2, h3⟩ := fit_parts h
    rw [weight] at hN
    refine refbytes_one h1 h2 fun x hx => ?_
    obtain ⟨T', hT'⟩ := h3 x hx
    have := weights_mem hx
    exact refbytes_fit N T' x (by omega) hT'

/-- What Encode answers. -/
def encS (s : List UInt8) (v : Val) : List UInt8 × Int := if fitsS s v then (putV v, 0) else ([], 1)
theorem fitsS_ty {s : List UInt8} {v : Val} (h : fitsS s v = true) : ∃ T, s = tyB T ∧ tyD T ≤ 4 ∧ weight v ≤ 16384 ∧ fitsT T v = true := by
  unfold fitsS at h
  split at h
  · rename_i T hT
    simp only [Bool.and_eq_true, decide_eq_true_eq] at h
    obtain ⟨h1, h2⟩ := tyS_iff.1 hT
    exact ⟨T, h1, h2, by omega, h.2⟩
  · cases h
theorem encode_does {s : List UInt8} {v : Val} {c : List V} (hl : s.length ≤ 4294967296) (σ : St) (hwt : weight v ≤ 4294967296) (ha : ValC v c) : ∃ r σ', Does Try.prog prims 30 [.agg c, .str s] σ (.ret (.tuple [r, .int .i64 (encS s v).2])) σ' ∧ Keep σ σ' ∧ BtsV r (encS s v).1 := by
  have key : ∃ q σ', Does Try.prog prims 30 [.agg c, .str s] σ q σ' ∧ ∃ r, q = .ret (.tuple [r, .int .i64 (encS s v).2]) ∧ Keep σ σ' ∧ BtsV r (encS s v).1 := by
    apply k30_is.does (by simp)
    obtain ⟨s1, hs1⟩ : ∃ s1 : St, s1 = ⟨σ.objs ++ [Ob.cells c], σ.toks⟩ := ⟨_, rfl⟩
    have k1 : Keep σ s1 := by rw [hs1]; exact (Keep.refl σ).push _
    have q1 : IsV s1 σ.objs.length c := by rw [hs1]; exact push_new _ _
    obtain ⟨s2, d2, k2⟩ := vfits_does hl s1 hwt ha
    have q2 := k2.atV q1
    simp only [k30_a, WK, vop, evAll, evOpt, evParts, vbuiltin, vun, vextract, Nat.reduceLT, Nat.reduceEqDiff, ↓reduceIte, reduceCtorEq, Nat.reduceAdd, Int.reduceLT, Int.reduceNeg, vbox, vcells, ← hs1, q1.load ha.len, ofVal_nil]
    refine KD.ret d2 ?_
    unfold encS
    cases h : fitsS s v with
    | false =>
      simp only [k30_a, WK, vop, evAll, evOpt, evParts, vbuiltin, vun, vextract, Nat.reduceLT, Nat.reduceEqDiff, ↓reduceIte, reduceCtorEq, Nat.reduceAdd, Int.reduceLT, Int.reduceNeg, ofVal_nil]
      exact ⟨_, rfl, k1.trans k2, BtsV.nil⟩
    | true =>
      obtain ⟨r, s3, d3, k3, o3⟩ := vput_does s2 hwt ha BtsV.nil (by simp)
      simp only [k30_a, WK, vop, evAll, evOpt, evParts, vbuiltin, vun, vextract, Nat.reduceLT, Nat.reduceEqDiff, ↓reduceIte, reduceCtorEq, Nat.reduceAdd, Int.reduceLT, Int.reduceNeg, ofVal_nil, q2.load ha.len]
      refine KD.ret d3 ?_
      simp only [k30_a, WK, vop, evAll, evOpt, evParts, vbuiltin, vun, vextract, Nat.reduceLT, Nat.reduceEqDiff, ↓reduceIte, reduceCtorEq, Nat.reduceAdd, Int.reduceLT, Int.reduceNeg]
      exact ⟨_, rfl, (k1.trans k2).trans k3, o3⟩
  obtain ⟨q, σ', h1, r, rfl, h3, h4⟩ := key
  exact ⟨r, σ', h1, h3, h4⟩
theorem refencode_does {s : List UInt8} {v : Val} {c : List V} (hl : s.length ≤ 4294967296) (σ : St) (hwt : weight v ≤ 4294967296) (ha : ValC v c) : ∃ r σ', Does Try.prog prims 31 [.agg c, .str s] σ (.ret (.tuple [r, .int .i64 (encS s v).2])) σ' ∧ Keep σ σ' ∧ BtsV r (encS s v).1 := by
  have key : ∃ q σ', Does Try.prog prims 31 [.agg c, .str s] σ q σ' ∧ ∃ r, q = .ret (.tuple [r, .int .i64 (encS s v).2]) ∧ Keep σ σ' ∧ BtsV r (encS s v).1 := by
    apply k31_is.does (by simp)
    obtain ⟨s1, hs1⟩ : ∃ s1 : St, s1 = ⟨σ.objs ++ [Ob.cells c], σ.toks⟩ := ⟨_, rfl⟩
    have k1 : Keep σ s1 := by rw [hs1]; exact (Keep.refl σ).push _
    have q1 : IsV s1 σ.objs.length c := by rw [hs1]; exact push_new _ _
    obtain ⟨s2, d2, k2⟩ := reffits_does hl s1 hwt ha
    have q2 := k2.atV q1
    simp only [k31_a, WK, vop, evAll, evOpt, evParts, vbuiltin, vun, vextract, Nat.reduceLT, Nat.reduceEqDiff, ↓reduceIte, reduceCtorEq, Nat.reduceAdd, Int.reduceLT, Int.reduceNeg, vbox, vcells, ← hs1, q1.load ha.len, ofVal_nil]
    refine KD.ret d2 ?_
    unfold encS
    cases h : fitsS s v with
    | false =>
      simp only [k31_a, WK, vop, evAll, evOpt, evParts, vbuiltin, vun, vextract, Nat.reduceLT, Nat.reduceEqDiff, ↓reduceIte, reduceCtorEq, Nat.reduceAdd, Int.reduceLT, Int.reduceNeg, ofVal_nil]
      exact ⟨_, rfl, k1.trans k2, BtsV.nil⟩
    | true =>
      obtain ⟨T, _, _, _, hf⟩ := fitsS_ty h
      obtain ⟨r, s3, d3, k3, o3⟩ := refbytes_fit _ T v (Nat.le_refl _) hf c s2 hwt ha
      simp only [k31_a, WK, vop, evAll, evOpt, evParts, vbuiltin, vun, vextract, Nat.reduceLT, Nat.reduceEqDiff, ↓reduceIte, reduceCtorEq, Nat.reduceAdd, Int.reduceLT, Int.reduceNeg, ofVal_nil, q2.load ha.len]
      refine KD.ret d3 ?_
      simp only [k31_a, WK, vop, evAll, evOpt, evParts, vbuiltin, vun, vextract, Nat.reduceLT, Nat.reduceEqDiff, ↓reduceIte, reduceCtorEq, Nat.reduceAdd, Int.reduceLT, Int.reduceNeg]
      exact ⟨_, rfl, (k1.trans k2).trans k3, o3⟩
  obtain ⟨q, σ', h1, r, rfl, h3, h4⟩ := key
  exact ⟨r, σ', h1, h3, h4⟩
end Go.Proofs.Ytlimedbanpfkgaa.Q
