import Derived.Test.YtlimedbanpfkgaaVl
import Derived.Test.YtlimedbanpfkgaaTq
set_option linter.unusedVariables false
set_option linter.unusedSimpArgs false
namespace Go.Proofs.Ytlimedbanpfkgaa.Q
open Go Go.RowKit Go.Proofs

/-! ### The bytes of values -/
def zig (n : Int) : List Int := if 0 ≤ n then [0, n] else [1, -(n + 1)]
def headV (k : Int) (len : Nat) : Int := if k = 5 then ((len / 2 : Nat) : Int) else (len : Int)
mutual
def putV : Val → List UInt8
  | .mk k n t l => if k = 1 then putS (zig n) else if k = 2 then putS [n] else if k = 3 then putS [(t.length : Int)] ++ t else putS [headV k l.length] ++ putL l
def putL : List Val → List UInt8
  | [] => []
  | v :: l => putV v ++ putL l
end
theorem putL_append (a b : List Val) : putL (a ++ b) = putL a ++ putL b := by
  induction a with
  | nil => rfl
  | cons v a ih => rw [List.cons_append, putL, putL, ih, List.append_assoc]
theorem putL_take_succ {l : List Val} {i : Nat} (h : i < l.length) : putL (l.take (i + 1)) = putL (l.take i) ++ putV l[i] := by
  rw [List.take_succ_eq_append_getElem h, putL_append]
  simp [putL]
theorem zig_in {n : Int} (h : InI64 n) : ∀ x ∈ zig n, InI64 x := by
  unfold zig
  unfold InI64 at *
  split <;> simp <;> omega
theorem zig_len (n : Int) : (zig n).length = 2 := by unfold zig; split <;> rfl
theorem putV_len : ∀ (n : Nat) {v : Val} {c : List V}, weight v ≤ n → n ≤ 4294967296 → ValC v c → (putV v).length ≤ 18 * weight v
  | 0, v, c, hn, _, _ => by have := weight_pos v; omega
  | n + 1, v, c, hn, hb, hc => by
    obtain ⟨k, m, t, l, w, rfl, rfl, hw, ik, im⟩ := hc.inv
    rw [weight] at hn ⊢
    rw [putV]
    have hll := weights_len l
    have h1 := putS_len (xs := zig m) (zig_in im)
    rw [zig_len] at h1
    have h2 := putS_len (xs := [m]) (by simpa using im)
    have h3 := putS_len (xs := [(t.length : Int)]) (by simp [InI64]; omega)
    have h4 := putS_len (xs := [headV k l.length]) (by simp only [List.mem_singleton, headV]; rintro x rfl; unfold InI64; split <;> omega)
    simp only [List.length_cons, List.length_nil] at h2 h3 h4
    have rows : ∀ {l : List Val} {cs : List V}, weights l ≤ n → ValsC l cs → (putL l).length ≤ 18 * weights l := by
      intro l
      induction l with
      | nil => intro cs _ h; simp [putL]
      | cons v l ih =>
        intro cs hl h
        cases h with
        | cons h1 h2 =>
          rw [weights] at hl ⊢
          rw [putL, List.length_append]
          have h3 := putV_len n (by omega) (by omega) h1
          have h4 := ih (by omega) h2
          omega
    have h5 : (putL l).length ≤ 18 * weights l := by
      cases hw with
      | nil => simp [putL]
      | row hcs => exact rows (by omega) hcs
    split
    · omega
    split
    · omega
    split
    · rw [List.length_append]; omega
    · rw [List.length_append]; omega

theorem buildInts2 {a b : Int} (h : ∀ x ∈ [a, b], InI64 x) : ∃ v, vbuildSlice Try.prog 86 2 [(0, .int .i64 a), (1, .int .i64 b)] = some v ∧ IntsV v [a, b] := by
  refine ⟨.slice .exact 1 [i64V a, i64V b] 2, ?_, .inr ⟨.exact, rfl⟩, h⟩
  simp [vbuildSlice, IT.u, IT.s, IT.z, vcells, vfill, zeroCellsV, setAll, i64V]
  simp [List.range, List.range.loop]
theorem zigzag_does {n : Int} (h : InI64 n) (σ : St) : ∃ w, Does Try.prog prims 81 [.int .i64 n] σ (.ret w) σ ∧ IntsV w (zig n) := by
  have hz := zig_in h
  unfold zig at *
  by_cases h0 : 0 ≤ n
  · rw [if_pos h0] at hz ⊢
    obtain ⟨v, h1, h2⟩ := buildInts2 hz
    refine ⟨v, ?_, h2⟩
    apply k81_is.ret (by simp)
    simp only [k81_a, WK, vop, evAll, evOpt, evParts, vbuiltin, vun, vextract, Nat.reduceLT, Nat.reduceEqDiff, ↓reduceIte, reduceCtorEq, Nat.reduceAdd, Int.reduceLT, Int.reduceNeg, ofVal_nil, h0, h1]
  · rw [if_neg h0] at hz ⊢
    obtain ⟨v, h1, h2⟩ := buildInts2 hz
    refine ⟨v, ?_, h2⟩
    apply k81_is.ret (by simp)
    have w1 : IntKind.i64.wrap (n + 1) = n + 1 := wrap_i64 (by unfold InI64 at h; omega) (by unfold InI64 at h; omega)
    have w2 : IntKind.i64.wrap (0 - (n + 1)) = -(n + 1) := by rw [wrap_i64 (by unfold InI64 at h; omega) (by unfold InI64 at h; omega)]; omega
    simp only [k81_a, WK, vop, evAll, evOpt, evParts, vbuiltin, vun, vextract, Nat.reduceLT, Nat.reduceEqDiff, ↓reduceIte, reduceCtorEq, Nat.reduceAdd, Int.reduceLT, Int.reduceNeg, ofVal_nil, h0, w1, w2, h1]

def I60 (σ0 : St) (bs : List UInt8) (l : List Val) : Nat → (Nat → V) → St → Prop := fun i e σ => e 50 = .int .i64 i ∧ i ≤ l.length ∧ BtsV (e 0) (bs ++ putL (l.take i)) ∧ Keep σ0 σ

set_option maxRecDepth 100000 in
theorem vputV_ok : ∀ (N : Nat), N ≤ 4294967296 → ∀ {a : Val} {c : List V} {v : V} {bs : List UInt8} (σ : St), weight a ≤ N → ValC a c → BtsV v bs → bs.length + 18 * weight a ≤ 100000000000000 → ∃ r σ', Does Try.prog prims 60 [v, .agg c] σ (.ret r) σ' ∧ Keep σ σ' ∧ BtsV r (bs ++ putV a) := by
  intro N
  induction N with
  | zero => intro _ a c v bs σ h; have := weight_pos a; omega
  | succ N ih =>
    intro hN a c v bs σ hwt ha hv hlen
    have key : ∃ q σ', Does Try.prog prims 60 [v, .agg c] σ q σ' ∧ ∃ r, q = .ret r ∧ Keep σ σ' ∧ BtsV r (bs ++ putV a) := by
      obtain ⟨k, n, t, l, w, rfl, rfl, hw, ik, im⟩ := ha.inv
      rw [weight] at hwt hlen
      rw [putV]
      have hll := weights_len l
      apply k60_is.does (by simp)
      obtain ⟨σ2, hσ2⟩ : ∃ σ2 : St, σ2 = ⟨σ.objs ++ [Ob.cells [.int .i64 k, .int .i64 n, .str t, w]], σ.toks⟩ := ⟨_, rfl⟩
      have hk2 : Keep σ σ2 := by rw [hσ2]; exact (Keep.refl σ).push _
      have q2 : IsV σ2 σ.objs.length [.int .i64 k, .int .i64 n, .str t, w] := by rw [hσ2]; exact push_new _ _
      simp only [k60_a, WK, vop, evAll, evOpt, evParts, vbuiltin, vun, vextract, Nat.reduceLT, Nat.reduceEqDiff, ↓reduceIte, reduceCtorEq, Nat.reduceAdd, Int.reduceLT, Int.reduceNeg, vbox, vcells, ← hσ2, ofVal_nil, FV0, q2.kind]
      by_cases h1 : k = 1
      · obtain ⟨z, dz, iz⟩ := zigzag_does im σ2
        obtain ⟨r, s3, d3, k3, o3⟩ := put_does hv iz (by rw [zig_len]; omega) σ2
        rw [if_pos h1]
        simp only [k60_a, WK, vop, evAll, evOpt, evParts, vbuiltin, vun, vextract, Nat.reduceLT, Nat.reduceEqDiff, ↓reduceIte, reduceCtorEq, Nat.reduceAdd, Int.reduceLT, Int.reduceNeg, FV1, q2.num, decide_eq_true h1]
        refine KD.ret dz ?_
        simp only [k60_a, WK, vop, evAll, evOpt, evParts, vbuiltin, vun, vextract, Nat.reduceLT, Nat.reduceEqDiff, ↓reduceIte, reduceCtorEq, Nat.reduceAdd, Int.reduceLT, Int.reduceNeg]
        refine KD.ret d3 ?_
        simp only [k60_a, WK, vop, evAll, evOpt, evParts, vbuiltin, vun, vextract, Nat.reduceLT, Nat.reduceEqDiff, ↓reduceIte, reduceCtorEq, Nat.reduceAdd, Int.reduceLT, Int.reduceNeg]
        exact ⟨_, rfl, hk2.trans k3, o3.bts⟩
      rw [if_neg h1]
      by_cases h2 : k = 2
      · obtain ⟨b1, b2⟩ := buildInt IT im
        obtain ⟨r, s3, d3, k3, o3⟩ := put_does hv b2 (by simp only [List.length_singleton]; omega) σ2
        rw [if_pos h2]
        simp only [k60_a, WK, vop, evAll, evOpt, evParts, vbuiltin, vun, vextract, Nat.reduceLT, Nat.reduceEqDiff, ↓reduceIte, reduceCtorEq, Nat.reduceAdd, Int.reduceLT, Int.reduceNeg, FV1, q2.num, decide_eq_false h1, decide_eq_true h2, b1]
        refine KD.ret d3 ?_
        simp only [k60_a, WK, vop, evAll, evOpt, evParts, vbuiltin, vun, vextract, Nat.reduceLT, Nat.reduceEqDiff, ↓reduceIte, reduceCtorEq, Nat.reduceAdd, Int.reduceLT, Int.reduceNeg]
        exact ⟨_, rfl, hk2.trans k3, o3.bts⟩
      rw [if_neg h2]
      by_cases h3 : k = 3
      · obtain ⟨b1, b2⟩ := buildInt IT (n := (t.length : Int)) (by unfold InI64; omega)
        obtain ⟨r, s3, d3, k3, o3⟩ := put_does hv b2 (by simp only [List.length_singleton]; omega) σ2
        have hpl := putS_len (xs := [(t.length : Int)]) (by simp [InI64]; omega)
        simp only [List.length_singleton] at hpl
        obtain ⟨v4, s4, a4, o4, k4, hob4⟩ := o3.appendS (t := 44) BT rfl k3 T9 (ys := t) (by rw [List.length_append]; omega)
        have q3 := k3.atV q2
        rw [if_pos h3]
        simp only [k60_a, WK, vop, evAll, evOpt, evParts, vbuiltin, vun, vextract, Nat.reduceLT, Nat.reduceEqDiff, ↓reduceIte, reduceCtorEq, Nat.reduceAdd, Int.reduceLT, Int.reduceNeg, FV2, q2.text, vlen_str T9, decide_eq_false h1, decide_eq_false h2, decide_eq_true h3, b1]
        refine KD.ret d3 ?_
        simp only [k60_a, WK, vop, evAll, evOpt, evParts, vbuiltin, vun, vextract, Nat.reduceLT, Nat.reduceEqDiff, ↓reduceIte, reduceCtorEq, Nat.reduceAdd, Int.reduceLT, Int.reduceNeg, FV2, q2.text, q3.text, a4]
        exact ⟨_, rfl, hk2.trans k4, by rw [← List.append_assoc]; exact o4.bts⟩
      rw [if_neg h3]
      have hhead : InI64 (headV k l.length) := by unfold InI64 headV; split <;> omega
      obtain ⟨b1, b2⟩ := buildInt IT hhead
      obtain ⟨r, s3, d3, k3, o3⟩ := put_does hv b2 (by simp only [List.length_singleton]; omega) σ2
      have hpl := putS_len (xs := [headV k l.length]) (by simpa using hhead)
      simp only [List.length_singleton] at hpl
      have q3 := k3.atV q2
      have hloop : ∀ (e : Nat → V), e 3 = .optr σ.objs.length 0 → BtsV (e 0) (bs ++ putS [headV k l.length]) → Ev Try.prog prims 59 (.seq (.seq (.region k60_r12) (.block 1 (.loop k60_l0))) (.seq (.region k60_r17) .ret)) e s3 (fnK Try.prog 59 [ResultVar.tmp 4] fun q σ' => ∃ r, q = .ret r ∧ Keep σ σ' ∧ BtsV r (bs ++ (putS [headV k l.length] ++ putL l))) := by
        intro e h3 h0
        simp only [k60_a, WK, vop, evAll, evOpt, evParts, vbuiltin, vun, vextract, Nat.reduceLT, Nat.reduceEqDiff, ↓reduceIte, reduceCtorEq, Nat.reduceAdd, Int.reduceLT, Int.reduceNeg, h3, FV3, q3.list, hw.len]
        refine Ev.loopF (I60 s3 (bs ++ putS [headV k l.length]) l) (fun i => l.length - i) 0 ⟨by simp [upd_some], by simp, by simpa [upd_some, putL] using h0, Keep.refl _⟩ ?_
        rintro i e1 σ1 ⟨h50, hi, hb, hk⟩ hf
        have h49 : e1 49 = .int .i64 l.length := (hf 49 (by decide)).trans (by simp [upd_some])
        have h48 : e1 48 = w := (hf 48 (by decide)).trans (by simp [upd_some])
        clear hf
        have hplt := weights_take_le l i
        have hpll : (putL (l.take i)).length ≤ 18 * weights (l.take i) := by
          have : ∀ {l : List Val} {cs : List V} (i : Nat), weights l ≤ 4294967296 → ValsC l cs → (putL (l.take i)).length ≤ 18 * weights (l.take i) := by
            intro l
            induction l with
            | nil => intro cs i _ _; simp [putL]
            | cons v l ihl =>
              intro cs i hl h
              cases h with
              | cons hc1 hc2 =>
                rw [weights] at hl
                cases i with
                | zero => simp [putL]
                | succ i =>
                  have x1 := putV_len _ (Nat.le_refl _) (by omega) hc1
                  have x2 := ihl i (by omega) hc2
                  rw [List.take_succ_cons, putL, weights, List.length_append]
                  omega
          cases hw with
          | nil => simp [putL]
          | row hc => exact this i (by omega) hc
        by_cases hlt : i < l.length
        · have hlt' : (i : Int) < l.length := by omega
          have hwi := idx_wrap (i := i) (by omega)
          obtain ⟨cs, c, ha0, hld, hc⟩ := hw.get hlt
          obtain ⟨s5, hs5⟩ : ∃ s5 : St, s5 = ⟨(σ1.objs ++ [Ob.cells val0C]).set σ1.objs.length (Ob.cells c), σ1.toks⟩ := ⟨_, rfl⟩
          have p5 : IsV s5 σ1.objs.length c := by rw [hs5]; exact IsV.made
          have k5 : Keep σ1 s5 := by rw [hs5]; exact (Keep.refl σ1).madeV _ _
          have hmem := weights_mem (List.getElem_mem hlt)
          have hts := weights_take_succ hlt
          have htl := weights_take_le l (i + 1)
          obtain ⟨r6, s6, d6, k6, o6⟩ := ih (by omega) s5 (by omega) hc hb (by simp only [List.length_append]; omega)
          simp only [k60_a, WK, vop, evAll, evOpt, evParts, vbuiltin, vun, vextract, Nat.reduceLT, Nat.reduceEqDiff, ↓reduceIte, reduceCtorEq, Nat.reduceAdd, Int.reduceLT, Int.reduceNeg, h48, h49, h50, hlt', ha0, hld, VZ24, vbox, vcells, IsV.new hc.len (show val0C.length = 4 from rfl) hc.one, ← hs5, p5.load hc.len]
          refine KD.ret d6 ?_
          simp only [k60_a, WK, vop, evAll, evOpt, evParts, vbuiltin, vun, vextract, Nat.reduceLT, Nat.reduceEqDiff, ↓reduceIte, reduceCtorEq, Nat.reduceAdd, Int.reduceLT, Int.reduceNeg, h50, hwi]
          refine ⟨i + 1, ⟨by simp [upd_some], hlt, ?_, (hk.trans k5).trans k6⟩, by omega⟩
          rw [putL_take_succ hlt, ← List.append_assoc]
          simpa [upd_some] using o6
        · have hlt' : ¬ (i : Int) < l.length := by omega
          simp only [k60_a, WK, vop, evAll, evOpt, evParts, vbuiltin, vun, vextract, Nat.reduceLT, Nat.reduceEqDiff, ↓reduceIte, reduceCtorEq, Nat.reduceAdd, Int.reduceLT, Int.reduceNeg, h48, h49, h50, hlt']
          rw [List.take_of_length_le (by omega), List.append_assoc] at hb
          exact ⟨_, rfl, (hk2.trans k3).trans hk, hb⟩
      simp only [WK, vop, evAll, evOpt, evParts, vbuiltin, vun, vextract, Nat.reduceLT, Nat.reduceEqDiff, ↓reduceIte, reduceCtorEq, Nat.reduceAdd, Int.reduceLT, Int.reduceNeg] at hloop
      have e20 : ((2 : Int) = 0) = False := eq_false (by decide)
      have w2 : IntKind.i64.wrap (Int.tdiv (l.length : Int) 2) = ((l.length / 2 : Nat) : Int) := by
        rw [Int.tdiv_eq_ediv_of_nonneg (by omega), wrap_i64 (by omega) (by omega)]; omega
      by_cases h5 : k = 5
      · have hh : headV k l.length = ((l.length / 2 : Nat) : Int) := by rw [headV, if_pos h5]
        rw [← hh] at w2
        simp only [k60_r2_e, k60_r4_e, k60_r6_e, k60_r8_e, k60_r9_e, k60_r10_e, k60_r11_e, WK, vop, evAll, evOpt, evParts, vbuiltin, vun, vextract, Nat.reduceLT, Nat.reduceEqDiff, ↓reduceIte, reduceCtorEq, Nat.reduceAdd, Int.reduceLT, Int.reduceNeg, FV0, FV3, q2.kind, q2.list, hw.len, decide_eq_false h1, decide_eq_false h2, decide_eq_false h3, decide_eq_true h5, e20, w2, b1]
        refine KD.ret d3 ?_
        simp only [WK, vop, evAll, evOpt, evParts, vbuiltin, vun, vextract, Nat.reduceLT, Nat.reduceEqDiff, ↓reduceIte, reduceCtorEq, Nat.reduceAdd, Int.reduceLT, Int.reduceNeg]
        exact hloop _ (by simp [upd_some]) (by simpa [upd_some] using o3.bts)
      · have hh : headV k l.length = (l.length : Int) := by rw [headV, if_neg h5]
        rw [hh] at b1 d3
        simp only [k60_r2_e, k60_r4_e, k60_r6_e, k60_r8_e, k60_r9_e, k60_r10_e, k60_r11_e, WK, vop, evAll, evOpt, evParts, vbuiltin, vun, vextract, Nat.reduceLT, Nat.reduceEqDiff, ↓reduceIte, reduceCtorEq, Nat.reduceAdd, Int.reduceLT, Int.reduceNeg, FV0, FV3, q2.kind, q2.list, hw.len, decide_eq_false h1, decide_eq_false h2, decide_eq_false h3, decide_eq_false h5, b1]
        refine KD.ret d3 ?_
        simp only [WK, vop, evAll, evOpt, evParts, vbuiltin, vun, vextract, Nat.reduceLT, Nat.reduceEqDiff, ↓reduceIte, reduceCtorEq, Nat.reduceAdd, Int.reduceLT, Int.reduceNeg]
        exact hloop _ (by simp [upd_some]) (by simpa [upd_some] using o3.bts)
    obtain ⟨q, σ', h1, r, rfl, h3, h4⟩ := key
    exact ⟨r, σ', h1, h3, h4⟩
theorem vput_does {a : Val} {c : List V} {v : V} {bs : List UInt8} (σ : St) (hw : weight a ≤ 4294967296) (ha : ValC a c) (hv : BtsV v bs) (hlen : bs.length ≤ 1000000000000) : ∃ r σ', Does Try.prog prims 60 [v, .agg c] σ (.ret r) σ' ∧ Keep σ σ' ∧ BtsV r (bs ++ putV a) :=
  vputV_ok _ (Nat.le_refl _) σ hw ha hv (by omega)
end Go.Proofs.Ytlimedbanpfkgaa.Q
