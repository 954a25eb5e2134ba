/- ValueBack: for every input of bulk at most 1048576 the law answers true. -/
import Derived.Test.YtlimedbanpfkgaaLu
set_option linter.unusedVariables false
set_option linter.unusedSimpArgs false
namespace Go.Proofs.Ytlimedbanpfkgaa.Q
open Go Go.RowKit Go.Proofs

theorem decS_put {s : List UInt8} {v : Val} (hv : ∃ c, ValC v c) (hf : fitsS s v = true) : decS s (putV v) = (v, 0) := by
  obtain ⟨T, rfl, h4, hw, hT⟩ := fitsS_ty hf
  have h := rdS_back true T v [] hT hv
  rw [List.append_nil] at h
  unfold decS
  rw [tyS_iff.2 ⟨rfl, h4⟩]
  simp only [h]
  rw [if_pos]
  unfold okS
  simp [hf]
theorem decS_bad {s b : List UInt8} {v : Val} (hf : fitsS s v = true) (h : (decS s b).2 = 0 → False) : (decS s b).2 = 11 := by
  obtain ⟨T, rfl, h4, hw, hT⟩ := fitsS_ty hf
  rcases decS_cases (tyB T) b with ⟨_, h1⟩ | ⟨h1, _⟩ | ⟨_, h1, _⟩
  · rw [tyS_iff.2 ⟨rfl, h4⟩] at h1; cases h1
  · rw [h1]
  · exact (h h1).elim
/-- No proper beginning is a value, and none is one with bytes behind. -/
theorem dec_pre {s x rest : List UInt8} {v : Val} (hv : ∃ c, ValC v c) (hf : fitsS s v = true) (hx : x ++ rest = putV v) (hne : rest ≠ []) (hq : ∃ c, ValC (decS s x).1 c) : (decS s x).2 = 11 := by
  refine decS_bad hf fun h0 => ?_
  obtain ⟨T, rfl, h4, hw, hT⟩ := fitsS_ty hf
  rcases decS_cases (tyB T) x with ⟨h1, _⟩ | ⟨h1, _⟩ | ⟨h1, _, h3⟩
  · rw [h1] at h0; cases h0
  · rw [h1] at h0; cases h0
  · rw [fitsS_fits h4, Bool.and_eq_true] at h1
    have a := rdS_back true T _ rest h1.2 hq
    rw [h3, hx] at a
    have b := rdS_back true T v [] hT hv
    rw [List.append_nil] at b
    rw [a] at b
    injection b with b1 b2
    injection b2 with b2 b3
    exact hne b2
theorem dec_more {s : List UInt8} {v : Val} (hv : ∃ c, ValC v c) (hf : fitsS s v = true) (y : UInt8) (hq : ∃ c, ValC (decS s (putV v ++ [y])).1 c) : (decS s (putV v ++ [y])).2 = 11 := by
  refine decS_bad hf fun h0 => ?_
  obtain ⟨T, rfl, h4, hw, hT⟩ := fitsS_ty hf
  rcases decS_cases (tyB T) (putV v ++ [y]) with ⟨h1, _⟩ | ⟨h1, _⟩ | ⟨h1, _, h3⟩
  · rw [h1] at h0; cases h0
  · rw [h1] at h0; cases h0
  · rw [fitsS_fits h4, Bool.and_eq_true] at h1
    have a := rdS_back true T _ [] h1.2 hq
    rw [h3, List.append_nil] at a
    have b := rdS_back true T v [y] hT hv
    rw [a] at b
    injection b with b1 b2
    injection b2 with b2 b3
    cases b2
theorem decS_err {s b : List UInt8} (h : (decS s b).2 ≠ 0) : (decS s b).1 = val0 ∧ decide ((decS s b).2 = 1) = !(tyS s).isSome := by
  rcases decS_cases s b with ⟨h1, h2⟩ | ⟨h1, T, h2⟩ | ⟨_, h2, _⟩
  · rw [h1, h2]; exact ⟨rfl, rfl⟩
  · rw [h1, h2]; exact ⟨rfl, rfl⟩
  · exact absurd h2 h
theorem encS_ok {s : List UInt8} {v : Val} (h : fitsS s v = true) : encS s v = (putV v, 0) := by unfold encS; rw [if_pos h]
theorem encS_no {s : List UInt8} {v : Val} (h : fitsS s v = false) : encS s v = ([], 1) := by unfold encS; rw [if_neg (by rw [h]; decide)]

set_option maxRecDepth 100000 in
theorem vback_tail {σ : St} {y : V} {s bs : List UInt8} (hB : BtsV y bs) (hl : bs.length ≤ 2000000) (hs : s.length ≤ 4294967296) {e : Nat → V} (h2 : e 2 = y) (h1 : e 1 = .str s) :
    Ev Try.prog prims 119 (.seq (.region k6_r21) (.seq (.seq (.region k6_r22) (.cond (.tmp 92) (.seq (.region k6_r23) .ret) .skip)) (.seq (.region k6_r24) (.seq (.region k6_r25) .ret)))) e σ (fun x e' _ => x = .ret ∧ e' 6 = .bool true) := by
  obtain ⟨D1, _⟩ := decode_both (s := s) hs (b := bs) (by omega) hB
  obtain ⟨c, s1, d1, k1, hw⟩ := D1 σ
  obtain ⟨s2, hs2⟩ : ∃ s2 : St, s2 = ⟨(s1.objs ++ [Ob.cells val0C]).set s1.objs.length (Ob.cells c), s1.toks⟩ := ⟨_, rfl⟩
  have p2 : IsV s2 s1.objs.length c := by rw [hs2]; exact IsV.made
  have hwt := decS_weight s bs
  simp only [k6_a, WK, vop, evAll, evOpt, evParts, vbuiltin, vun, vextract, Nat.reduceLT, Nat.reduceEqDiff, ↓reduceIte, reduceCtorEq, Nat.reduceAdd, Int.reduceLT, Int.reduceNeg, h1, h2]
  refine KD.ret d1 ?_
  by_cases h0 : (decS s bs).2 = 0
  · obtain ⟨r3, s3, d3, k3, b3⟩ := encode_does hs s2 (by omega) hw
    rcases decS_cases s bs with ⟨g1, _⟩ | ⟨g1, _⟩ | ⟨g1, _, g3⟩
    · rw [g1] at h0; cases h0
    · rw [g1] at h0; cases h0
    rw [encS_ok g1] at d3 b3
    simp only [g3] at d3 b3
    simp only [k6_a, WK, vop, evAll, evOpt, evParts, vbuiltin, vun, vextract, Nat.reduceLT, Nat.reduceEqDiff, ↓reduceIte, reduceCtorEq, Nat.reduceAdd, Int.reduceLT, Int.reduceNeg, VZ24, vbox, vcells, IsV.new hw.len (show val0C.length = 4 from rfl) hw.one, ← hs2, p2.load hw.len, h0, h1]
    refine KD.ret d3 ?_
    simp only [k6_a, WK, vop, evAll, evOpt, evParts, vbuiltin, vun, vextract, Nat.reduceLT, Nat.reduceEqDiff, ↓reduceIte, reduceCtorEq, Nat.reduceAdd, Int.reduceLT, Int.reduceNeg, h1, h2, b3.str T22 (t2 := 9) (show isU8 Try.prog 5 = true by kernel_rfl) T9, hB.str T22 (t2 := 9) (show isU8 Try.prog 5 = true by kernel_rfl) T9, strBin, eq_self]
  · obtain ⟨g1, g2⟩ := decS_err h0
    obtain ⟨k, n, t, l, w, e1, rfl, _⟩ := hw.inv
    rw [g1] at e1
    injection e1 with e1 e2
    subst e1
    have dt := reftype_does' s hs s2
    simp only [k6_a, WK, vop, evAll, evOpt, evParts, vbuiltin, vun, vextract, Nat.reduceLT, Nat.reduceEqDiff, ↓reduceIte, reduceCtorEq, Nat.reduceAdd, Int.reduceLT, Int.reduceNeg, VZ24, vbox, vcells, IsV.new hw.len (show val0C.length = 4 from rfl) hw.one, ← hs2, FV0, p2.kind, h0, h1]
    refine KD.ret dt ?_
    simp only [k6_a, WK, vop, evAll, evOpt, evParts, vbuiltin, vun, vextract, Nat.reduceLT, Nat.reduceEqDiff, ↓reduceIte, reduceCtorEq, Nat.reduceAdd, Int.reduceLT, Int.reduceNeg, g2, vbin_beq T4, beq_self_eq_true]

set_option maxRecDepth 100000 in
theorem back_true : LawTrue Try.prog prims 6 [24, 9, 44] := by
  intro xs hA hb
  match xs, hA with
  | [x, y, z], ⟨hx, hy, hz, _⟩ =>
    obtain ⟨v, c, rfl, hc, wv⟩ := val_arg hx
    obtain ⟨s, rfl, hs⟩ := str_arg T9 hy
    obtain ⟨b, hB, hBl⟩ := bytes_arg T22 T5 C5 hz
    simp only [vbulks] at hb
    have wv' : weight v ≤ 4294967296 := by omega
    have hl : s.length ≤ 4294967296 := by omega
    have key : ∃ r σ', Does Try.prog prims 6 [.agg c, .str s, z] st0 r σ' ∧ r = .ret (.bool true) := by
      apply k6_is.does (by simp)
      have hc4 := hc.len
      have one := hc.one
      obtain ⟨s1, hs1⟩ : ∃ s1 : St, s1 = ⟨st0.objs ++ [Ob.cells c], st0.toks⟩ := ⟨_, rfl⟩
      have q1 : IsV s1 0 c := by rw [hs1]; rfl
      obtain ⟨s2, d2, k2⟩ := wakes_does1 c
      have e1 : (⟨[Ob.cells c], []⟩ : St) = s1 := by rw [hs1]; rfl
      rw [e1] at d2 k2
      have q2 := k2.atV q1
      obtain ⟨l1, s3, d3, k3⟩ := large_does s2 wv' hc
      have q3 := k3.atV q2
      obtain ⟨r4, s4, d4, k4, b4⟩ := encode_does hl s3 wv' hc
      have q4 := k4.atV q3
      have tail : ∀ (e : Nat → V) (σ : St), e 2 = z → e 1 = .str s → Ev Try.prog prims 119 (.seq (.region k6_r21) (.seq (.seq (.region k6_r22) (.cond (.tmp 92) (.seq (.region k6_r23) .ret) .skip)) (.seq (.region k6_r24) (.seq (.region k6_r25) .ret)))) e σ (fnK Try.prog 119 [ResultVar.tmp 6] fun r σ' => r = .ret (.bool true)) := by
        intro e σ h2 h1
        refine Ev.cut (vback_tail hB (by omega) hl h2 h1) ?_
        rintro x e' σ' ⟨rfl, h4⟩ _
        simp only [WK, vop, evAll, evOpt, evParts, vbuiltin, vun, vextract, Nat.reduceLT, Nat.reduceEqDiff, ↓reduceIte, reduceCtorEq, Nat.reduceAdd, Int.reduceLT, Int.reduceNeg, h4]
      simp only [WK, vop, evAll, evOpt, evParts, vbuiltin, vun, vextract, Nat.reduceLT, Nat.reduceEqDiff, ↓reduceIte, reduceCtorEq, Nat.reduceAdd, Int.reduceLT, Int.reduceNeg] at tail
      simp only [k6_a, WK, vop, evAll, evOpt, evParts, vbuiltin, vun, vextract, Nat.reduceLT, Nat.reduceEqDiff, ↓reduceIte, reduceCtorEq, Nat.reduceAdd, Int.reduceLT, Int.reduceNeg, vbox, vcells, List.length_nil, show st0.objs.length = 0 from rfl, ← hs1]
      refine KD.ret d2 ?_
      simp only [k6_a, WK, vop, evAll, evOpt, evParts, vbuiltin, vun, vextract, Nat.reduceLT, Nat.reduceEqDiff, ↓reduceIte, reduceCtorEq, Nat.reduceAdd, Int.reduceLT, Int.reduceNeg, q2.load hc.len]
      refine KD.ret d3 ?_
      cases l1 with
      | true => simp only [k6_a, WK, vop, evAll, evOpt, evParts, vbuiltin, vun, vextract, Nat.reduceLT, Nat.reduceEqDiff, ↓reduceIte, reduceCtorEq, Nat.reduceAdd, Int.reduceLT, Int.reduceNeg]
      | false =>
      by_cases hbig : (16384 : Int) < b.length
      · simp only [k6_a, WK, vop, evAll, evOpt, evParts, vbuiltin, vun, vextract, Nat.reduceLT, Nat.reduceEqDiff, ↓reduceIte, reduceCtorEq, Nat.reduceAdd, Int.reduceLT, Int.reduceNeg, hB.len T22, hbig]
      · simp only [k6_a, WK, vop, evAll, evOpt, evParts, vbuiltin, vun, vextract, Nat.reduceLT, Nat.reduceEqDiff, ↓reduceIte, reduceCtorEq, Nat.reduceAdd, Int.reduceLT, Int.reduceNeg, hB.len T22, hbig, q3.load hc.len]
        refine KD.ret d4 ?_
        cases hf : fitsS s v with
        | false =>
          rw [encS_no hf] at b4
          obtain ⟨s5, d5, k5⟩ := vfits_does hl s4 wv' hc
          rw [hf] at d5
          simp only [WK, vop, evAll, evOpt, evParts, vbuiltin, vun, vextract, Nat.reduceLT, Nat.reduceEqDiff, ↓reduceIte, reduceCtorEq, Nat.reduceAdd, Int.reduceLT, Int.reduceNeg, encS_no hf, Int.reduceEq, q4.load hc.len, k6_r5_e, k6_r6_e, k6_r19_e]
          refine KD.ret d5 ?_
          simp only [WK, vop, evAll, evOpt, evParts, vbuiltin, vun, vextract, Nat.reduceLT, Nat.reduceEqDiff, ↓reduceIte, reduceCtorEq, Nat.reduceAdd, Int.reduceLT, Int.reduceNeg]
          exact tail _ _ (by simp [upd_some]) (by simp [upd_some])
        | true =>
          rw [encS_ok hf] at b4
          simp only at b4
          have hv : ∃ c, ValC v c := ⟨c, hc⟩
          have hX0 := putV_len (weight v) (Nat.le_refl _) wv' hc
          obtain ⟨X, hX⟩ : ∃ X, X = putV v := ⟨_, rfl⟩
          have dX := decS_put hv hf
          rw [← hX] at b4 hX0 dX
          have hXl : X.length ≤ 19000000 := by omega
          obtain ⟨D1, _⟩ := decode_both (s := s) hl (b := X) (by omega) b4
          obtain ⟨c5, s5, d5, k5, h5⟩ := D1 s4
          rw [dX] at d5 h5
          simp only at d5 h5
          obtain ⟨s6, hs6⟩ : ∃ s6 : St, s6 = ⟨(s5.objs ++ [Ob.cells val0C]).set s5.objs.length (Ob.cells c5), s5.toks⟩ := ⟨_, rfl⟩
          have p6 : IsV s6 s5.objs.length c5 := by rw [hs6]; exact IsV.made
          have k6 : Keep s5 s6 := by rw [hs6]; exact (Keep.refl s5).madeV _ _
          have q6 := k6.atV (k5.atV q4)
          obtain ⟨s7, d7, k7⟩ := compare_does s6 wv' h5 hc
          rw [cmpV_refl] at d7
          simp only [k6_a, WK, vop, evAll, evOpt, evParts, vbuiltin, vun, vextract, Nat.reduceLT, Nat.reduceEqDiff, ↓reduceIte, reduceCtorEq, Nat.reduceAdd, Int.reduceLT, Int.reduceNeg, encS_ok hf]
          refine KD.ret d5 ?_
          simp only [k6_a, WK, vop, evAll, evOpt, evParts, vbuiltin, vun, vextract, Nat.reduceLT, Nat.reduceEqDiff, ↓reduceIte, reduceCtorEq, Nat.reduceAdd, Int.reduceLT, Int.reduceNeg, VZ24, vbox, vcells, IsV.new h5.len (show val0C.length = 4 from rfl) h5.one, ← hs6, p6.load h5.len, q6.load hc.len]
          refine KD.ret d7 ?_
          simp only [k6_a, WK, vop, evAll, evOpt, evParts, vbuiltin, vun, vextract, Nat.reduceLT, Nat.reduceEqDiff, ↓reduceIte, reduceCtorEq, Nat.reduceAdd, Int.reduceLT, Int.reduceNeg]
          refine Ev.loopF (fun i e σ => e 11 = .int .i64 (i : Nat)) (fun i => X.length - i) 0 (by simp [upd_some]) ?_
          rintro i e σ h11 hf'
          have g7 : e 7 = r4 := (hf' 7 (by decide)).trans (by simp [upd_some])
          have g1 : e 1 = .str s := (hf' 1 (by decide)).trans (by simp [upd_some])
          have g2 : e 2 = z := (hf' 2 (by decide)).trans (by simp [upd_some])
          clear hf'
          have last : ∃ v9 s9 va sa q σ', vappend Try.prog σ 44 44 (.slice .exact 1 [] 0) r4 = some (v9, s9) ∧ vbuildSlice Try.prog 44 1 [(0, .int .u8 0)] = some (.slice .exact 1 [.int .u8 0] 1) ∧ vappend Try.prog s9 44 44 v9 (.slice .exact 1 [.int .u8 0] 1) = some (va, sa) ∧ Does Try.prog prims 32 [va, .str s] sa (.ret (.tuple [q, .int .i64 11])) σ' := by
            have ho1 : OwnV 5 σ.toks.length σ (.slice .exact 1 [] 0) [] := .inr ⟨_, rfl, .inl rfl⟩
            obtain ⟨v9, s9, ha9, ho9, k9⟩ := ho1.append BT rfl (Keep.refl σ) T22 b4 (by simp; omega)
            rw [List.nil_append] at ho9
            have hb0 := buildByte BT (n := 0) (by omega)
            obtain ⟨va, sa, haa, hoa, ka⟩ := ho9.append BT rfl k9 T22 hb0.2 (by simp; omega)
            obtain ⟨D2, _⟩ := decode_both (s := s) hl (b := X ++ [UInt8.ofNat 0]) (by simp; omega) hoa.bts
            obtain ⟨cb, sb, db, kb, hcb⟩ := D2 sa
            have hm := dec_more hv hf (UInt8.ofNat 0) ⟨cb, by rw [← hX]; exact hcb⟩
            rw [← hX] at hm
            rw [hm] at db
            have hb01 := hb0.1
            simp only [Int.ofNat_zero, Int.natCast_zero, Int.cast_ofNat_Int] at hb01 haa
            exact ⟨v9, s9, va, sa, _, _, ha9, hb01, haa, db⟩
          obtain ⟨v9, s9, va, sa, qb, sb, ha9, hb01, haa, db⟩ := last
          by_cases hlt : i < X.length
          · have hlt' : (i : Int) < (X.length : Int) := by omega
            by_cases h40 : (i : Int) < 40
            · obtain ⟨sl, hsl, hbt⟩ := b4.slice T22 S5 (lo := none) (hi := some (.int .i64 (i : Nat))) (vbounds_hi (by omega) (by omega)) (by omega) (by omega)
              simp only [Int.toNat_natCast, List.drop_zero, Nat.sub_zero] at hbt
              obtain ⟨D2, _⟩ := decode_both (s := s) hl (b := X.take i) (by rw [List.length_take]; omega) hbt
              obtain ⟨c8, s8, d8, k8, h8⟩ := D2 σ
              rw [dec_pre hv hf (x := X.take i) (rest := X.drop i) (by rw [List.take_append_drop, hX]) (fun h => by have := congrArg List.length h; simp at this; omega) ⟨c8, h8⟩] at d8
              have w1 : IntKind.i64.wrap ((i : Int) + 1) = ((i + 1 : Nat) : Int) := idx_wrap (by omega)
              simp only [k6_a, WK, vop, evAll, evOpt, evParts, vbuiltin, vun, vextract, Nat.reduceLT, Nat.reduceEqDiff, ↓reduceIte, reduceCtorEq, Nat.reduceAdd, Int.reduceLT, Int.reduceNeg, g1, g7, h11, b4.len T22, hlt', h40, T22, hsl]
              refine KD.ret d8 ?_
              simp only [k6_a, WK, vop, evAll, evOpt, evParts, vbuiltin, vun, vextract, Nat.reduceLT, Nat.reduceEqDiff, ↓reduceIte, reduceCtorEq, Nat.reduceAdd, Int.reduceLT, Int.reduceNeg, g7, h11, Int.reduceEq, w1]
              exact ⟨i + 1, by simp [upd_some], by omega⟩
            · simp only [k6_a, WK, vop, evAll, evOpt, evParts, vbuiltin, vun, vextract, Nat.reduceLT, Nat.reduceEqDiff, ↓reduceIte, reduceCtorEq, Nat.reduceAdd, Int.reduceLT, Int.reduceNeg, g1, g7, h11, b4.len T22, hlt', h40, build0 BT, ha9, hb01, haa]
              refine KD.ret db ?_
              simp only [WK, vop, evAll, evOpt, evParts, vbuiltin, vun, vextract, Nat.reduceLT, Nat.reduceEqDiff, ↓reduceIte, reduceCtorEq, Nat.reduceAdd, Int.reduceLT, Int.reduceNeg, Int.reduceEq, k6_r17_e, k6_r16_e]
              exact tail _ _ (by simp [upd_some, g2]) (by simp [upd_some, g1])
          · have hlt' : ¬ (i : Int) < (X.length : Int) := by omega
            simp only [k6_a, WK, vop, evAll, evOpt, evParts, vbuiltin, vun, vextract, Nat.reduceLT, Nat.reduceEqDiff, ↓reduceIte, reduceCtorEq, Nat.reduceAdd, Int.reduceLT, Int.reduceNeg, g1, g7, h11, b4.len T22, hlt', build0 BT, ha9, hb01, haa]
            refine KD.ret db ?_
            simp only [WK, vop, evAll, evOpt, evParts, vbuiltin, vun, vextract, Nat.reduceLT, Nat.reduceEqDiff, ↓reduceIte, reduceCtorEq, Nat.reduceAdd, Int.reduceLT, Int.reduceNeg, Int.reduceEq, k6_r17_e, k6_r16_e]
            exact tail _ _ (by simp [upd_some, g2]) (by simp [upd_some, g1])
    obtain ⟨r, σ', ⟨n, h⟩, rfl⟩ := key
    exact ⟨n, σ', h⟩
end Go.Proofs.Ytlimedbanpfkgaa.Q
