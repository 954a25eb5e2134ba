import Derived.Test.YtodcajpeilgfgaaLn
import Derived.Test.YtodcajpeilgfgaaLo
set_option linter.unusedVariables false
set_option linter.unusedSimpArgs false
namespace Go.Proofs.Ytodcajpeilgfgaa.Q
open Go Go.RowKit Go.Proofs

theorem T29 : Try.prog.underlying 29 = some (.slice 5) := T22
theorem TA30 : Try.prog.underlying 30 = some (.array 4 9) := by kernel_rfl
theorem Z30 : zeroT Try.prog 30 = some (.agg [.str [], .str [], .str [], .str []]) := by kernel_rfl
theorem S30 : sizeT Try.prog 30 = some 4 := by kernel_rfl
theorem B30 : vbuild Try.prog 30 [(0, .str [32]), (1, .str [10, 9]), (2, .str [35, 120, 32, 34, 10]), (3, .str [32, 35, 32, 49, 10, 35, 10])] = some (.agg (pads.map V.str)) := by kernel_rfl
theorem ofVal_p0 : ofVal (.string (ByteArray.mk #[])) = some (.str []) := rfl
theorem ofVal_p1 : ofVal (.string (ByteArray.mk #[32])) = some (.str [32]) := rfl
theorem ofVal_p2 : ofVal (.string (ByteArray.mk #[10, 9])) = some (.str [10, 9]) := rfl
theorem ofVal_p3 : ofVal (.string (ByteArray.mk #[35, 120, 32, 34, 10])) = some (.str [35, 120, 32, 34, 10]) := rfl
theorem ofVal_p4 : ofVal (.string (ByteArray.mk #[32, 35, 32, 49, 10, 35, 10])) = some (.str [32, 35, 32, 49, 10, 35, 10]) := rfl
theorem strBin_add {x y : List UInt8} (h : x.length + y.length ≤ 9223372036854775807) : strBin .add x y = some (.str (x ++ y)) := by simp only [strBin, if_pos h]
theorem chain_inv {s : List UInt8} {a : Nat} {t : Tok} {r : List Tok} (h : Chain s a (t :: r)) : t.pos = a ∧ a ≤ endOf s r ∧ endOf s r ≤ s.length ∧ (r ≠ [] → ∃ a', Chain s a' r) := by
  cases h with
  | done => exact ⟨rfl, Nat.le_refl _, Nat.le_refl _, fun h => absurd rfl h⟩
  | step h1 h2 h3 => exact ⟨rfl, by rw [h3.endOf]; omega, by rw [h3.endOf]; exact h3.le, fun _ => ⟨_, h3⟩⟩
theorem and3 (c : UInt8) : bitOp .and .u8 (c.toNat : Int) 3 = some (((c.toNat % 4 : Nat)) : Int) := by
  have := u8_all (p := fun c => decide (bitOp .and .u8 (c.toNat : Int) 3 = some (((c.toNat % 4 : Nat)) : Int))) (by decide +kernel) c
  simpa using this
theorem pads_at {p n : Nat} (h : n < 4) : vindexAddr Try.prog 30 (.optr p 0) (.int .u8 (n : Int)) = some (.optr p n) := by
  have h' : (n : Int) < 4 := by omega
  simp [vindexAddr, TA30, S9, h']
theorem pads_load {σ : St} {p n : Nat} (h : σ.objs[p]? = some (.cells (pads.map V.str))) (hn : n < 4) : vload Try.prog σ.objs 9 (.optr p n) = some (.str (pads.getD n [])) := by
  refine cell_load h G9 ?_
  have h4 : n < pads.length := hn
  rw [List.getElem?_map, List.getElem?_eq_getElem h4, List.getD_eq_getElem?_getD, List.getElem?_eq_getElem h4]
  rfl
theorem pads_len (n : Nat) : (pads.getD n []).length ≤ 7 := by
  have : ∀ m ∈ pads, m.length ≤ 7 := by decide
  rw [List.getD_eq_getElem?_getD]
  rcases Nat.lt_or_ge n pads.length with h | h
  · rw [List.getElem?_eq_getElem h]; exact this _ (List.getElem_mem _)
  · rw [List.getElem?_eq_none h]; simp
theorem build_le {s bs : List UInt8} : ∀ {a : Nat} {ts : List Tok}, Chain s a ts → ∀ i, (build s bs i ts).length ≤ 7 * ts.length + s.length - a := by
  intro a ts h
  have hpl : ∀ i, (padOf bs i).length ≤ 7 := by
    intro i
    unfold padOf
    split
    · exact pads_len _
    · simp
  induction h with
  | done => intro i; have := hpl i; simp [build, Q.endOf]; omega
  | @step a k t n w ts h1 h2 h3 ih =>
    intro i
    have h4 := ih (i + 1)
    have h5 := hpl i
    have h6 := h3.le
    have hw := nextR_w h2
    rw [build, h3.endOf]
    simp only [List.length_append, List.length_drop, List.length_take, List.length_cons]
    omega
theorem build_cons {s bs : List UInt8} {i : Nat} {t : Tok} {ts : List Tok} : build s bs i (t :: ts) = padOf bs i ++ (s.take (endOf s ts)).drop t.pos ++ build s bs (i + 1) ts := rfl
theorem core_eq {t t' : Tok} : core t = core t' ↔ t.kind = t'.kind ∧ t.text = t'.text ∧ t.num = t'.num := by simp [core]

set_option maxRecDepth 100000 in
theorem lexblanks_true (s : List UInt8) (hs : s.length ≤ 4294967296) {bs : List UInt8} {y : V} (hy : BtsV y bs) (hyl : bs.length ≤ 4294967296) (σ : St) : ∃ σ', Does Try.prog prims 4 [.str s, y] σ (.ret (.bool true)) σ' := by
  have key : ∃ q σ', Does Try.prog prims 4 [.str s, y] σ q σ' ∧ q = .ret (.bool true) := by
    apply k4_is.does (by simp)
    obtain ⟨s0, d0, k0⟩ := wakes_does σ
    obtain ⟨q1, s1, d1, ⟨w1, rfl, r1, k1⟩⟩ := lex_key s (by omega) s0
    simp only [k4_a, WK, vop, evAll, evOpt, evParts, vbuiltin, vun, vextract, Nat.reduceLT, Nat.reduceEqDiff, ↓reduceIte, reduceCtorEq, Nat.reduceAdd, Int.reduceLT, Int.reduceNeg, valloc_std, noSB]
    refine KD.ret d0 ?_
    simp only [k4_a, WK, vop, evAll, evOpt, evParts, vbuiltin, vun, vextract, Nat.reduceLT, Nat.reduceEqDiff, ↓reduceIte, reduceCtorEq, Nat.reduceAdd, Int.reduceLT, Int.reduceNeg, valloc_std, noSB]
    refine KD.ret d1 ?_
    rcases lexS_cases s with ⟨n, er, hR, her, hn⟩ | ⟨ts, hR, hch, h4096, h16⟩
    · rw [hR] at r1 ⊢
      have hl : vlen Try.prog 23 w1 = some (.int .i64 0) := r1.len
      have her' : (er = 0) = False := eq_false her
      simp only [k4_a, WK, vop, evAll, evOpt, evParts, vbuiltin, vun, vextract, Nat.reduceLT, Nat.reduceEqDiff, ↓reduceIte, reduceCtorEq, Nat.reduceAdd, Int.reduceLT, Int.reduceNeg, valloc_std, noSB, her', hl, decide_true]
    · rw [hR] at r1 ⊢
      replace r1 : TokRow w1 ts := r1
      have hl := r1.len
      obtain ⟨s2, hs2⟩ : ∃ s2 : St, s2 = ⟨s1.objs ++ [Ob.cells [.str [], .str [], .str [], .str []]], s1.toks⟩ := ⟨_, rfl⟩
      have q2 : s2.objs[s1.objs.length]? = some (.cells [.str [], .str [], .str [], .str []]) := by rw [hs2]; exact push_new _ _
      obtain ⟨s3, hs3⟩ : ∃ s3 : St, s3 = ⟨s2.objs.set s1.objs.length (.cells (pads.map V.str)), s2.toks⟩ := ⟨_, rfl⟩
      obtain ⟨k3, q3⟩ := KeepX.set_eq q2 hs3
      have st3 : vstore Try.prog s2 30 (.optr s1.objs.length 0) (.agg (pads.map V.str)) = some s3 := by rw [vstore_agg (cs' := pads.map V.str) q2 S30 rfl rfl, hs3]
      obtain ⟨out, hout⟩ : ∃ out, out = build s bs 0 ts := ⟨_, rfl⟩
      have hol : out.length ≤ 1048576 := by have := build_le (bs := bs) hch 0; rw [hout]; omega
      simp only [k4_a, WK, vop, evAll, evOpt, evParts, vbuiltin, vun, vextract, Nat.reduceLT, Nat.reduceEqDiff, ↓reduceIte, reduceCtorEq, Nat.reduceAdd, Int.reduceLT, Int.reduceNeg, valloc_std, noSB, ofVal_p0, ofVal_p1, ofVal_p2, ofVal_p3, ofVal_p4, Z30, vbox, vcells, ← hs2, B30, st3, hl]
      refine Ev.loopF (fun (i : Nat) e σ' => ∃ acc, e 32 = .int .i64 (i : Nat) ∧ e 9 = .str acc ∧ i ≤ ts.length ∧ acc ++ build s bs i (ts.drop i) = out ∧ (i < ts.length → ∃ a, Chain s a (ts.drop i)) ∧ Keep s3 σ') (fun i => ts.length - i) 0 ⟨[], by simp [upd_some], by simp [upd_some], Nat.zero_le _, by rw [hout]; rfl, fun _ => ⟨_, hch⟩, Keep.refl _⟩ ?_
      rintro i e σ' ⟨acc, h32, h9, hi, hacc, hC, hk⟩ hf
      have h0 : e 0 = .str s := (hf 0 (by decide)).trans (by simp [upd_some])
      have h1 : e 1 = y := (hf 1 (by decide)).trans (by simp [upd_some])
      have h5 : e 5 = w1 := (hf 5 (by decide)).trans (by simp [upd_some])
      have h8 : e 8 = .optr s1.objs.length 0 := (hf 8 (by decide)).trans (by simp [upd_some])
      have h30 : e 30 = w1 := (hf 30 (by decide)).trans (by simp [upd_some])
      have h31 : e 31 = .int .i64 (ts.length : Nat) := (hf 31 (by decide)).trans (by simp [upd_some])
      clear hf
      by_cases hlt : i < ts.length
      · have hlt' : (i : Int) < ts.length := by omega
        obtain ⟨a, hCa⟩ := hC hlt
        obtain ⟨t, r, htr⟩ : ∃ t r, ts.drop i = t :: r := ⟨_, _, List.drop_eq_getElem_cons hlt⟩
        have hti : ts[i] = t := by have := List.drop_eq_getElem_cons hlt; rw [htr] at this; injection this with h _; exact h.symm
        have hdr : ts.drop (i + 1) = r := by rw [← List.drop_drop, htr]; rfl
        have hrl : r.length = ts.length - (i + 1) := by rw [← hdr, List.length_drop]
        have hld : ∀ objs, vload Try.prog objs 32 (.eptr (ts.flatMap tokC) (i * 4)) = some (.agg (tokC t)) := fun objs => by rw [← hti]; exact tok_load hlt
        rw [htr] at hCa hacc
        obtain ⟨hta, hea, hel, hnx⟩ := chain_inv hCa
        obtain ⟨sa, sb, hsa, stb, ldb, lkb, lpb, ob, kb⟩ := tokmade σ' t
        have qb := kb.1 _ _ (hk.1 _ _ q3)
        have hwi : IntKind.i64.wrap ((i : Int) + 1) = ((i + 1 : Nat) : Int) := idx_wrap (by omega)
        obtain ⟨en, hen⟩ : ∃ en, en = endOf s r := ⟨_, rfl⟩
        rw [← hen] at hea hel
        have hsl := str_lohi (s := s) (n := t.pos) (m := en) (by omega) hel (k := .i64) (k' := .i64)
        have p1 : ¬ (t.pos : Int) < 0 := by omega
        have p2 : ¬ (en : Int) < (t.pos : Int) := by omega
        have p3 : ¬ (s.length : Int) < (en : Int) := by omega
        have p0 : ¬ (s.length : Int) < (t.pos : Int) := by omega
        have p4 : ¬ (s.length : Int) < (s.length : Int) := by omega
        obtain ⟨sg, hsg⟩ : ∃ sg, sg = (s.take en).drop t.pos := ⟨_, rfl⟩
        rw [build_cons, ← hen, ← hsg] at hacc
        rw [← hsg] at hsl
        have hal : acc.length + (padOf bs i).length + sg.length ≤ 1048576 := by
          have := congrArg List.length hacc
          simp only [List.length_append] at this
          omega
        have next : ∀ (acc' : List UInt8), acc' = acc ++ padOf bs i ++ sg → acc' ++ build s bs (i + 1) (ts.drop (i + 1)) = out ∧ (i + 1 < ts.length → ∃ a, Chain s a (ts.drop (i + 1))) := by
          rintro _ rfl
          rw [hdr]
          refine ⟨by rw [← hacc]; simp only [List.append_assoc], fun h => hnx ?_⟩
          intro h2
          rw [h2] at hrl
          simp at hrl
          omega
        have hko := hk.trans kb
        by_cases hpb : i < bs.length
        · have hpb' : (i : Int) < bs.length := by omega
          have hpad : padOf bs i = pads.getD (bs[i].toNat % 4) [] := by unfold padOf; rw [List.getElem?_eq_getElem hpb]
          have h4 : bs[i].toNat % 4 < 4 := Nat.mod_lt _ (by decide)
          have a1 := strBin_add (x := acc) (y := padOf bs i) (by omega)
          have a2 := strBin_add (x := acc ++ padOf bs i) (y := sg) (by rw [List.length_append]; omega)
          have lp := pads_load qb h4
          rw [← hpad] at lp
          by_cases hin : i + 1 < ts.length
          · have hin' : ((i + 1 : Nat) : Int) < ts.length := by omega
            obtain ⟨t', ht'⟩ : ∃ t', ts[i + 1]? = some t' := ⟨_, List.getElem?_eq_getElem hin⟩
            have hent : t'.pos = en := by
              rw [hen, ← hdr, List.drop_eq_getElem_cons hin]
              have := List.getElem?_eq_getElem hin
              rw [ht'] at this
              injection this with this
              rw [this]; rfl
            have ltp := fun objs => tok_pos ht' objs
            rw [hent] at ltp
            simp only [k4_a, WK, vop, evAll, evOpt, evParts, vbuiltin, vun, vextract, Nat.reduceLT, Nat.reduceEqDiff, ↓reduceIte, reduceCtorEq, Nat.reduceAdd, Int.reduceLT, Int.reduceNeg, valloc_std, noSB, h0, h1, h5, h8, h9, h30, h31, h32, hlt', r1.addr hlt, hld, ZK, vbox, vcells, ← hsa, stb, hy.len T22, hpb', hy.addr T22 S5 (Int.natCast_nonneg i) hpb', BtsV.load G5 hpb, Int.toNat_natCast, and3, pads_at h4, lp, a1, hwi, hl, hin', r1.addr hin, FE3, FK3, ltp, lpb, vlen_str T9, p1, p2, p3, T9, hsl, a2]
            obtain ⟨n1, n2⟩ := next _ rfl
            exact ⟨i + 1, ⟨_, by simp [upd_some], by simp [upd_some], by omega, n1, n2, hko⟩, by omega⟩
          · have hin' : ¬ ((i + 1 : Nat) : Int) < ts.length := by omega
            have hens : en = s.length := by
              have : r = [] := List.length_eq_zero_iff.1 (by omega)
              rw [hen, this]; rfl
            rw [hens] at hsl p2
            simp only [k4_a, WK, vop, evAll, evOpt, evParts, vbuiltin, vun, vextract, Nat.reduceLT, Nat.reduceEqDiff, ↓reduceIte, reduceCtorEq, Nat.reduceAdd, Int.reduceLT, Int.reduceNeg, valloc_std, noSB, h0, h1, h5, h8, h9, h30, h31, h32, hlt', r1.addr hlt, hld, ZK, vbox, vcells, ← hsa, stb, hy.len T22, hpb', hy.addr T22 S5 (Int.natCast_nonneg i) hpb', BtsV.load G5 hpb, Int.toNat_natCast, and3, pads_at h4, lp, a1, hwi, hl, hin', FK3, lpb, vlen_str T9, p1, p2, p4, T9, hsl, a2]
            obtain ⟨n1, n2⟩ := next _ rfl
            exact ⟨i + 1, ⟨_, by simp [upd_some], by simp [upd_some], by omega, n1, n2, hko⟩, by omega⟩
        · have hpb' : ¬ (i : Int) < bs.length := by omega
          have hpad : padOf bs i = [] := by unfold padOf; rw [List.getElem?_eq_none (by omega)]
          have a2 := strBin_add (x := acc) (y := sg) (by omega)
          have next := next
          rw [hpad, List.append_nil] at next
          by_cases hin : i + 1 < ts.length
          · have hin' : ((i + 1 : Nat) : Int) < ts.length := by omega
            obtain ⟨t', ht'⟩ : ∃ t', ts[i + 1]? = some t' := ⟨_, List.getElem?_eq_getElem hin⟩
            have hent : t'.pos = en := by
              rw [hen, ← hdr, List.drop_eq_getElem_cons hin]
              have := List.getElem?_eq_getElem hin
              rw [ht'] at this
              injection this with this
              rw [this]; rfl
            have ltp := fun objs => tok_pos ht' objs
            rw [hent] at ltp
            simp only [k4_a, WK, vop, evAll, evOpt, evParts, vbuiltin, vun, vextract, Nat.reduceLT, Nat.reduceEqDiff, ↓reduceIte, reduceCtorEq, Nat.reduceAdd, Int.reduceLT, Int.reduceNeg, valloc_std, noSB, h0, h1, h5, h8, h9, h30, h31, h32, hlt', r1.addr hlt, hld, ZK, vbox, vcells, ← hsa, stb, hy.len T22, hpb', hwi, hl, hin', r1.addr hin, FE3, FK3, ltp, lpb, vlen_str T9, p1, p2, p3, T9, hsl, a2]
            obtain ⟨n1, n2⟩ := next _ rfl
            exact ⟨i + 1, ⟨_, by simp [upd_some], by simp [upd_some], by omega, n1, n2, hko⟩, by omega⟩
          · have hin' : ¬ ((i + 1 : Nat) : Int) < ts.length := by omega
            have hens : en = s.length := by
              have : r = [] := List.length_eq_zero_iff.1 (by omega)
              rw [hen, this]; rfl
            rw [hens] at hsl p2
            simp only [k4_a, WK, vop, evAll, evOpt, evParts, vbuiltin, vun, vextract, Nat.reduceLT, Nat.reduceEqDiff, ↓reduceIte, reduceCtorEq, Nat.reduceAdd, Int.reduceLT, Int.reduceNeg, valloc_std, noSB, h0, h1, h5, h8, h9, h30, h31, h32, hlt', r1.addr hlt, hld, ZK, vbox, vcells, ← hsa, stb, hy.len T22, hpb', hwi, hl, hin', FK3, lpb, vlen_str T9, p1, p2, p4, T9, hsl, a2]
            obtain ⟨n1, n2⟩ := next _ rfl
            exact ⟨i + 1, ⟨_, by simp [upd_some], by simp [upd_some], by omega, n1, n2, hko⟩, by omega⟩
      · have hlt' : ¬ (i : Int) < ts.length := by omega
        have hao : acc = out := by rw [← hacc, List.drop_of_length_le (by omega)]; simp [build]
        subst hao
        by_cases hbig : 16384 < acc.length
        · have hbig' : (16384 : Int) < acc.length := by omega
          simp only [k4_a, WK, vop, evAll, evOpt, evParts, vbuiltin, vun, vextract, Nat.reduceLT, Nat.reduceEqDiff, ↓reduceIte, reduceCtorEq, Nat.reduceAdd, Int.reduceLT, Int.reduceNeg, valloc_std, noSB, h0, h1, h5, h8, h9, h30, h31, h32, hlt', vlen_str T9, hbig']
        have hbig' : ¬ (16384 : Int) < acc.length := by omega
        obtain ⟨us, hus, hmap⟩ := lexS_build bs hch h4096 (by rw [← hout]; omega)
        rw [← hout] at hus
        have hul : us.length = ts.length := by have := congrArg List.length hmap; simpa using this
        obtain ⟨q4, s4, d4, ⟨w4, rfl, r4, k4⟩⟩ := lex_key acc (by omega) σ'
        rw [hus] at d4 r4
        replace r4 : TokRow w4 us := r4
        have hl4 := r4.len
        rw [hul] at hl4
        simp only [k4_a, WK, vop, evAll, evOpt, evParts, vbuiltin, vun, vextract, Nat.reduceLT, Nat.reduceEqDiff, ↓reduceIte, reduceCtorEq, Nat.reduceAdd, Int.reduceLT, Int.reduceNeg, valloc_std, noSB, h0, h1, h5, h8, h9, h30, h31, h32, hlt', vlen_str T9, hbig']
        refine KD.ret d4 ?_
        simp only [k4_a, WK, vop, evAll, evOpt, evParts, vbuiltin, vun, vextract, Nat.reduceLT, Nat.reduceEqDiff, ↓reduceIte, reduceCtorEq, Nat.reduceAdd, Int.reduceLT, Int.reduceNeg, valloc_std, noSB, h5, hl, hl4]
        refine Ev.loopF (fun (j : Nat) e2 σ2 => e2 106 = .int .i64 (j : Nat) ∧ j ≤ ts.length ∧ True) (fun j => ts.length - j) 0 ⟨by simp [upd_some], Nat.zero_le _, trivial⟩ ?_
        rintro j e2 σ2 ⟨g106, hj, _⟩ hf
        have g5 : e2 5 = w1 := (hf 5 (by decide)).trans (by simp [upd_some, h5])
        have g13 : e2 13 = w4 := (hf 13 (by decide)).trans (by simp [upd_some])
        have g105 : e2 105 = .int .i64 (ts.length : Nat) := (hf 105 (by decide)).trans (by simp [upd_some])
        clear hf
        by_cases hjl : j < ts.length
        · have hjl' : (j : Int) < ts.length := by omega
          have hju : j < us.length := by omega
          have x1 : ts[j]? = some ts[j] := List.getElem?_eq_getElem hjl
          have x2 : us[j]? = some us[j] := List.getElem?_eq_getElem hju
          have hcore : core us[j] = core ts[j] := by
            have := congrArg (·[j]?) hmap
            simpa [hju, hjl] using this
          obtain ⟨c1, c2, c3⟩ := core_eq.1 hcore
          have y1 := fun objs => tok_kind x2 objs
          have y2 := fun objs => tok_text x2 objs
          have y3 := fun objs => tok_num x2 objs
          rw [c1] at y1
          rw [c2] at y2
          rw [c3] at y3
          have hwj : IntKind.i64.wrap ((j : Int) + 1) = ((j + 1 : Nat) : Int) := idx_wrap (by omega)
          simp only [k4_a, WK, vop, evAll, evOpt, evParts, vbuiltin, vun, vextract, Nat.reduceLT, Nat.reduceEqDiff, ↓reduceIte, reduceCtorEq, Nat.reduceAdd, Int.reduceLT, Int.reduceNeg, valloc_std, noSB, g106, g105, g5, g13, hjl', r1.addr hjl, r4.addr hju, FE0, FE1, FE2, y1, y2, y3, fun objs => tok_kind x1 objs, fun objs => tok_text x1 objs, fun objs => tok_num x1 objs, strBin, decide_true, Bool.not_true, hwj]
          exact ⟨j + 1, ⟨by simp [upd_some], by omega⟩, by omega⟩
        · have hjl' : ¬ (j : Int) < ts.length := by omega
          simp only [k4_a, WK, vop, evAll, evOpt, evParts, vbuiltin, vun, vextract, Nat.reduceLT, Nat.reduceEqDiff, ↓reduceIte, reduceCtorEq, Nat.reduceAdd, Int.reduceLT, Int.reduceNeg, valloc_std, noSB, g106, g105, g5, g13, hjl']
  obtain ⟨q, σ', h1, rfl⟩ := key
  exact ⟨σ', h1⟩
theorem blanks_true : LawTrue Try.prog prims 4 [9, 29] := by
  intro xs hA hb
  match xs, hA with
  | [x, y], ⟨hx, hy, _⟩ =>
    obtain ⟨s, rfl, hs⟩ := strarg T9 hx
    obtain ⟨bs, hB, hBl⟩ := bytes_arg T22 T5 C5 hy
    simp only [vbulks] at hb
    obtain ⟨σ', n, h⟩ := lexblanks_true s (by omega) hB (by omega) st0
    exact ⟨n, σ', h⟩
end Go.Proofs.Ytodcajpeilgfgaa.Q
