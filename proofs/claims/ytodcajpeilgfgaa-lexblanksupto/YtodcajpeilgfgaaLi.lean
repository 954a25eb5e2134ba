import Derived.Test.YtodcajpeilgfgaaLh
set_option linter.unusedVariables false
set_option linter.unusedSimpArgs false
namespace Go.Proofs.Ytodcajpeilgfgaa.Q
open Go Go.RowKit Go.Proofs

theorem buildB1 (c : UInt8) : vbuildSlice Try.prog 29 1 [(0, .int .u8 (c.toNat : Int))] = some (.slice .exact 1 [byteV c] 1) ∧ BtsV (.slice .exact 1 [byteV c] 1) [c] := ⟨build1 BT, .inr ⟨_, rfl⟩⟩

set_option maxRecDepth 100000 in
theorem reftext_does {s : List UInt8} {n : Nat} (hn : n < s.length) (hs : s.length ≤ 1000000) (σ : St) :
    ∃ q σ', Does Try.prog prims 21 [.str s, .int .i64 (n : Int)] σ q σ' ∧ q = .ret (nextT n (txtR (s.drop (n + 1)) [] 1)) ∧ Keep σ σ' := by
  apply k21_is.does (by simp)
  obtain ⟨s1, hs1, k1, q1⟩ := tokvar σ
  have hw1 := idx_wrap (i := n) (by omega)
  simp only [k21_a, WK, vop, evAll, evOpt, evParts, vbuiltin, vun, vextract, Nat.reduceLT, Nat.reduceEqDiff, ↓reduceIte, reduceCtorEq, Nat.reduceAdd, Int.reduceLT, Int.reduceNeg, valloc_std, noSB, ZK, vbox, vcells, ← hs1, ofVal_nil, hw1]
  refine Ev.loopF (fun i e σ' => ∃ acc, e 8 = .int .i64 (i : Nat) ∧ n + 1 ≤ i ∧ i ≤ s.length ∧ OwnV 5 s1.toks.length σ' (e 7) acc ∧ acc.length + n + 1 ≤ i ∧ Keep s1 σ' ∧ txtR (s.drop i) acc (i - n) = txtR (s.drop (n + 1)) [] 1) (fun i => s.length - i) (n + 1) ⟨[], by simp [upd_some], Nat.le_refl _, by omega, .inl ⟨by simp [upd_some], rfl⟩, by simp, Keep.refl _, by rw [show n + 1 - n = 1 by omega]⟩ ?_
  rintro i e σ' ⟨acc, h8, hni, hi, ho, hal, hk, htx⟩ hf
  have h0 : e 0 = .str s := (hf 0 (by decide)).trans (by simp [upd_some])
  have h1 : e 1 = .int .i64 n := (hf 1 (by decide)).trans (by simp [upd_some])
  have h4 : e 4 = .optr σ.objs.length 0 := (hf 4 (by decide)).trans (by simp [upd_some])
  clear hf
  have q' := hk.1 _ _ q1
  obtain ⟨s2, st2, ld2, k2, _⟩ := tokcell q' rfl (show tok0C.length = 4 from rfl) rfl
  have kk2 : Keep σ s2 := (k1.trans hk).viaX' k2 (Nat.le_refl _)
  by_cases hlt : i < s.length
  · have hlt' : (i : Int) < s.length := by omega
    obtain ⟨c, r, hcr⟩ : ∃ c r, s.drop i = c :: r := ⟨_, _, List.drop_eq_getElem_cons hlt⟩
    have hc : s[i]? = some c := by have := congrArg (·[0]?) hcr; simpa using this
    have hr1 : s.drop (i + 1) = r := by rw [← List.drop_drop, hcr]; rfl
    have hwi := idx_wrap (i := i) (by omega)
    rw [hcr] at htx
    by_cases h34 : c = 34
    · have e34 : ((c.toNat : Int) = 34) = True := eq_true (by rw [h34]; rfl)
      rw [h34, txtR_34] at htx
      by_cases hbig : 256 < acc.length
      · have hbig' : (256 : Int) < acc.length := by omega
        rw [if_pos hbig] at htx
        simp only [k21_a, WK, vop, evAll, evOpt, evParts, vbuiltin, vun, vextract, Nat.reduceLT, Nat.reduceEqDiff, ↓reduceIte, reduceCtorEq, Nat.reduceAdd, Int.reduceLT, Int.reduceNeg, valloc_std, noSB, h0, h1, h4, h8, vlen_str T9, hlt', str_at hc, e34, ho.bts.len T22, hbig', BK0, st2, ld2]
        rw [← htx]
        exact ⟨rfl, kk2⟩
      · have hbig' : ¬ (256 : Int) < acc.length := by omega
        rw [if_neg hbig] at htx
        obtain ⟨s3, st3, ld3, k3, _⟩ := tokcell q' rfl (show ([.int .i64 3, .str acc, .int .i64 0, .int .i64 (n : Int)] : List V).length = 4 from rfl) rfl
        simp only [k21_a, WK, vop, evAll, evOpt, evParts, vbuiltin, vun, vextract, Nat.reduceLT, Nat.reduceEqDiff, ↓reduceIte, reduceCtorEq, Nat.reduceAdd, Int.reduceLT, Int.reduceNeg, valloc_std, noSB, h0, h1, h4, h8, vlen_str T9, hlt', str_at hc, e34, ho.bts.len T22, hbig', ho.bts.str T22 (t2 := 9) (show isU8 Try.prog 5 = true by kernel_rfl) T9, BK13, hwi, st3, ld3]
        rw [← htx]
        refine ⟨?_, (k1.trans hk).viaX' k3 (Nat.le_refl _)⟩
        simp only [nextT, tokC]
        rw [show n + (i - n + 1) = i + 1 by omega]
        rfl
    · have e34 : ((c.toNat : Int) = 34) = False := eq_false (by rw [show (34 : Int) = ((34 : Nat) : Int) from rfl, u8n (by decide)]; exact h34)
      have hbad : ∀ {er : Int}, txtR (c :: r) acc (i - n) = .bad (i - n) er → nextT n (txtR (s.drop (n + 1)) [] 1) = .tuple [.agg tok0C, .int .i64 (i : Nat), .int .i64 er] := by
        intro er h
        rw [← htx, h, nextT, show n + (i - n) = i by omega]
      by_cases hctl : c.toNat < 32 ∨ 126 < c.toNat
      · have hb := hbad (er := 30) (by rw [txtR_cons, if_neg h34, if_pos hctl])
        rw [hb]
        by_cases hc32 : (c.toNat : Int) < 32
        · simp only [k21_a, WK, vop, evAll, evOpt, evParts, vbuiltin, vun, vextract, Nat.reduceLT, Nat.reduceEqDiff, ↓reduceIte, reduceCtorEq, Nat.reduceAdd, Int.reduceLT, Int.reduceNeg, valloc_std, noSB, h0, h1, h4, h8, vlen_str T9, hlt', str_at hc, e34, hc32, BK0, st2, ld2]
          exact kk2
        · have hc126 : (126 : Int) < c.toNat := by omega
          simp only [k21_a, WK, vop, evAll, evOpt, evParts, vbuiltin, vun, vextract, Nat.reduceLT, Nat.reduceEqDiff, ↓reduceIte, reduceCtorEq, Nat.reduceAdd, Int.reduceLT, Int.reduceNeg, valloc_std, noSB, h0, h1, h4, h8, vlen_str T9, hlt', str_at hc, e34, hc32, hc126, BK0, st2, ld2]
          exact kk2
      · have hc32 : ¬ (c.toNat : Int) < 32 := by omega
        have hc126 : ¬ (126 : Int) < c.toNat := by omega
        have push : ∀ (d : UInt8), ∃ v3 s3, vappend Try.prog σ' 29 29 (e 7) (.slice .exact 1 [byteV d] 1) = some (v3, s3) ∧ OwnV 5 s1.toks.length s3 v3 (acc ++ [d]) ∧ Keep s1 s3 := by
          intro d
          obtain ⟨v3, s3, ha, ho3, hk3⟩ := ho.append BT rfl hk T22 (buildB1 d).2 (by simp; omega)
          exact ⟨v3, s3, ha, ho3, hk3⟩
        by_cases h92 : c = 92
        · have e92 : ((c.toNat : Int) = 92) = True := eq_true (by rw [h92]; rfl)
          by_cases hlt2 : i + 1 < s.length
          · have hge : ¬ (s.length : Int) ≤ ((i + 1 : Nat) : Int) := by omega
            obtain ⟨d, r2, hdr⟩ : ∃ d r2, s.drop (i + 1) = d :: r2 := ⟨_, _, List.drop_eq_getElem_cons hlt2⟩
            have hd : s[i + 1]? = some d := by have := congrArg (·[0]?) hdr; simpa using this
            have hr2 : s.drop (i + 2) = r2 := by rw [show i + 2 = (i + 1) + 1 by omega, ← List.drop_drop, hdr]; rfl
            have hrd : r = d :: r2 := by rw [← hr1, hdr]
            have q34 : ((d.toNat : Int) = 34) = (d = 34) := by rw [show (34 : Int) = ((34 : Nat) : Int) from rfl, u8n (by decide)]; rfl
            have q92 : ((d.toNat : Int) = 92) = (d = 92) := by rw [show (92 : Int) = ((92 : Nat) : Int) from rfl, u8n (by decide)]; rfl
            obtain ⟨v3, s3, ha3, ho3, hk3⟩ := push d
            have w3 : IntKind.i64.wrap (((i + 1 : Nat) : Int) + 1) = ((i + 2 : Nat) : Int) := idx_wrap (by omega)
            have good : d = 34 ∨ d = 92 → txtR (s.drop (i + 2)) (acc ++ [d]) (i + 2 - n) = txtR (s.drop (n + 1)) [] 1 := by
              intro hdd
              rw [← htx, txtR_cons, if_neg h34, if_neg hctl, if_pos h92, hrd]
              simp only
              rw [if_neg (by rcases hdd with h | h <;> simp [h]), hr2, show i + 2 - n = i - n + 2 by omega]
            by_cases hd34 : d = 34
            · have f34 : ((d.toNat : Int) = 34) = True := by rw [q34]; exact eq_true hd34
              simp only [k21_a, WK, vop, evAll, evOpt, evParts, vbuiltin, vun, vextract, Nat.reduceLT, Nat.reduceEqDiff, ↓reduceIte, reduceCtorEq, Nat.reduceAdd, Int.reduceLT, Int.reduceNeg, valloc_std, noSB, h0, h1, h4, h8, vlen_str T9, hlt', str_at hc, e34, hc32, hc126, e92, hwi, hge, str_at hd, f34, (buildB1 d).1, ha3, w3]
              exact ⟨i + 2, ⟨acc ++ [d], by simp [upd_some], by omega, by omega, by simpa [upd_some] using ho3, by simp; omega, hk3, good (.inl hd34)⟩, by omega⟩
            · by_cases hd92 : d = 92
              · have f34 : ((d.toNat : Int) = 34) = False := by rw [q34]; exact eq_false hd34
                have f92 : ((d.toNat : Int) = 92) = True := by rw [q92]; exact eq_true hd92
                simp only [k21_a, WK, vop, evAll, evOpt, evParts, vbuiltin, vun, vextract, Nat.reduceLT, Nat.reduceEqDiff, ↓reduceIte, reduceCtorEq, Nat.reduceAdd, Int.reduceLT, Int.reduceNeg, valloc_std, noSB, h0, h1, h4, h8, vlen_str T9, hlt', str_at hc, e34, hc32, hc126, e92, hwi, hge, str_at hd, f34, f92, (buildB1 d).1, ha3, w3]
                exact ⟨i + 2, ⟨acc ++ [d], by simp [upd_some], by omega, by omega, by simpa [upd_some] using ho3, by simp; omega, hk3, good (.inr hd92)⟩, by omega⟩
              · have f34 : ((d.toNat : Int) = 34) = False := by rw [q34]; exact eq_false hd34
                have f92 : ((d.toNat : Int) = 92) = False := by rw [q92]; exact eq_false hd92
                have hb := hbad (er := 30) (by rw [txtR_cons, if_neg h34, if_neg hctl, if_pos h92, hrd]; simp only; rw [if_pos ⟨hd34, hd92⟩])
                rw [hb]
                simp only [k21_a, WK, vop, evAll, evOpt, evParts, vbuiltin, vun, vextract, Nat.reduceLT, Nat.reduceEqDiff, ↓reduceIte, reduceCtorEq, Nat.reduceAdd, Int.reduceLT, Int.reduceNeg, valloc_std, noSB, h0, h1, h4, h8, vlen_str T9, hlt', str_at hc, e34, hc32, hc126, e92, hwi, hge, str_at hd, f34, f92, BK0, st2, ld2]
                exact kk2
          · have hge : (s.length : Int) ≤ ((i + 1 : Nat) : Int) := by omega
            have hrn : r = [] := by rw [← hr1]; exact List.drop_of_length_le (by omega)
            have hb := hbad (er := 30) (by rw [txtR_cons, if_neg h34, if_neg hctl, if_pos h92, hrn])
            rw [hb]
            simp only [k21_a, WK, vop, evAll, evOpt, evParts, vbuiltin, vun, vextract, Nat.reduceLT, Nat.reduceEqDiff, ↓reduceIte, reduceCtorEq, Nat.reduceAdd, Int.reduceLT, Int.reduceNeg, valloc_std, noSB, h0, h1, h4, h8, vlen_str T9, hlt', str_at hc, e34, hc32, hc126, e92, hwi, hge, BK0, st2, ld2]
            exact kk2
        · have e92 : ((c.toNat : Int) = 92) = False := eq_false (by rw [show (92 : Int) = ((92 : Nat) : Int) from rfl, u8n (by decide)]; exact h92)
          obtain ⟨v3, s3, ha3, ho3, hk3⟩ := push c
          simp only [k21_a, WK, vop, evAll, evOpt, evParts, vbuiltin, vun, vextract, Nat.reduceLT, Nat.reduceEqDiff, ↓reduceIte, reduceCtorEq, Nat.reduceAdd, Int.reduceLT, Int.reduceNeg, valloc_std, noSB, h0, h1, h4, h8, vlen_str T9, hlt', str_at hc, e34, hc32, hc126, e92, (buildB1 c).1, ha3, hwi]
          refine ⟨i + 1, ⟨acc ++ [c], by simp [upd_some], by omega, hlt, by simpa [upd_some] using ho3, by simp; omega, hk3, ?_⟩, by omega⟩
          rw [← htx, txtR_cons, if_neg h34, if_neg hctl, if_neg h92, hr1, show i + 1 - n = i - n + 1 by omega]
  · have hlt' : ¬ (i : Int) < s.length := by omega
    have htx2 : txtR (s.drop (n + 1)) [] 1 = .bad 0 30 := by rw [← htx, List.drop_of_length_le (by omega), txtR_nil]
    simp only [k21_a, WK, vop, evAll, evOpt, evParts, vbuiltin, vun, vextract, Nat.reduceLT, Nat.reduceEqDiff, ↓reduceIte, reduceCtorEq, Nat.reduceAdd, Int.reduceLT, Int.reduceNeg, valloc_std, noSB, h0, h1, h4, h8, vlen_str T9, hlt', BK0, st2, ld2]
    rw [htx2]
    exact ⟨rfl, kk2⟩

set_option maxRecDepth 100000 in
theorem refmark_does {s : List UInt8} {n : Nat} (hn : n < s.length) (hs : s.length ≤ 1000000) (σ : St) :
    ∃ q σ', Does Try.prog prims 22 [.str s, .int .i64 (n : Int)] σ q σ' ∧ q = .ret (nextT n (markR (s.drop n))) ∧ Keep σ σ' := by
  apply k22_is.does (by simp)
  obtain ⟨s1, hs1, k1, q1⟩ := tokvar σ
  obtain ⟨c, r, hcr⟩ : ∃ c r, s.drop n = c :: r := ⟨_, _, List.drop_eq_getElem_cons hn⟩
  have hc : s[n]? = some c := by have := congrArg (·[0]?) hcr; simpa using this
  have hw1 := idx_wrap (i := n) (by omega)
  obtain ⟨s2, st2, ld2, k2, _⟩ := tokcell q1 rfl (show tok0C.length = 4 from rfl) rfl
  have sing : (s.drop n).take 2 ∉ dbl → (c ∈ sgl ∧ markR (s.drop n) = .ok 4 [c] 0 1) ∨ (c ∉ sgl ∧ markR (s.drop n) = .bad 0 30) := by
    intro hnd
    by_cases h : c ∈ sgl
    · refine .inl ⟨h, ?_⟩
      unfold markR
      rw [if_neg hnd, hcr]
      simp only
      rw [if_pos h]
    · refine .inr ⟨h, ?_⟩
      unfold markR
      rw [if_neg hnd, hcr]
      simp only
      rw [if_neg h]
  have hsl1 := str_lohi (s := s) (n := n) (m := n + 1) (by omega) (by omega) (k := .i64) (k' := .i64)
  rw [List.drop_take, show n + 1 - n = 1 by omega, hcr] at hsl1
  simp only [List.take_succ_cons, List.take_zero] at hsl1
  obtain ⟨s3, st3, ld3, k3, _⟩ := tokcell q1 rfl (show ([.int .i64 4, .str [c], .int .i64 0, .int .i64 (n : Int)] : List V).length = 4 from rfl) rfl
  have cn : ∀ k : Nat, k < 256 → ((c.toNat : Int) = (k : Int)) = (c = UInt8.ofNat k) := fun k hk => u8n hk
  have hxs : c ∈ sgl → (c.toNat : Int) = 40 ∨ (c.toNat : Int) = 41 ∨ (c.toNat : Int) = 123 ∨ (c.toNat : Int) = 125 ∨ (c.toNat : Int) = 91 ∨ (c.toNat : Int) = 93 ∨ (c.toNat : Int) = 58 ∨ (c.toNat : Int) = 59 ∨ (c.toNat : Int) = 44 ∨ (c.toNat : Int) = 61 ∨ (c.toNat : Int) = 60 ∨ (c.toNat : Int) = 62 ∨ (c.toNat : Int) = 43 ∨ (c.toNat : Int) = 45 ∨ (c.toNat : Int) = 42 ∨ (c.toNat : Int) = 47 ∨ (c.toNat : Int) = 37 ∨ (c.toNat : Int) = 33 ∨ (c.toNat : Int) = 46 := by
    intro hm
    simp only [sgl, List.mem_cons, List.not_mem_nil, or_false] at hm
    rcases hm with h | h | h | h | h | h | h | h | h | h | h | h | h | h | h | h | h | h | h <;> (subst h; decide)
  have ne : c ∉ sgl → ∀ k : Nat, k < 256 → UInt8.ofNat k ∈ sgl → ((c.toNat : Int) = (k : Int)) = False := by
    intro hm k hk hks
    rw [cn k hk]
    exact eq_false fun e => hm (by rw [e]; exact hks)
  obtain ⟨two, htwo⟩ : ∃ two, two = (s.drop n).take 2 := ⟨_, rfl⟩
  by_cases hlt : n + 1 < s.length
  · have hlt' : ((n + 1 : Nat) : Int) < s.length := by omega
    have hw2 : IntKind.i64.wrap ((n : Int) + 2) = ((n + 2 : Nat) : Int) := by rw [wrap_i64 (by omega) (by omega)]; omega
    have hsl2 := str_lohi (s := s) (n := n) (m := n + 2) (by omega) (by omega) (k := .i64) (k' := .i64)
    rw [List.drop_take, show n + 2 - n = 2 by omega, ← htwo] at hsl2
    obtain ⟨s4, st4, ld4, k4, _⟩ := tokcell q1 rfl (show ([.int .i64 4, .str two, .int .i64 0, .int .i64 (n : Int)] : List V).length = 4 from rfl) rfl
    have hit : two ∈ dbl → markR (s.drop n) = .ok 4 two 0 2 := by
      intro h
      unfold markR
      rw [← htwo, if_pos h]
    by_cases h0 : two = [61, 61]
    · have d0 : decide (two = [61, 61]) = true := decide_eq_true h0
      rw [hit (by rw [h0]; decide)]
      simp only [k22_a, WK, vop, evAll, evOpt, evParts, vbuiltin, vun, vextract, Nat.reduceLT, Nat.reduceEqDiff, ↓reduceIte, reduceCtorEq, Nat.reduceAdd, Int.reduceLT, Int.reduceNeg, valloc_std, noSB, ofVal_str, ZK, vbox, vcells, ← hs1, hw1, hw2, vlen_str T9, hlt', T9, hsl2, strBin, d0, BK13, st4, ld4]
      exact ⟨rfl, k1.viaX' k4 (Nat.le_refl _)⟩
    have d0 : decide (two = [61, 61]) = false := decide_eq_false h0
    by_cases h1 : two = [33, 61]
    · have d1 : decide (two = [33, 61]) = true := decide_eq_true h1
      rw [hit (by rw [h1]; decide)]
      simp only [k22_a, WK, vop, evAll, evOpt, evParts, vbuiltin, vun, vextract, Nat.reduceLT, Nat.reduceEqDiff, ↓reduceIte, reduceCtorEq, Nat.reduceAdd, Int.reduceLT, Int.reduceNeg, valloc_std, noSB, ofVal_str, ZK, vbox, vcells, ← hs1, hw1, hw2, vlen_str T9, hlt', T9, hsl2, strBin, d0, d1, BK13, st4, ld4]
      exact ⟨rfl, k1.viaX' k4 (Nat.le_refl _)⟩
    have d1 : decide (two = [33, 61]) = false := decide_eq_false h1
    by_cases h2 : two = [60, 61]
    · have d2 : decide (two = [60, 61]) = true := decide_eq_true h2
      rw [hit (by rw [h2]; decide)]
      simp only [k22_a, WK, vop, evAll, evOpt, evParts, vbuiltin, vun, vextract, Nat.reduceLT, Nat.reduceEqDiff, ↓reduceIte, reduceCtorEq, Nat.reduceAdd, Int.reduceLT, Int.reduceNeg, valloc_std, noSB, ofVal_str, ZK, vbox, vcells, ← hs1, hw1, hw2, vlen_str T9, hlt', T9, hsl2, strBin, d0, d1, d2, BK13, st4, ld4]
      exact ⟨rfl, k1.viaX' k4 (Nat.le_refl _)⟩
    have d2 : decide (two = [60, 61]) = false := decide_eq_false h2
    by_cases h3 : two = [62, 61]
    · have d3 : decide (two = [62, 61]) = true := decide_eq_true h3
      rw [hit (by rw [h3]; decide)]
      simp only [k22_a, WK, vop, evAll, evOpt, evParts, vbuiltin, vun, vextract, Nat.reduceLT, Nat.reduceEqDiff, ↓reduceIte, reduceCtorEq, Nat.reduceAdd, Int.reduceLT, Int.reduceNeg, valloc_std, noSB, ofVal_str, ZK, vbox, vcells, ← hs1, hw1, hw2, vlen_str T9, hlt', T9, hsl2, strBin, d0, d1, d2, d3, BK13, st4, ld4]
      exact ⟨rfl, k1.viaX' k4 (Nat.le_refl _)⟩
    have d3 : decide (two = [62, 61]) = false := decide_eq_false h3
    by_cases h4 : two = [38, 38]
    · have d4 : decide (two = [38, 38]) = true := decide_eq_true h4
      rw [hit (by rw [h4]; decide)]
      simp only [k22_a, WK, vop, evAll, evOpt, evParts, vbuiltin, vun, vextract, Nat.reduceLT, Nat.reduceEqDiff, ↓reduceIte, reduceCtorEq, Nat.reduceAdd, Int.reduceLT, Int.reduceNeg, valloc_std, noSB, ofVal_str, ZK, vbox, vcells, ← hs1, hw1, hw2, vlen_str T9, hlt', T9, hsl2, strBin, d0, d1, d2, d3, d4, BK13, st4, ld4]
      exact ⟨rfl, k1.viaX' k4 (Nat.le_refl _)⟩
    have d4 : decide (two = [38, 38]) = false := decide_eq_false h4
    by_cases h5 : two = [124, 124]
    · have d5 : decide (two = [124, 124]) = true := decide_eq_true h5
      rw [hit (by rw [h5]; decide)]
      simp only [k22_a, WK, vop, evAll, evOpt, evParts, vbuiltin, vun, vextract, Nat.reduceLT, Nat.reduceEqDiff, ↓reduceIte, reduceCtorEq, Nat.reduceAdd, Int.reduceLT, Int.reduceNeg, valloc_std, noSB, ofVal_str, ZK, vbox, vcells, ← hs1, hw1, hw2, vlen_str T9, hlt', T9, hsl2, strBin, d0, d1, d2, d3, d4, d5, BK13, st4, ld4]
      exact ⟨rfl, k1.viaX' k4 (Nat.le_refl _)⟩
    have d5 : decide (two = [124, 124]) = false := decide_eq_false h5
    have hnd : (s.drop n).take 2 ∉ dbl := by rw [← htwo]; simp only [dbl, List.mem_cons, List.not_mem_nil, or_false, h0, h1, h2, h3, h4, h5]; exact id
    rcases sing hnd with ⟨hm, hR⟩ | ⟨hm, hR⟩
    · rw [hR]
      have hat := str_at hc (k := .i64)
      rcases hxs hm with h | h | h | h | h | h | h | h | h | h | h | h | h | h | h | h | h | h | h <;>
      · rw [h] at hat
        simp only [k22_a, WK, vop, evAll, evOpt, evParts, vbuiltin, vun, vextract, Nat.reduceLT, Nat.reduceEqDiff, ↓reduceIte, reduceCtorEq, Nat.reduceAdd, Int.reduceLT, Int.reduceNeg, valloc_std, noSB, ZK, vbox, vcells, ← hs1, hw1, vlen_str T9, ofVal_str, hw2, hlt', hsl2, strBin, d0, d1, d2, d3, d4, d5, hat, Int.reduceEq, T9, hsl1, BK13, st3, ld3]
        exact ⟨rfl, k1.viaX' k3 (Nat.le_refl _)⟩
    · rw [hR]
      have n1 := ne hm 40 (by decide) (by decide)
      have n2 := ne hm 41 (by decide) (by decide)
      have n3 := ne hm 123 (by decide) (by decide)
      have n4 := ne hm 125 (by decide) (by decide)
      have n5 := ne hm 91 (by decide) (by decide)
      have n6 := ne hm 93 (by decide) (by decide)
      have n7 := ne hm 58 (by decide) (by decide)
      have n8 := ne hm 59 (by decide) (by decide)
      have n9 := ne hm 44 (by decide) (by decide)
      have n10 := ne hm 61 (by decide) (by decide)
      have n11 := ne hm 60 (by decide) (by decide)
      have n12 := ne hm 62 (by decide) (by decide)
      have n13 := ne hm 43 (by decide) (by decide)
      have n14 := ne hm 45 (by decide) (by decide)
      have n15 := ne hm 42 (by decide) (by decide)
      have n16 := ne hm 47 (by decide) (by decide)
      have n17 := ne hm 37 (by decide) (by decide)
      have n18 := ne hm 33 (by decide) (by decide)
      have n19 := ne hm 46 (by decide) (by decide)
      simp only [Int.cast_ofNat_Int] at n1 n2 n3 n4 n5 n6 n7 n8 n9 n10 n11 n12 n13 n14 n15 n16 n17 n18 n19
      simp only [k22_a, WK, vop, evAll, evOpt, evParts, vbuiltin, vun, vextract, Nat.reduceLT, Nat.reduceEqDiff, ↓reduceIte, reduceCtorEq, Nat.reduceAdd, Int.reduceLT, Int.reduceNeg, valloc_std, noSB, ZK, vbox, vcells, ← hs1, hw1, vlen_str T9, T9, ofVal_str, hw2, hlt', hsl2, strBin, d0, d1, d2, d3, d4, d5, str_at hc, n1, n2, n3, n4, n5, n6, n7, n8, n9, n10, n11, n12, n13, n14, n15, n16, n17, n18, n19, BK0, st2, ld2]
      exact ⟨rfl, k1.viaX' k2 (Nat.le_refl _)⟩
  · have hlt' : ¬ ((n + 1 : Nat) : Int) < s.length := by omega
    have hnd : (s.drop n).take 2 ∉ dbl := by
      intro h
      have : ∀ m ∈ dbl, m.length = 2 := by decide
      have := this _ h
      rw [List.length_take, List.length_drop] at this
      omega
    rcases sing hnd with ⟨hm, hR⟩ | ⟨hm, hR⟩
    · rw [hR]
      have hat := str_at hc (k := .i64)
      rcases hxs hm with h | h | h | h | h | h | h | h | h | h | h | h | h | h | h | h | h | h | h <;>
      · rw [h] at hat
        simp only [k22_a, WK, vop, evAll, evOpt, evParts, vbuiltin, vun, vextract, Nat.reduceLT, Nat.reduceEqDiff, ↓reduceIte, reduceCtorEq, Nat.reduceAdd, Int.reduceLT, Int.reduceNeg, valloc_std, noSB, ZK, vbox, vcells, ← hs1, hw1, vlen_str T9, hlt', hat, Int.reduceEq, T9, hsl1, BK13, st3, ld3]
        exact ⟨rfl, k1.viaX' k3 (Nat.le_refl _)⟩
    · rw [hR]
      have n1 := ne hm 40 (by decide) (by decide)
      have n2 := ne hm 41 (by decide) (by decide)
      have n3 := ne hm 123 (by decide) (by decide)
      have n4 := ne hm 125 (by decide) (by decide)
      have n5 := ne hm 91 (by decide) (by decide)
      have n6 := ne hm 93 (by decide) (by decide)
      have n7 := ne hm 58 (by decide) (by decide)
      have n8 := ne hm 59 (by decide) (by decide)
      have n9 := ne hm 44 (by decide) (by decide)
      have n10 := ne hm 61 (by decide) (by decide)
      have n11 := ne hm 60 (by decide) (by decide)
      have n12 := ne hm 62 (by decide) (by decide)
      have n13 := ne hm 43 (by decide) (by decide)
      have n14 := ne hm 45 (by decide) (by decide)
      have n15 := ne hm 42 (by decide) (by decide)
      have n16 := ne hm 47 (by decide) (by decide)
      have n17 := ne hm 37 (by decide) (by decide)
      have n18 := ne hm 33 (by decide) (by decide)
      have n19 := ne hm 46 (by decide) (by decide)
      simp only [Int.cast_ofNat_Int] at n1 n2 n3 n4 n5 n6 n7 n8 n9 n10 n11 n12 n13 n14 n15 n16 n17 n18 n19
      simp only [k22_a, WK, vop, evAll, evOpt, evParts, vbuiltin, vun, vextract, Nat.reduceLT, Nat.reduceEqDiff, ↓reduceIte, reduceCtorEq, Nat.reduceAdd, Int.reduceLT, Int.reduceNeg, valloc_std, noSB, ZK, vbox, vcells, ← hs1, hw1, vlen_str T9, T9, hlt', str_at hc, n1, n2, n3, n4, n5, n6, n7, n8, n9, n10, n11, n12, n13, n14, n15, n16, n17, n18, n19, BK0, st2, ld2]
      exact ⟨rfl, k1.viaX' k2 (Nat.le_refl _)⟩
end Go.Proofs.Ytodcajpeilgfgaa.Q
