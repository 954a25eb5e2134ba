import Derived.Test.YtodcajpeilgfgaaLk
import Derived.Test.YtodcajpeilgfgaaLl
set_option linter.unusedVariables false
set_option linter.unusedSimpArgs false
namespace Go.Proofs.Ytodcajpeilgfgaa.Q
open Go Go.RowKit Go.Proofs

theorem FK0 (r : Nat) : vfieldAddr Try.prog 32 (.optr r 0) 0 = some (.optr r 0) := by kernel_rfl
theorem wrap_sub1 {n : Nat} (h : 0 < n) (h2 : n ≤ 4294967296) : IntKind.i64.wrap ((n : Int) - 1) = ((n - 1 : Nat) : Int) := by rw [wrap_i64 (by omega) (by omega)]; omega
theorem cell_load {σ : St} {p i : Nat} {cs : List V} {v : V} {t : TypeId} (h : σ.objs[p]? = some (.cells cs)) (ha : isAggT Try.prog t = some false) (hv : cs[i]? = some v) : vload Try.prog σ.objs t (.optr p i) = some v := by rw [vload_obj h ha]; exact hv

/-- A variable of a token's kind that gets a token. -/
theorem tokmade (σ : St) (t : Tok) : ∃ s1 s2 : St, s1 = ⟨σ.objs ++ [Ob.cells tok0C], σ.toks⟩ ∧ vstore Try.prog s1 32 (.optr σ.objs.length 0) (.agg (tokC t)) = some s2 ∧ vload Try.prog s2.objs 32 (.optr σ.objs.length 0) = some (.agg (tokC t)) ∧ vload Try.prog s2.objs 3 (.optr σ.objs.length 0) = some (.int .i64 t.kind) ∧ vload Try.prog s2.objs 3 (.optr σ.objs.length 3) = some (.int .i64 (t.pos : Nat)) ∧ s2.objs[σ.objs.length]? = some (.cells (tokC t)) ∧ Keep σ s2 := by
  obtain ⟨s1, hs1, k1, q1⟩ := tokvar σ
  obtain ⟨s2, st2, ld2, k2, o2, _⟩ := tokcell q1 rfl (tokC_len t) rfl
  exact ⟨s1, s2, hs1, st2, ld2, cell_load o2 G3 rfl, cell_load o2 G3 rfl, o2, k1.viaX' k2 (Nat.le_refl _)⟩
theorem tok_at {σ : St} {p : Nat} {t : Tok} (h : σ.objs[p]? = some (.cells (tokC t))) : vload Try.prog σ.objs 32 (.optr p 0) = some (.agg (tokC t)) := vload_agg h GK SK

set_option maxRecDepth 100000 in
theorem lexapart_true (s : List UInt8) (hs : s.length ≤ 4294967296) (σ : St) : ∃ σ', Does Try.prog prims 5 [.str s] σ (.ret (.bool true)) σ' := by
  have key : ∃ q σ', Does Try.prog prims 5 [.str s] σ q σ' ∧ q = .ret (.bool true) := by
    apply k5_is.does (by simp)
    obtain ⟨s0, d0, k0⟩ := wakes_does σ
    obtain ⟨q1, s1, d1, ⟨w1, rfl, r1, k1⟩⟩ := lex_key s hs s0
    simp only [k5_a, WK, vop, evAll, evOpt, evParts, vbuiltin, vun, vextract, Nat.reduceLT, Nat.reduceEqDiff, ↓reduceIte, reduceCtorEq, Nat.reduceAdd, Int.reduceLT, Int.reduceNeg, valloc_std, noSB]
    refine KD.ret d0 ?_
    simp only [k5_a, WK, vop, evAll, evOpt, evParts, vbuiltin, vun, vextract, Nat.reduceLT, Nat.reduceEqDiff, ↓reduceIte, reduceCtorEq, Nat.reduceAdd, Int.reduceLT, Int.reduceNeg, valloc_std, noSB]
    refine KD.ret d1 ?_
    rcases lexS_cases s with ⟨n, er, hR, her, hn⟩ | ⟨ts, hR, hch, h4096, h16⟩
    · rw [hR] at r1 ⊢
      have hl : vlen Try.prog 23 w1 = some (.int .i64 0) := r1.len
      have her' : (er = 0) = False := eq_false her
      have hn0 : (0 : Int) ≤ (n : Int) := by omega
      have hn1 : (n : Int) ≤ (s.length : Int) := by omega
      simp only [k5_a, WK, vop, evAll, evOpt, evParts, vbuiltin, vun, vextract, Nat.reduceLT, Nat.reduceEqDiff, ↓reduceIte, reduceCtorEq, Nat.reduceAdd, Int.reduceLT, Int.reduceNeg, valloc_std, noSB, her', hl, hn0, hn1, vlen_str T9]
    · rw [hR] at r1 ⊢
      have hl := r1.len
      have hz : ((([], 0, 0) : List Tok × Nat × Int).2.1 : Int) = 0 := rfl
      simp only [k5_a, WK, vop, evAll, evOpt, evParts, vbuiltin, vun, vextract, Nat.reduceLT, Nat.reduceEqDiff, ↓reduceIte, reduceCtorEq, Nat.reduceAdd, Int.reduceLT, Int.reduceNeg, valloc_std, noSB, hl]
      refine Ev.loopF (fun (i : Nat) e σ' => ∃ a : Nat, e 37 = .int .i64 (i : Nat) ∧ e 6 = .int .i64 (a : Nat) ∧ i ≤ ts.length ∧ a ≤ s.length ∧ Chain s (a + skipL (s.drop a)) (ts.drop i)) (fun i => ts.length - i) 0 ⟨0, by simp [upd_some], by simp [upd_some], Nat.zero_le _, Nat.zero_le _, by simpa using hch⟩ ?_
      rintro i e σ' ⟨a, h37, h6, hi, ha, hC⟩ hf
      have h0 : e 0 = .str s := (hf 0 (by decide)).trans (by simp [upd_some])
      have h3 : e 3 = w1 := (hf 3 (by decide)).trans (by simp [upd_some])
      have h35 : e 35 = w1 := (hf 35 (by decide)).trans (by simp [upd_some])
      have h36 : e 36 = .int .i64 (ts.length : Nat) := (hf 36 (by decide)).trans (by simp [upd_some])
      clear hf
      have hlt : i < ts.length := by
        rcases Nat.lt_or_ge i ts.length with h | h
        · exact h
        · rw [List.drop_of_length_le h] at hC; obtain ⟨_, _, h2, _⟩ := hC.head; cases h2
      have hlt' : (i : Int) < ts.length := by omega
      obtain ⟨t, r, htr⟩ : ∃ t r, ts.drop i = t :: r := ⟨_, _, List.drop_eq_getElem_cons hlt⟩
      have hti : ts[i] = t := by have := List.drop_eq_getElem_cons hlt; rw [htr] at this; injection this with h _; exact h.symm
      have hdr : ts.drop (i + 1) = r := by rw [← List.drop_drop, htr]; rfl
      have hrl : r.length = ts.length - (i + 1) := by rw [← hdr, List.length_drop]
      have hld : ∀ objs, vload Try.prog objs 32 (.eptr (ts.flatMap tokC) (i * 4)) = some (.agg (tokC t)) := fun objs => by rw [← hti]; exact tok_load hlt
      obtain ⟨s2, s3, hs2, st3, ld3, lk3, lp3, o3, k3⟩ := tokmade σ' t
      have dsk := refskip_does s a ha (by omega) s3
      have w1' := wrap_sub1 (n := ts.length) (by omega) (by omega)
      have hwi : IntKind.i64.wrap ((i : Int) + 1) = ((i + 1 : Nat) : Int) := idx_wrap (by omega)
      rw [htr] at hC
      obtain ⟨p, hp⟩ : ∃ p, p = a + skipL (s.drop a) := ⟨_, rfl⟩
      rw [← hp] at hC dsk
      simp only [k5_a, WK, vop, evAll, evOpt, evParts, vbuiltin, vun, vextract, Nat.reduceLT, Nat.reduceEqDiff, ↓reduceIte, reduceCtorEq, Nat.reduceAdd, Int.reduceLT, Int.reduceNeg, valloc_std, noSB, h0, h3, h35, h36, h37, h6, hlt', r1.addr hlt, hld, ZK, vbox, vcells, ← hs2, st3, FK3, lp3]
      refine KD.ret dsk ?_
      cases hC with
      | done =>
        have hil : (i : Int) = ((ts.length - 1 : Nat) : Int) := by simp at hrl; omega
        simp only [k5_a, WK, vop, evAll, evOpt, evParts, vbuiltin, vun, vextract, Nat.reduceLT, Nat.reduceEqDiff, ↓reduceIte, reduceCtorEq, Nat.reduceAdd, Int.reduceLT, Int.reduceNeg, valloc_std, noSB, FK0, FK3, lk3, lp3, h0, h3, hl, w1', ← hil, vlen_str T9, vbin_bne T4, BEq.rfl, Bool.not_true, decide_true]
      | @step _ k tx nm w _ h1 h2 hC2 =>
        have hw := nextR_w h2
        rw [List.length_drop] at hw
        have hk5 : (k = 5) = False := eq_false (by have := nextR_kind h2; omega)
        obtain ⟨t2, r2, rfl, _⟩ := hC2.head
        have hil : ((i : Int) = ((ts.length - 1 : Nat) : Int)) = False := eq_false (by simp at hrl; omega)
        obtain ⟨q4, s4, d4, rfl, k4⟩ := refnext_does h1 (by omega) s3
        rw [h2] at d4
        obtain ⟨s5, s6, hs5, st6, ld6, lk6, lp6, o6, k6⟩ := tokmade s4 ⟨k, tx, nm, p⟩
        have o6' := (k4.trans k6).1 _ _ o3
        have ld6' := tok_at o6'
        simp only [k5_a, WK, vop, evAll, evOpt, evParts, vbuiltin, vun, vextract, Nat.reduceLT, Nat.reduceEqDiff, ↓reduceIte, reduceCtorEq, Nat.reduceAdd, Int.reduceLT, Int.reduceNeg, valloc_std, noSB, FK0, FK3, lk3, lp3, h0, h3, hl, w1', hil, hk5, vbin_bne T4, BEq.rfl, Bool.not_true, decide_true, decide_false]
        refine KD.ret d4 ?_
        simp only [k5_a, WK, vop, evAll, evOpt, evParts, vbuiltin, vun, vextract, Nat.reduceLT, Nat.reduceEqDiff, ↓reduceIte, reduceCtorEq, Nat.reduceAdd, Int.reduceLT, Int.reduceNeg, valloc_std, noSB, nextT, ZK, vbox, vcells, ← hs5, st6, ld6, ld6', tok_neq, decide_true, Bool.not_true, h37, hwi]
        refine ⟨i + 1, ⟨p + w, by simp [upd_some], by simp [upd_some], by omega, by omega, ?_⟩, by omega⟩
        rw [hdr]
        exact hC2
  obtain ⟨q, σ', h1, rfl⟩ := key
  exact ⟨σ', h1⟩
theorem apart_true : LawTrue Try.prog prims 5 [9] := by
  intro xs hA hb
  match xs, hA with
  | [x], ⟨hx, _⟩ =>
    obtain ⟨s, rfl, hs⟩ := strarg T9 hx
    simp only [vbulks] at hb
    obtain ⟨σ', n, h⟩ := lexapart_true s (by omega) st0
    exact ⟨n, σ', h⟩
end Go.Proofs.Ytodcajpeilgfgaa.Q
