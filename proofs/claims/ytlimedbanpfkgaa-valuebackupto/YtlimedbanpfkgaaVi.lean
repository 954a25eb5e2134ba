import Derived.Test.YtlimedbanpfkgaaVh
set_option linter.unusedVariables false
set_option linter.unusedSimpArgs false
namespace Go.Proofs.Ytlimedbanpfkgaa.Q
open Go Go.RowKit Go.Proofs

/-! ### The two ways to tell a type are one -/
theorem is1_split {s : List UInt8} (h : is1 s = true) : s = [91] ++ mid 1 s ++ [93] := by
  simp only [is1, Bool.and_eq_true, decide_eq_true_eq] at h
  obtain ⟨h1, h2, h3⟩ := h
  refine isPre_split (p := [91]) ?_ h3
  simp only [isPre, Bool.and_eq_true, decide_eq_true_eq, List.length_dropLast, List.length_singleton]
  refine ⟨by omega, ?_⟩
  cases s with
  | nil => simp at h1
  | cons a l =>
    simp at h2
    subst h2
    cases l with
    | nil => simp at h1
    | cons b l => simp
theorem isM_split {k : Nat} {m s : List UInt8} (h : isM k m s = true) (hk : m.length ≤ k) : s = m ++ mid m.length s ++ [125] := by
  simp only [isM, Bool.and_eq_true, decide_eq_true_eq] at h
  obtain ⟨h1, h2, h3⟩ := h
  refine isPre_split ?_ h3
  simp only [isPre, Bool.and_eq_true, decide_eq_true_eq, List.length_dropLast]
  refine ⟨by omega, ?_⟩
  rw [List.dropLast_eq_take, List.take_take, Nat.min_eq_left (by omega), h2]
theorem depF_some : ∀ (n : Nat) (s : List UInt8), depF n s ≠ 0 → ∃ T, s = tyB T ∧ tyD T = depF n s
  | 0, s, h => absurd rfl h
  | n + 1, s, h => by
    rw [depF] at h ⊢
    split at h
    · rename_i h1
      rw [if_pos h1]
      rcases h1 with rfl | rfl | rfl
      · exact ⟨.int, rfl, rfl⟩
      · exact ⟨.bool, rfl, rfl⟩
      · exact ⟨.text, rfl, rfl⟩
    · rename_i h1
      rw [if_neg h1]
      split at h
      · exact absurd rfl h
      · rename_i t ht
        split at h
        · exact absurd rfl h
        · rename_i h200
          split at h
          · exact absurd rfl h
          · rename_i hd
            obtain ⟨e, he, hed⟩ := depF_some n t hd
            rw [if_neg h200, if_neg hd]
            unfold innerS at ht
            split at ht
            · rename_i h2; injection ht with ht; subst ht
              have := is1_split h2
              rw [he] at this
              exact ⟨.list e, this, by rw [tyD, hed]⟩
            split at ht
            · rename_i h2; injection ht with ht; subst ht
              have := isM_split h2 (by decide)
              rw [show mid mI.length s = tyB e from he] at this
              exact ⟨.mapI e, this, by rw [tyD, hed]⟩
            split at ht
            · rename_i h2; injection ht with ht; subst ht
              have := isM_split h2 (by decide)
              rw [show mid mT.length s = tyB e from he] at this
              exact ⟨.mapT e, this, by rw [tyD, hed]⟩
            · cases ht
theorem mid_wrap (p t : List UInt8) (x : UInt8) : mid p.length (p ++ t ++ [x]) = t := by
  unfold mid
  rw [dropLast_snoc, List.drop_left]
theorem depF_tyB : ∀ (T : Ty) (n : Nat), (tyB T).length < n → (tyB T).length ≤ 200 → depF n (tyB T) = tyD T
  | T, 0, h, _ => by omega
  | .int, n + 1, h, _ => by rw [depF, if_pos (.inl rfl)]; rfl
  | .bool, n + 1, h, _ => by rw [depF, if_pos (.inr (.inl rfl))]; rfl
  | .text, n + 1, h, _ => by rw [depF, if_pos (.inr (.inr rfl))]; rfl
  | .list e, n + 1, h, h2 => by
    have hl := tyB_len e
    have hlen : (tyB (.list e)).length = (tyB e).length + 2 := by simp [tyB]
    have hb : ¬ (tyB (.list e) = intB ∨ tyB (.list e) = boolB ∨ tyB (.list e) = textB) := by simp [tyB, intB, boolB, textB]
    have hg : (tyB (.list e)).getLast? = some 93 := by rw [tyB, ← List.cons_append, List.getLast?_concat]
    have h1 : is1 (tyB (.list e)) = true := by
      simp only [is1, Bool.and_eq_true, decide_eq_true_eq]
      exact ⟨by omega, rfl, hg⟩
    have hm : mid 1 (tyB (.list e)) = tyB e := mid_wrap [91] (tyB e) 93
    have hi : innerS (tyB (.list e)) = some (tyB e) := by rw [innerS, if_pos h1, hm]
    have ih := depF_tyB e n (by omega) (by omega)
    have hp := tyD_pos e
    rw [depF, if_neg hb, hi]
    simp only
    rw [if_neg (by omega), ih, if_neg (by omega), tyD]
  | .mapI e, n + 1, h, h2 => by
    have hl := tyB_len e
    have hlen : (tyB (.mapI e)).length = (tyB e).length + 6 := by simp [tyB, mI]
    have hb : ¬ (tyB (.mapI e) = intB ∨ tyB (.mapI e) = boolB ∨ tyB (.mapI e) = textB) := by simp [tyB, mI, intB, boolB, textB]
    have hg : (tyB (.mapI e)).getLast? = some 125 := by rw [tyB, List.getLast?_concat]
    have h0 : is1 (tyB (.mapI e)) = false := by
      simp [is1, tyB, mI]
    have h1 : isM 6 mI (tyB (.mapI e)) = true := by
      simp only [isM, Bool.and_eq_true, decide_eq_true_eq]
      exact ⟨by omega, rfl, hg⟩
    have hm : mid 5 (tyB (.mapI e)) = tyB e := mid_wrap mI (tyB e) 125
    have hi : innerS (tyB (.mapI e)) = some (tyB e) := by rw [innerS, h0, if_neg (by decide), if_pos h1, hm]
    have ih := depF_tyB e n (by omega) (by omega)
    have hp := tyD_pos e
    rw [depF, if_neg hb, hi]
    simp only
    rw [if_neg (by omega), ih, if_neg (by omega), tyD]
  | .mapT e, n + 1, h, h2 => by
    have hl := tyB_len e
    have hlen : (tyB (.mapT e)).length = (tyB e).length + 7 := by simp [tyB, mT]
    have hb : ¬ (tyB (.mapT e) = intB ∨ tyB (.mapT e) = boolB ∨ tyB (.mapT e) = textB) := by simp [tyB, mT, intB, boolB, textB]
    have hg : (tyB (.mapT e)).getLast? = some 125 := by rw [tyB, List.getLast?_concat]
    have h0 : is1 (tyB (.mapT e)) = false := by
      simp [is1, tyB, mT]
    have h0' : isM 6 mI (tyB (.mapT e)) = false := by
      have : ¬ (tyB (.mapT e)).take mI.length = mI := by simp [tyB, mT, mI]
      simp [isM, this]
    have h1 : isM 7 mT (tyB (.mapT e)) = true := by
      simp only [isM, Bool.and_eq_true, decide_eq_true_eq]
      exact ⟨by omega, rfl, hg⟩
    have hm : mid 6 (tyB (.mapT e)) = tyB e := mid_wrap mT (tyB e) 125
    have hi : innerS (tyB (.mapT e)) = some (tyB e) := by rw [innerS, h0, if_neg (by decide), h0', if_neg (by decide), if_pos h1, hm]
    have ih := depF_tyB e n (by omega) (by omega)
    have hp := tyD_pos e
    rw [depF, if_neg hb, hi]
    simp only
    rw [if_neg (by omega), ih, if_neg (by omega), tyD]
theorem tyS_iff {s : List UInt8} {T : Ty} : tyS s = some T ↔ s = tyB T ∧ tyD T ≤ 4 := tyOf_iff
theorem dep_type (n : Nat) (s : List UInt8) (hn : s.length < n) : (decide (1 ≤ depF n s) && decide (depF n s ≤ 4)) = (tyS s).isSome := by
  by_cases h : (tyS s).isSome = true
  · obtain ⟨T, hT⟩ := Option.isSome_iff_exists.1 h
    obtain ⟨rfl, h4⟩ := tyS_iff.1 hT
    have := tyB_len T
    have hp := tyD_pos T
    rw [h, depF_tyB T n hn (by omega)]
    simp; omega
  · rw [Bool.not_eq_true] at h
    rw [h]
    by_cases h0 : depF n s = 0
    · rw [h0]; rfl
    · obtain ⟨T, rfl, hd⟩ := depF_some n s h0
      have : ¬ depF n (tyB T) ≤ 4 := by
        intro h4
        rw [tyS_iff.2 ⟨rfl, by omega⟩] at h
        cases h
      simp [this]

theorem reftype_does (s : List UInt8) (hl : s.length ≤ 4294967296) (σ : St) : Does Try.prog prims 34 [.str s] σ (.ret (.bool (tyS s).isSome)) σ := by
  apply k34_is.ret (by simp)
  simp only [k34_a, WK, vop, evAll, evOpt, evParts, vbuiltin, vun, vextract, Nat.reduceLT, Nat.reduceEqDiff, ↓reduceIte, reduceCtorEq, Nat.reduceAdd, Int.reduceLT, Int.reduceNeg, List.getD_cons_zero, List.getD_cons_succ]
  refine KD.ret (depth_does (s.length + 1) s σ (by omega) hl) ?_
  have h := dep_type (s.length + 1) s (by omega)
  by_cases h1 : (1 : Int) ≤ (depF (s.length + 1) s : Nat)
  · by_cases h2 : ((depF (s.length + 1) s : Nat) : Int) ≤ 4
    · have : (tyS s).isSome = true := by rw [← h]; simp; omega
      simp only [k34_a, WK, vop, evAll, evOpt, evParts, vbuiltin, vun, vextract, Nat.reduceLT, Nat.reduceEqDiff, ↓reduceIte, reduceCtorEq, Nat.reduceAdd, Int.reduceLT, Int.reduceNeg, h1, h2, this]
    · have : (tyS s).isSome = false := by rw [← h]; simp; omega
      simp only [k34_a, WK, vop, evAll, evOpt, evParts, vbuiltin, vun, vextract, Nat.reduceLT, Nat.reduceEqDiff, ↓reduceIte, reduceCtorEq, Nat.reduceAdd, Int.reduceLT, Int.reduceNeg, h1, h2, this]
  · have : (tyS s).isSome = false := by rw [← h]; simp; omega
    simp only [k34_a, WK, vop, evAll, evOpt, evParts, vbuiltin, vun, vextract, Nat.reduceLT, Nat.reduceEqDiff, ↓reduceIte, reduceCtorEq, Nat.reduceAdd, Int.reduceLT, Int.reduceNeg, h1, this]

/-! ### What a type is made of -/
def listS (s : List UInt8) : List UInt8 := match tyS s with
  | some (.list e) => tyB e
  | _ => []
def isListS (s : List UInt8) : Bool := match tyS s with
  | some (.list e) => true
  | _ => false
def keyS (s : List UInt8) : List UInt8 := match tyS s with
  | some (.mapI e) => intB
  | some (.mapT e) => textB
  | _ => []
def valS (s : List UInt8) : List UInt8 := match tyS s with
  | some (.mapI e) => tyB e
  | some (.mapT e) => tyB e
  | _ => []
def isMapS (s : List UInt8) : Bool := match tyS s with
  | some (.mapI e) => true
  | some (.mapT e) => true
  | _ => false
def tyK : Ty → Int
  | .int => 1 | .bool => 2 | .text => 3 | .list _ => 4 | .mapI _ => 5 | .mapT _ => 5
def kindS (s : List UInt8) : Int := match tyS s with
  | some T => tyK T
  | none => 0

theorem tyB_first (T : Ty) : ∃ c, (tyB T)[0]? = some c ∧ ((c = 91) ↔ ∃ e, T = .list e) ∧ ((c = 123) ↔ (∃ e, T = .mapI e) ∨ ∃ e, T = .mapT e) := by
  cases T with
  | int => exact ⟨_, rfl, by simp, by simp⟩
  | bool => exact ⟨_, rfl, by simp, by simp⟩
  | text => exact ⟨_, rfl, by simp, by simp⟩
  | list e => exact ⟨_, rfl, by simp, by simp⟩
  | mapI e => exact ⟨_, rfl, by simp, by simp⟩
  | mapT e => exact ⟨_, rfl, by simp, by simp⟩

theorem vlist_does (s : List UInt8) (hl : s.length ≤ 4294967296) (σ : St) : Does Try.prog prims 18 [.str s] σ (.ret (.tuple [.str (listS s), .bool (isListS s)])) σ := by
  apply k18_is.ret (by simp)
  unfold listS isListS
  simp only [k18_a, WK, vop, evAll, evOpt, evParts, vbuiltin, vun, vextract, Nat.reduceLT, Nat.reduceEqDiff, ↓reduceIte, reduceCtorEq, Nat.reduceAdd, Int.reduceLT, Int.reduceNeg, List.getD_cons_zero, List.getD_cons_succ, ofVal_str]
  refine KD.ret (type_does s hl σ) ?_
  cases h : tyS s with
  | none => simp only [k18_a, WK, vop, evAll, evOpt, evParts, vbuiltin, vun, vextract, Nat.reduceLT, Nat.reduceEqDiff, ↓reduceIte, reduceCtorEq, Nat.reduceAdd, Int.reduceLT, Int.reduceNeg, List.getD_cons_zero, List.getD_cons_succ, ofVal_str, Option.isSome_none]
  | some T =>
    obtain ⟨rfl, h4⟩ := tyS_iff.1 h
    obtain ⟨c, hc, h1, _⟩ := tyB_first T
    have i0 : vindex Try.prog 9 (.str (tyB T)) (.int .i64 0) = some (.int .u8 (c.toNat : Int)) := str_at (n := 0) hc
    have c91 : decide ((c.toNat : Int) = 91) = decide (c = 91) := u8_eq (d := 91)
    by_cases hcc : c = 91
    · obtain ⟨e, rfl⟩ := h1.1 hcc
      have b : decide ((c.toNat : Int) = 91) = true := by rw [c91]; exact decide_eq_true hcc
      have w1 := wrap_len (s := tyB (.list e)) (by have := tyB_len (.list e); omega) hl
      have ms : vslice Try.prog 9 (.str (tyB (.list e))) (some (.int .i64 1)) (some (.int .i64 (((tyB (.list e)).length - 1 : Nat) : Int))) none = some (.str (mid 1 (tyB (.list e)))) := mid_slice (k := 1) (by have := tyB_len (.list e); omega)
      have hm : mid 1 (tyB (.list e)) = tyB e := mid_wrap [91] (tyB e) 93
      simp only [k18_a, WK, vop, evAll, evOpt, evParts, vbuiltin, vun, vextract, Nat.reduceLT, Nat.reduceEqDiff, ↓reduceIte, reduceCtorEq, Nat.reduceAdd, Int.reduceLT, Int.reduceNeg, List.getD_cons_zero, List.getD_cons_succ, ofVal_str, Option.isSome_some, i0, b, w1, ms, hm, T9, vlen_str T9]
    · have b : decide ((c.toNat : Int) = 91) = false := by rw [c91]; exact decide_eq_false hcc
      have hT : ∀ e, T ≠ .list e := fun e he => hcc (h1.2 ⟨e, he⟩)
      cases T with
      | list e => exact absurd rfl (hT e)
      | _ => simp only [k18_a, WK, vop, evAll, evOpt, evParts, vbuiltin, vun, vextract, Nat.reduceLT, Nat.reduceEqDiff, ↓reduceIte, reduceCtorEq, Nat.reduceAdd, Int.reduceLT, Int.reduceNeg, List.getD_cons_zero, List.getD_cons_succ, ofVal_str, Option.isSome_some, i0, b]

theorem reflist_does (s : List UInt8) (hl : s.length ≤ 4294967296) (σ : St) : Does Try.prog prims 21 [.str s] σ (.ret (.str (listS s))) σ := by
  apply k21_is.ret (by simp)
  unfold listS
  simp only [k21_a, WK, vop, evAll, evOpt, evParts, vbuiltin, vun, vextract, Nat.reduceLT, Nat.reduceEqDiff, ↓reduceIte, reduceCtorEq, Nat.reduceAdd, Int.reduceLT, Int.reduceNeg, List.getD_cons_zero, List.getD_cons_succ, ofVal_str]
  refine KD.ret (reftype_does s hl σ) ?_
  cases h : tyS s with
  | none => simp only [k21_a, WK, vop, evAll, evOpt, evParts, vbuiltin, vun, vextract, Nat.reduceLT, Nat.reduceEqDiff, ↓reduceIte, reduceCtorEq, Nat.reduceAdd, Int.reduceLT, Int.reduceNeg, List.getD_cons_zero, List.getD_cons_succ, ofVal_str, Option.isSome_none]
  | some T =>
    obtain ⟨rfl, h4⟩ := tyS_iff.1 h
    obtain ⟨c, hc, h1, _⟩ := tyB_first T
    have i0 : vindex Try.prog 9 (.str (tyB T)) (.int .i64 0) = some (.int .u8 (c.toNat : Int)) := str_at (n := 0) hc
    have c91 : decide ((c.toNat : Int) = 91) = decide (c = 91) := u8_eq (d := 91)
    by_cases hcc : c = 91
    · obtain ⟨e, rfl⟩ := h1.1 hcc
      have b : decide ((c.toNat : Int) = 91) = true := by rw [c91]; exact decide_eq_true hcc
      have w1 := wrap_len (s := tyB (.list e)) (by have := tyB_len (.list e); omega) hl
      have ms : vslice Try.prog 9 (.str (tyB (.list e))) (some (.int .i64 1)) (some (.int .i64 (((tyB (.list e)).length - 1 : Nat) : Int))) none = some (.str (mid 1 (tyB (.list e)))) := mid_slice (k := 1) (by have := tyB_len (.list e); omega)
      have hm : mid 1 (tyB (.list e)) = tyB e := mid_wrap [91] (tyB e) 93
      simp only [k21_a, WK, vop, evAll, evOpt, evParts, vbuiltin, vun, vextract, Nat.reduceLT, Nat.reduceEqDiff, ↓reduceIte, reduceCtorEq, Nat.reduceAdd, Int.reduceLT, Int.reduceNeg, List.getD_cons_zero, List.getD_cons_succ, ofVal_str, Option.isSome_some, i0, b, w1, ms, hm, T9, vlen_str T9]
    · have b : decide ((c.toNat : Int) = 91) = false := by rw [c91]; exact decide_eq_false hcc
      have hT : ∀ e, T ≠ .list e := fun e he => hcc (h1.2 ⟨e, he⟩)
      cases T with
      | list e => exact absurd rfl (hT e)
      | _ => simp only [k21_a, WK, vop, evAll, evOpt, evParts, vbuiltin, vun, vextract, Nat.reduceLT, Nat.reduceEqDiff, ↓reduceIte, reduceCtorEq, Nat.reduceAdd, Int.reduceLT, Int.reduceNeg, List.getD_cons_zero, List.getD_cons_succ, ofVal_str, Option.isSome_some, i0, b]

theorem refmap_does (s : List UInt8) (hl : s.length ≤ 4294967296) (σ : St) : Does Try.prog prims 20 [.str s] σ (.ret (.tuple [.str (keyS s), .str (valS s)])) σ := by
  apply k20_is.ret (by simp)
  unfold keyS valS
  simp only [k20_a, WK, vop, evAll, evOpt, evParts, vbuiltin, vun, vextract, Nat.reduceLT, Nat.reduceEqDiff, ↓reduceIte, reduceCtorEq, Nat.reduceAdd, Int.reduceLT, Int.reduceNeg, List.getD_cons_zero, List.getD_cons_succ, ofVal_str]
  refine KD.ret (reftype_does s hl σ) ?_
  cases h : tyS s with
  | none => simp only [k20_a, WK, vop, evAll, evOpt, evParts, vbuiltin, vun, vextract, Nat.reduceLT, Nat.reduceEqDiff, ↓reduceIte, reduceCtorEq, Nat.reduceAdd, Int.reduceLT, Int.reduceNeg, List.getD_cons_zero, List.getD_cons_succ, ofVal_str, Option.isSome_none]
  | some T =>
    obtain ⟨rfl, h4⟩ := tyS_iff.1 h
    obtain ⟨c, hc, _, h1⟩ := tyB_first T
    have i0 : vindex Try.prog 9 (.str (tyB T)) (.int .i64 0) = some (.int .u8 (c.toNat : Int)) := str_at (n := 0) hc
    have c91 : decide ((c.toNat : Int) = 123) = decide (c = 123) := u8_eq (d := 123)
    by_cases hcc : c = 123
    · have b : decide ((c.toNat : Int) = 123) = true := by rw [c91]; exact decide_eq_true hcc
      rcases h1.1 hcc with ⟨e, rfl⟩ | ⟨e, rfl⟩
      · have w1 := wrap_len (s := tyB (.mapI e)) (by have := tyB_len (.mapI e); omega) hl
        have hlen : (tyB (.mapI e)).length = (tyB e).length + 6 := by simp [tyB, mI]
        have ms : vslice Try.prog 9 (.str (tyB (.mapI e))) (some (.int .i64 5)) (some (.int .i64 (((tyB (.mapI e)).length - 1 : Nat) : Int))) none = some (.str (mid 5 (tyB (.mapI e)))) := mid_slice (k := 5) (by omega)
        have hm : mid 5 (tyB (.mapI e)) = tyB e := mid_wrap mI (tyB e) 125
        have i1 : vindex Try.prog 9 (.str (tyB (.mapI e))) (.int .i64 1) = some (.int .u8 105) := str_at (n := 1) (c := 105) rfl
        simp only [k20_a, WK, vop, evAll, evOpt, evParts, vbuiltin, vun, vextract, Nat.reduceLT, Nat.reduceEqDiff, ↓reduceIte, reduceCtorEq, Nat.reduceAdd, Int.reduceLT, Int.reduceNeg, List.getD_cons_zero, List.getD_cons_succ, ofVal_str, Option.isSome_some, i0, i1, b, w1, ms, hm, T9, vlen_str T9, show decide ((116 : Int) = 105) = false from rfl, show decide ((105 : Int) = 105) = true from rfl]
        rfl
      · have w1 := wrap_len (s := tyB (.mapT e)) (by have := tyB_len (.mapT e); omega) hl
        have hlen : (tyB (.mapT e)).length = (tyB e).length + 7 := by simp [tyB, mT]
        have ms : vslice Try.prog 9 (.str (tyB (.mapT e))) (some (.int .i64 6)) (some (.int .i64 (((tyB (.mapT e)).length - 1 : Nat) : Int))) none = some (.str (mid 6 (tyB (.mapT e)))) := mid_slice (k := 6) (by omega)
        have hm : mid 6 (tyB (.mapT e)) = tyB e := mid_wrap mT (tyB e) 125
        have i1 : vindex Try.prog 9 (.str (tyB (.mapT e))) (.int .i64 1) = some (.int .u8 116) := str_at (n := 1) (c := 116) rfl
        simp only [k20_a, WK, vop, evAll, evOpt, evParts, vbuiltin, vun, vextract, Nat.reduceLT, Nat.reduceEqDiff, ↓reduceIte, reduceCtorEq, Nat.reduceAdd, Int.reduceLT, Int.reduceNeg, List.getD_cons_zero, List.getD_cons_succ, ofVal_str, Option.isSome_some, i0, i1, b, w1, ms, hm, T9, vlen_str T9, show decide ((116 : Int) = 105) = false from rfl, show decide ((105 : Int) = 105) = true from rfl]
        rfl
    · have b : decide ((c.toNat : Int) = 123) = false := by rw [c91]; exact decide_eq_false hcc
      have hT : ∀ e, T ≠ .mapI e := fun e he => hcc (h1.2 (.inl ⟨e, he⟩))
      have hT' : ∀ e, T ≠ .mapT e := fun e he => hcc (h1.2 (.inr ⟨e, he⟩))
      cases T with
      | mapI e => exact absurd rfl (hT e)
      | mapT e => exact absurd rfl (hT' e)
      | _ => simp only [k20_a, WK, vop, evAll, evOpt, evParts, vbuiltin, vun, vextract, Nat.reduceLT, Nat.reduceEqDiff, ↓reduceIte, reduceCtorEq, Nat.reduceAdd, Int.reduceLT, Int.reduceNeg, List.getD_cons_zero, List.getD_cons_succ, ofVal_str, Option.isSome_some, i0, b]

/-! ### strings.Cut at a colon -/
theorem indexByte_int (l : List UInt8) : Lib.indexByte ([105, 110, 116, 58] ++ l) 58 = 3 := by
  simp [Lib.indexByte]
theorem indexByte_text (l : List UInt8) : Lib.indexByte ([116, 101, 120, 116, 58] ++ l) 58 = 4 := by
  simp [Lib.indexByte]
theorem index_does (a : List UInt8) (n : Nat) (hn : Lib.indexByte a 58 = (n : Int)) (hl : 2 ≤ a.length) (σ : St) : Does Try.prog prims 91 [.str a, .str [58]] σ (.ret (.int .i64 (n : Int))) σ := by
  apply k91_is.ret (by simp)
  have i0 : vindex Try.prog 9 (.str [58]) (.int .i64 0) = some (.int .u8 58) := str_at (n := 0) (c := 58) rfl
  have l1 : vlen Try.prog 9 (.str [58]) = some (.int .i64 1) := vlen_str T9
  have hne : decide (([58] : List UInt8) = a) = false := by
    apply decide_eq_false
    rintro rfl
    simp at hl
  simp only [k91_a, WK, vop, evAll, evOpt, evParts, vbuiltin, vun, vextract, Nat.reduceLT, Nat.reduceEqDiff, ↓reduceIte, reduceCtorEq, Nat.reduceAdd, Int.reduceLT, Int.reduceNeg, List.getD_cons_zero, List.getD_cons_succ, ofVal_str, l1, T9, strBin, hne, i0, show decide ((1 : Int) = 0) = false from rfl, show decide ((1 : Int) = 1) = true from rfl]
  refine KD.ret (Does_indexByte a 58 σ) ?_
  have : Lib.indexByte a (58 : Int).toNat.toUInt8 = (n : Int) := hn
  simp only [k91_a, WK, vop, evAll, evOpt, evParts, vbuiltin, vun, vextract, Nat.reduceLT, Nat.reduceEqDiff, ↓reduceIte, reduceCtorEq, Nat.reduceAdd, Int.reduceLT, Int.reduceNeg, this]
theorem cut0_does (a : List UInt8) (n : Nat) (hn : Lib.indexByte a 58 = (n : Int)) (hl : 2 ≤ a.length) (h2 : n + 1 ≤ a.length) (hb : a.length ≤ 4294967296) (σ : St) : Does Try.prog prims 75 [.str a, .str [58]] σ (.ret (.tuple [.str (a.take n), .str (a.drop (n + 1)), .bool true])) σ := by
  apply k75_is.ret (by simp)
  simp only [k75_a, WK, vop, evAll, evOpt, evParts, vbuiltin, vun, vextract, Nat.reduceLT, Nat.reduceEqDiff, ↓reduceIte, reduceCtorEq, Nat.reduceAdd, Int.reduceLT, Int.reduceNeg, List.getD_cons_zero, List.getD_cons_succ, ofVal_str]
  refine KD.ret (index_does a n hn hl σ) ?_
  have l1 : vlen Try.prog 9 (.str [58]) = some (.int .i64 1) := vlen_str T9
  have hge : (0 : Int) ≤ (n : Int) := by omega
  have w1 : IntKind.i64.wrap ((n : Int) + 1) = ((n + 1 : Nat) : Int) := by rw [wrap_i64 (by omega) (by omega)]; omega
  have s1 : vslice Try.prog 9 (.str a) none (some (.int .i64 (n : Int))) none = some (.str (a.take n)) := str_hi (by omega)
  have s2 : vslice Try.prog 9 (.str a) (some (.int .i64 ((n + 1 : Nat) : Int))) none none = some (.str (a.drop (n + 1))) := str_lo (by omega)
  simp only [k75_a, WK, vop, evAll, evOpt, evParts, vbuiltin, vun, vextract, Nat.reduceLT, Nat.reduceEqDiff, ↓reduceIte, reduceCtorEq, Nat.reduceAdd, Int.reduceLT, Int.reduceNeg, List.getD_cons_zero, List.getD_cons_succ, ofVal_str, hge, l1, T9, w1, s1, s2]
theorem strcut_does (a : List UInt8) (n : Nat) (hn : Lib.indexByte a 58 = (n : Int)) (hl : 2 ≤ a.length) (h2 : n + 1 ≤ a.length) (hb : a.length ≤ 4294967296) (σ : St) : Does Try.prog prims 53 [.str a, .str [58]] σ (.ret (.tuple [.str (a.take n), .str (a.drop (n + 1)), .bool true])) σ := by
  apply k53_is.ret (by simp)
  simp only [k53_a, WK, vop, evAll, evOpt, evParts, vbuiltin, vun, vextract, Nat.reduceLT, Nat.reduceEqDiff, ↓reduceIte, reduceCtorEq, Nat.reduceAdd, Int.reduceLT, Int.reduceNeg, List.getD_cons_zero, List.getD_cons_succ, ofVal_str]
  refine KD.ret (cut0_does a n hn hl h2 hb σ) ?_
  simp only [k53_a, WK, vop, evAll, evOpt, evParts, vbuiltin, vun, vextract, Nat.reduceLT, Nat.reduceEqDiff, ↓reduceIte, reduceCtorEq, Nat.reduceAdd, Int.reduceLT, Int.reduceNeg, List.getD_cons_zero, List.getD_cons_succ]

theorem vmap_does (s : List UInt8) (hl : s.length ≤ 4294967296) (σ : St) : Does Try.prog prims 19 [.str s] σ (.ret (.tuple [.str (keyS s), .str (valS s), .bool (isMapS s)])) σ := by
  apply k19_is.ret (by simp)
  unfold keyS valS isMapS
  simp only [k19_a, WK, vop, evAll, evOpt, evParts, vbuiltin, vun, vextract, Nat.reduceLT, Nat.reduceEqDiff, ↓reduceIte, reduceCtorEq, Nat.reduceAdd, Int.reduceLT, Int.reduceNeg, List.getD_cons_zero, List.getD_cons_succ, ofVal_str]
  refine KD.ret (type_does s hl σ) ?_
  cases h : tyS s with
  | none => simp only [k19_a, WK, vop, evAll, evOpt, evParts, vbuiltin, vun, vextract, Nat.reduceLT, Nat.reduceEqDiff, ↓reduceIte, reduceCtorEq, Nat.reduceAdd, Int.reduceLT, Int.reduceNeg, List.getD_cons_zero, List.getD_cons_succ, ofVal_str, Option.isSome_none]
  | some T =>
    obtain ⟨rfl, h4⟩ := tyS_iff.1 h
    obtain ⟨c, hc, _, h1⟩ := tyB_first T
    have i0 : vindex Try.prog 9 (.str (tyB T)) (.int .i64 0) = some (.int .u8 (c.toNat : Int)) := str_at (n := 0) hc
    have c91 : decide ((c.toNat : Int) = 123) = decide (c = 123) := u8_eq (d := 123)
    by_cases hcc : c = 123
    · have b : decide ((c.toNat : Int) = 123) = true := by rw [c91]; exact decide_eq_true hcc
      rcases h1.1 hcc with ⟨e, rfl⟩ | ⟨e, rfl⟩
      · have w1 := wrap_len (s := tyB (.mapI e)) (by have := tyB_len (.mapI e); omega) hl
        have hlen : (tyB (.mapI e)).length = (tyB e).length + 6 := by simp [tyB, mI]
        have ms : vslice Try.prog 9 (.str (tyB (.mapI e))) (some (.int .i64 1)) (some (.int .i64 (((tyB (.mapI e)).length - 1 : Nat) : Int))) none = some (.str (mid 1 (tyB (.mapI e)))) := mid_slice (k := 1) (by omega)
        have hm : mid 1 (tyB (.mapI e)) = [105, 110, 116, 58] ++ tyB e := mid_wrap [123] ([105, 110, 116, 58] ++ tyB e) 125
        have hcut := strcut_does ([105, 110, 116, 58] ++ tyB e) 3 (indexByte_int _) (by simp) (by simp) (by simp; omega) σ
        simp only [k19_a, WK, vop, evAll, evOpt, evParts, vbuiltin, vun, vextract, Nat.reduceLT, Nat.reduceEqDiff, ↓reduceIte, reduceCtorEq, Nat.reduceAdd, Int.reduceLT, Int.reduceNeg, List.getD_cons_zero, List.getD_cons_succ, ofVal_str, Option.isSome_some, i0, b, w1, ms, hm, T9, vlen_str T9]
        refine KD.ret hcut ?_
        simp only [k19_a, WK, vop, evAll, evOpt, evParts, vbuiltin, vun, vextract, Nat.reduceLT, Nat.reduceEqDiff, ↓reduceIte, reduceCtorEq, Nat.reduceAdd, Int.reduceLT, Int.reduceNeg, List.getD_cons_zero, List.getD_cons_succ]
        rfl
      · have w1 := wrap_len (s := tyB (.mapT e)) (by have := tyB_len (.mapT e); omega) hl
        have hlen : (tyB (.mapT e)).length = (tyB e).length + 7 := by simp [tyB, mT]
        have ms : vslice Try.prog 9 (.str (tyB (.mapT e))) (some (.int .i64 1)) (some (.int .i64 (((tyB (.mapT e)).length - 1 : Nat) : Int))) none = some (.str (mid 1 (tyB (.mapT e)))) := mid_slice (k := 1) (by omega)
        have hm : mid 1 (tyB (.mapT e)) = [116, 101, 120, 116, 58] ++ tyB e := mid_wrap [123] ([116, 101, 120, 116, 58] ++ tyB e) 125
        have hcut := strcut_does ([116, 101, 120, 116, 58] ++ tyB e) 4 (indexByte_text _) (by simp) (by simp) (by simp; omega) σ
        simp only [k19_a, WK, vop, evAll, evOpt, evParts, vbuiltin, vun, vextract, Nat.reduceLT, Nat.reduceEqDiff, ↓reduceIte, reduceCtorEq, Nat.reduceAdd, Int.reduceLT, Int.reduceNeg, List.getD_cons_zero, List.getD_cons_succ, ofVal_str, Option.isSome_some, i0, b, w1, ms, hm, T9, vlen_str T9]
        refine KD.ret hcut ?_
        simp only [k19_a, WK, vop, evAll, evOpt, evParts, vbuiltin, vun, vextract, Nat.reduceLT, Nat.reduceEqDiff, ↓reduceIte, reduceCtorEq, Nat.reduceAdd, Int.reduceLT, Int.reduceNeg, List.getD_cons_zero, List.getD_cons_succ]
        rfl
    · have b : decide ((c.toNat : Int) = 123) = false := by rw [c91]; exact decide_eq_false hcc
      have hT : ∀ e, T ≠ .mapI e := fun e he => hcc (h1.2 (.inl ⟨e, he⟩))
      have hT' : ∀ e, T ≠ .mapT e := fun e he => hcc (h1.2 (.inr ⟨e, he⟩))
      cases T with
      | mapI e => exact absurd rfl (hT e)
      | mapT e => exact absurd rfl (hT' e)
      | _ => simp only [k19_a, WK, vop, evAll, evOpt, evParts, vbuiltin, vun, vextract, Nat.reduceLT, Nat.reduceEqDiff, ↓reduceIte, reduceCtorEq, Nat.reduceAdd, Int.reduceLT, Int.reduceNeg, List.getD_cons_zero, List.getD_cons_succ, ofVal_str, Option.isSome_some, i0, b]
end Go.Proofs.Ytlimedbanpfkgaa.Q
