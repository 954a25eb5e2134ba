/- A part of the proof: Vi, Ve, Vj, Vk, Vl, Tq, Vm, Vn, Ce, Cf, Cg. -/
import Derived.Test.YtplhelapcpcncaaMb6
set_option linter.unusedVariables false
set_option linter.unusedSimpArgs false
namespace Go.Proofs.Ytplhelapcpcncaa.Q
open Go Go.RowKit Go.Proofs
/-! ### The two ways to tell a type are one -/
theorem is1_split {s : List UInt8} (h : is1 s = true) : s = [91] ++ mid 1 s ++ [93] := by
  simp only [is1, Bool.and_eq_true, decide_eq_true_eq] at h
  obtain ⟨h1, h2, h3⟩ := h
  refine isPre_split (p := [91]) ?_ h3
  simp only [isPre, Bool.and_eq_true, decide_eq_true_eq, List.length_dropLast, List.length_singleton]
  refine ⟨by omega, ?_⟩
  cases s with
  | nil => simp at h1
  | cons a l =>
    simp at h2
    subst h2
    cases l with
    | nil => simp at h1
    | cons b l => simp
theorem isM_split {k : Nat} {m s : List UInt8} (h : isM k m s = true) (hk : m.length ≤ k) : s = m ++ mid m.length s ++ [125] := by
  simp only [isM, Bool.and_eq_true, decide_eq_true_eq] at h
  obtain ⟨h1, h2, h3⟩ := h
  refine isPre_split ?_ h3
  simp only [isPre, Bool.and_eq_true, decide_eq_true_eq, List.length_dropLast]
  refine ⟨by omega, ?_⟩
  rw [List.dropLast_eq_take, List.take_take, Nat.min_eq_left (by omega), h2]
theorem depF_some : ∀ (n : Nat) (s : List UInt8), depF n s ≠ 0 → ∃ T, s = tyB T ∧ tyD T = depF n s
  | 0, s, h => absurd rfl h
  | n + 1, s, h => by
    rw [depF] at h ⊢
    split at h
    · rename_i h1
      rw [if_pos h1]
      rcases h1 with rfl | rfl | rfl
      · exact ⟨.int, rfl, rfl⟩
      · exact ⟨.bool, rfl, rfl⟩
      · exact ⟨.text, rfl, rfl⟩
    · rename_i h1
      rw [if_neg h1]
      split at h
      · exact absurd rfl h
      · rename_i t ht
        split at h
        · exact absurd rfl h
        · rename_i h200
          split at h
          · exact absurd rfl h
          · rename_i hd
            obtain ⟨e, he, hed⟩ := depF_some n t hd
            rw [if_neg h200, if_neg hd]
            unfold innerS at ht
            split at ht
            · rename_i h2; injection ht with ht; subst ht
              have := is1_split h2
              rw [he] at this
              exact ⟨.list e, this, by rw [tyD, hed]⟩
            split at ht
            · rename_i h2; injection ht with ht; subst ht
              have := isM_split h2 (by decide)
              rw [show mid mI.length s = tyB e from he] at this
              exact ⟨.mapI e, this, by rw [tyD, hed]⟩
            split at ht
            · rename_i h2; injection ht with ht; subst ht
              have := isM_split h2 (by decide)
              rw [show mid mT.length s = tyB e from he] at this
              exact ⟨.mapT e, this, by rw [tyD, hed]⟩
            · cases ht
theorem mid_wrap (p t : List UInt8) (x : UInt8) : mid p.length (p ++ t ++ [x]) = t := by
  unfold mid
  rw [dropLast_snoc, List.drop_left]
theorem depF_tyB : ∀ (T : Ty) (n : Nat), (tyB T).length < n → (tyB T).length ≤ 200 → depF n (tyB T) = tyD T
  | T, 0, h, _ => by omega
  | .int, n + 1, h, _ => by rw [depF, if_pos (.inl rfl)]; rfl
  | .bool, n + 1, h, _ => by rw [depF, if_pos (.inr (.inl rfl))]; rfl
  | .text, n + 1, h, _ => by rw [depF, if_pos (.inr (.inr rfl))]; rfl
  | .list e, n + 1, h, h2 => by
    have hl := tyB_len e
    have hlen : (tyB (.list e)).length = (tyB e).length + 2 := by simp [tyB]
    have hb : ¬ (tyB (.list e) = intB ∨ tyB (.list e) = boolB ∨ tyB (.list e) = textB) := by simp [tyB, intB, boolB, textB]
    have hg : (tyB (.list e)).getLast? = some 93 := by rw [tyB, ← List.cons_append, List.getLast?_concat]
    have h1 : is1 (tyB (.list e)) = true := by
      simp only [is1, Bool.and_eq_true, decide_eq_true_eq]
      exact ⟨by omega, rfl, hg⟩
    have hm : mid 1 (tyB (.list e)) = tyB e := mid_wrap [91] (tyB e) 93
    have hi : innerS (tyB (.list e)) = some (tyB e) := by rw [innerS, if_pos h1, hm]
    have ih := depF_tyB e n (by omega) (by omega)
    have hp := tyD_pos e
    rw [depF, if_neg hb, hi]
    simp only
    rw [if_neg (by omega), ih, if_neg (by omega), tyD]
  | .mapI e, n + 1, h, h2 => by
    have hl := tyB_len e
    have hlen : (tyB (.mapI e)).length = (tyB e).length + 6 := by simp [tyB, mI]
    have hb : ¬ (tyB (.mapI e) = intB ∨ tyB (.mapI e) = boolB ∨ tyB (.mapI e) = textB) := by simp [tyB, mI, intB, boolB, textB]
    have hg : (tyB (.mapI e)).getLast? = some 125 := by rw [tyB, List.getLast?_concat]
    have h0 : is1 (tyB (.mapI e)) = false := by
      simp [is1, tyB, mI]
    have h1 : isM 6 mI (tyB (.mapI e)) = true := by
      simp only [isM, Bool.and_eq_true, decide_eq_true_eq]
      exact ⟨by omega, rfl, hg⟩
    have hm : mid 5 (tyB (.mapI e)) = tyB e := mid_wrap mI (tyB e) 125
    have hi : innerS (tyB (.mapI e)) = some (tyB e) := by rw [innerS, h0, if_neg (by decide), if_pos h1, hm]
    have ih := depF_tyB e n (by omega) (by omega)
    have hp := tyD_pos e
    rw [depF, if_neg hb, hi]
    simp only
    rw [if_neg (by omega), ih, if_neg (by omega), tyD]
  | .mapT e, n + 1, h, h2 => by
    have hl := tyB_len e
    have hlen : (tyB (.mapT e)).length = (tyB e).length + 7 := by simp [tyB, mT]
    have hb : ¬ (tyB (.mapT e) = intB ∨ tyB (.mapT e) = boolB ∨ tyB (.mapT e) = textB) := by simp [tyB, mT, intB, boolB, textB]
    have hg : (tyB (.mapT e)).getLast? = some 125 := by rw [tyB, List.getLast?_concat]
    have h0 : is1 (tyB (.mapT e)) = false := by
      simp [is1, tyB, mT]
    have h0' : isM 6 mI (tyB (.mapT e)) = false := by
      have : ¬ (tyB (.mapT e)).take mI.length = mI := by simp [tyB, mT, mI]
      simp [isM, this]
    have h1 : isM 7 mT (tyB (.mapT e)) = true := by
      simp only [isM, Bool.and_eq_true, decide_eq_true_eq]
      exact ⟨by omega, rfl, hg⟩
    have hm : mid 6 (tyB (.mapT e)) = tyB e := mid_wrap mT (tyB e) 125
    have hi : innerS (tyB (.mapT e)) = some (tyB e) := by rw [innerS, h0, if_neg (by decide), h0', if_neg (by decide), if_pos h1, hm]
    have ih := depF_tyB e n (by omega) (by omega)
    have hp := tyD_pos e
    rw [depF, if_neg hb, hi]
    simp only
    rw [if_neg (by omega), ih, if_neg (by omega), tyD]
theorem tyS_iff {s : List UInt8} {T : Ty} : tyS s = some T ↔ s = tyB T ∧ tyD T ≤ 4 := tyOf_iff
theorem dep_type (n : Nat) (s : List UInt8) (hn : s.length < n) : (decide (1 ≤ depF n s) && decide (depF n s ≤ 4)) = (tyS s).isSome := by
  by_cases h : (tyS s).isSome = true
  · obtain ⟨T, hT⟩ := Option.isSome_iff_exists.1 h
    obtain ⟨rfl, h4⟩ := tyS_iff.1 hT
    have := tyB_len T
    have hp := tyD_pos T
    rw [h, depF_tyB T n hn (by omega)]
    simp; omega
  · rw [Bool.not_eq_true] at h
    rw [h]
    by_cases h0 : depF n s = 0
    · rw [h0]; rfl
    · obtain ⟨T, rfl, hd⟩ := depF_some n s h0
      have : ¬ depF n (tyB T) ≤ 4 := by
        intro h4
        rw [tyS_iff.2 ⟨rfl, by omega⟩] at h
        cases h
      simp [this]
theorem reftype_does (s : List UInt8) (hl : s.length ≤ 4294967296) (σ : St) : Does Try.prog prims 42 [.str s] σ (.ret (.bool (tyS s).isSome)) σ := by
  apply k42_is.ret (by simp)
  simp only [k42_a, WK, vop, evAll, evOpt, evParts, vbuiltin, vun, vextract, Nat.reduceLT, Nat.reduceEqDiff, ↓reduceIte, reduceCtorEq, Nat.reduceAdd, Int.reduceLT, Int.reduceNeg, valloc_std, noSB, vhot, List.getD_cons_zero, List.getD_cons_succ]
  refine KD.ret (depth_does (s.length + 1) s σ (by omega) hl) ?_
  have h := dep_type (s.length + 1) s (by omega)
  by_cases h1 : (1 : Int) ≤ (depF (s.length + 1) s : Nat)
  · by_cases h2 : ((depF (s.length + 1) s : Nat) : Int) ≤ 4
    · have : (tyS s).isSome = true := by rw [← h]; simp; omega
      simp only [k42_a, WK, vop, evAll, evOpt, evParts, vbuiltin, vun, vextract, Nat.reduceLT, Nat.reduceEqDiff, ↓reduceIte, reduceCtorEq, Nat.reduceAdd, Int.reduceLT, Int.reduceNeg, valloc_std, noSB, vhot, h1, h2, this]
    · have : (tyS s).isSome = false := by rw [← h]; simp; omega
      simp only [k42_a, WK, vop, evAll, evOpt, evParts, vbuiltin, vun, vextract, Nat.reduceLT, Nat.reduceEqDiff, ↓reduceIte, reduceCtorEq, Nat.reduceAdd, Int.reduceLT, Int.reduceNeg, valloc_std, noSB, vhot, h1, h2, this]
  · have : (tyS s).isSome = false := by rw [← h]; simp; omega
    simp only [k42_a, WK, vop, evAll, evOpt, evParts, vbuiltin, vun, vextract, Nat.reduceLT, Nat.reduceEqDiff, ↓reduceIte, reduceCtorEq, Nat.reduceAdd, Int.reduceLT, Int.reduceNeg, valloc_std, noSB, vhot, h1, this]
/-! ### What a type is made of -/
def listS (s : List UInt8) : List UInt8 := match tyS s with
  | some (.list e) => tyB e
  | _ => []
def isListS (s : List UInt8) : Bool := match tyS s with
  | some (.list e) => true
  | _ => false
def keyS (s : List UInt8) : List UInt8 := match tyS s with
  | some (.mapI e) => intB
  | some (.mapT e) => textB
  | _ => []
def valS (s : List UInt8) : List UInt8 := match tyS s with
  | some (.mapI e) => tyB e
  | some (.mapT e) => tyB e
  | _ => []
def isMapS (s : List UInt8) : Bool := match tyS s with
  | some (.mapI e) => true
  | some (.mapT e) => true
  | _ => false
def tyK : Ty → Int
  | .int => 1 | .bool => 2 | .text => 3 | .list _ => 4 | .mapI _ => 5 | .mapT _ => 5
def kindS (s : List UInt8) : Int := match tyS s with
  | some T => tyK T
  | none => 0
theorem tyB_first (T : Ty) : ∃ c, (tyB T)[0]? = some c ∧ ((c = 91) ↔ ∃ e, T = .list e) ∧ ((c = 123) ↔ (∃ e, T = .mapI e) ∨ ∃ e, T = .mapT e) := by
  cases T with
  | int => exact ⟨_, rfl, by simp, by simp⟩
  | bool => exact ⟨_, rfl, by simp, by simp⟩
  | text => exact ⟨_, rfl, by simp, by simp⟩
  | list e => exact ⟨_, rfl, by simp, by simp⟩
  | mapI e => exact ⟨_, rfl, by simp, by simp⟩
  | mapT e => exact ⟨_, rfl, by simp, by simp⟩
theorem vlist_does (s : List UInt8) (hl : s.length ≤ 4294967296) (σ : St) : Does Try.prog prims 58 [.str s] σ (.ret (.tuple [.str (listS s), .bool (isListS s)])) σ := by
  apply k58_is.ret (by simp)
  unfold listS isListS
  simp only [k58_a, WK, vop, evAll, evOpt, evParts, vbuiltin, vun, vextract, Nat.reduceLT, Nat.reduceEqDiff, ↓reduceIte, reduceCtorEq, Nat.reduceAdd, Int.reduceLT, Int.reduceNeg, valloc_std, noSB, vhot, List.getD_cons_zero, List.getD_cons_succ, ofVal_str]
  refine KD.ret (type_does s hl σ) ?_
  cases h : tyS s with
  | none => simp only [k58_a, WK, vop, evAll, evOpt, evParts, vbuiltin, vun, vextract, Nat.reduceLT, Nat.reduceEqDiff, ↓reduceIte, reduceCtorEq, Nat.reduceAdd, Int.reduceLT, Int.reduceNeg, valloc_std, noSB, vhot, List.getD_cons_zero, List.getD_cons_succ, ofVal_str, Option.isSome_none]
  | some T =>
    obtain ⟨rfl, h4⟩ := tyS_iff.1 h
    obtain ⟨c, hc, h1, _⟩ := tyB_first T
    have i0 : vindex Try.prog 9 (.str (tyB T)) (.int .i64 0) = some (.int .u8 (c.toNat : Int)) := str_at (n := 0) hc
    have c91 : decide ((c.toNat : Int) = 91) = decide (c = 91) := u8_eq (d := 91)
    by_cases hcc : c = 91
    · obtain ⟨e, rfl⟩ := h1.1 hcc
      have b : decide ((c.toNat : Int) = 91) = true := by rw [c91]; exact decide_eq_true hcc
      have w1 := wrap_len (s := tyB (.list e)) (by have := tyB_len (.list e); omega) hl
      have ms : vslice Try.prog 9 (.str (tyB (.list e))) (some (.int .i64 1)) (some (.int .i64 (((tyB (.list e)).length - 1 : Nat) : Int))) none = some (.str (mid 1 (tyB (.list e)))) := mid_slice (k := 1) (by have := tyB_len (.list e); omega)
      have hm : mid 1 (tyB (.list e)) = tyB e := mid_wrap [91] (tyB e) 93
      simp only [k58_a, WK, vop, evAll, evOpt, evParts, vbuiltin, vun, vextract, Nat.reduceLT, Nat.reduceEqDiff, ↓reduceIte, reduceCtorEq, Nat.reduceAdd, Int.reduceLT, Int.reduceNeg, valloc_std, noSB, vhot, List.getD_cons_zero, List.getD_cons_succ, ofVal_str, Option.isSome_some, i0, b, w1, ms, hm, T9, vlen_str T9]
    · have b : decide ((c.toNat : Int) = 91) = false := by rw [c91]; exact decide_eq_false hcc
      have hT : ∀ e, T ≠ .list e := fun e he => hcc (h1.2 ⟨e, he⟩)
      cases T with
      | list e => exact absurd rfl (hT e)
      | _ => simp only [k58_a, WK, vop, evAll, evOpt, evParts, vbuiltin, vun, vextract, Nat.reduceLT, Nat.reduceEqDiff, ↓reduceIte, reduceCtorEq, Nat.reduceAdd, Int.reduceLT, Int.reduceNeg, valloc_std, noSB, vhot, List.getD_cons_zero, List.getD_cons_succ, ofVal_str, Option.isSome_some, i0, b]
theorem reflist_does (s : List UInt8) (hl : s.length ≤ 4294967296) (σ : St) : Does Try.prog prims 65 [.str s] σ (.ret (.str (listS s))) σ := by
  apply k65_is.ret (by simp)
  unfold listS
  simp only [k65_a, WK, vop, evAll, evOpt, evParts, vbuiltin, vun, vextract, Nat.reduceLT, Nat.reduceEqDiff, ↓reduceIte, reduceCtorEq, Nat.reduceAdd, Int.reduceLT, Int.reduceNeg, valloc_std, noSB, vhot, List.getD_cons_zero, List.getD_cons_succ, ofVal_str]
  refine KD.ret (reftype_does s hl σ) ?_
  cases h : tyS s with
  | none => simp only [k65_a, WK, vop, evAll, evOpt, evParts, vbuiltin, vun, vextract, Nat.reduceLT, Nat.reduceEqDiff, ↓reduceIte, reduceCtorEq, Nat.reduceAdd, Int.reduceLT, Int.reduceNeg, valloc_std, noSB, vhot, List.getD_cons_zero, List.getD_cons_succ, ofVal_str, Option.isSome_none]
  | some T =>
    obtain ⟨rfl, h4⟩ := tyS_iff.1 h
    obtain ⟨c, hc, h1, _⟩ := tyB_first T
    have i0 : vindex Try.prog 9 (.str (tyB T)) (.int .i64 0) = some (.int .u8 (c.toNat : Int)) := str_at (n := 0) hc
    have c91 : decide ((c.toNat : Int) = 91) = decide (c = 91) := u8_eq (d := 91)
    by_cases hcc : c = 91
    · obtain ⟨e, rfl⟩ := h1.1 hcc
      have b : decide ((c.toNat : Int) = 91) = true := by rw [c91]; exact decide_eq_true hcc
      have w1 := wrap_len (s := tyB (.list e)) (by have := tyB_len (.list e); omega) hl
      have ms : vslice Try.prog 9 (.str (tyB (.list e))) (some (.int .i64 1)) (some (.int .i64 (((tyB (.list e)).length - 1 : Nat) : Int))) none = some (.str (mid 1 (tyB (.list e)))) := mid_slice (k := 1) (by have := tyB_len (.list e); omega)
      have hm : mid 1 (tyB (.list e)) = tyB e := mid_wrap [91] (tyB e) 93
      simp only [k65_a, WK, vop, evAll, evOpt, evParts, vbuiltin, vun, vextract, Nat.reduceLT, Nat.reduceEqDiff, ↓reduceIte, reduceCtorEq, Nat.reduceAdd, Int.reduceLT, Int.reduceNeg, valloc_std, noSB, vhot, List.getD_cons_zero, List.getD_cons_succ, ofVal_str, Option.isSome_some, i0, b, w1, ms, hm, T9, vlen_str T9]
    · have b : decide ((c.toNat : Int) = 91) = false := by rw [c91]; exact decide_eq_false hcc
      have hT : ∀ e, T ≠ .list e := fun e he => hcc (h1.2 ⟨e, he⟩)
      cases T with
      | list e => exact absurd rfl (hT e)
      | _ => simp only [k65_a, WK, vop, evAll, evOpt, evParts, vbuiltin, vun, vextract, Nat.reduceLT, Nat.reduceEqDiff, ↓reduceIte, reduceCtorEq, Nat.reduceAdd, Int.reduceLT, Int.reduceNeg, valloc_std, noSB, vhot, List.getD_cons_zero, List.getD_cons_succ, ofVal_str, Option.isSome_some, i0, b]
theorem refmap_does (s : List UInt8) (hl : s.length ≤ 4294967296) (σ : St) : Does Try.prog prims 66 [.str s] σ (.ret (.tuple [.str (keyS s), .str (valS s)])) σ := by
  apply k66_is.ret (by simp)
  unfold keyS valS
  simp only [k66_a, WK, vop, evAll, evOpt, evParts, vbuiltin, vun, vextract, Nat.reduceLT, Nat.reduceEqDiff, ↓reduceIte, reduceCtorEq, Nat.reduceAdd, Int.reduceLT, Int.reduceNeg, valloc_std, noSB, vhot, List.getD_cons_zero, List.getD_cons_succ, ofVal_str]
  refine KD.ret (reftype_does s hl σ) ?_
  cases h : tyS s with
  | none => simp only [k66_a, WK, vop, evAll, evOpt, evParts, vbuiltin, vun, vextract, Nat.reduceLT, Nat.reduceEqDiff, ↓reduceIte, reduceCtorEq, Nat.reduceAdd, Int.reduceLT, Int.reduceNeg, valloc_std, noSB, vhot, List.getD_cons_zero, List.getD_cons_succ, ofVal_str, Option.isSome_none]
  | some T =>
    obtain ⟨rfl, h4⟩ := tyS_iff.1 h
    obtain ⟨c, hc, _, h1⟩ := tyB_first T
    have i0 : vindex Try.prog 9 (.str (tyB T)) (.int .i64 0) = some (.int .u8 (c.toNat : Int)) := str_at (n := 0) hc
    have c91 : decide ((c.toNat : Int) = 123) = decide (c = 123) := u8_eq (d := 123)
    by_cases hcc : c = 123
    · have b : decide ((c.toNat : Int) = 123) = true := by rw [c91]; exact decide_eq_true hcc
      rcases h1.1 hcc with ⟨e, rfl⟩ | ⟨e, rfl⟩
      · have w1 := wrap_len (s := tyB (.mapI e)) (by have := tyB_len (.mapI e); omega) hl
        have hlen : (tyB (.mapI e)).length = (tyB e).length + 6 := by simp [tyB, mI]
        have ms : vslice Try.prog 9 (.str (tyB (.mapI e))) (some (.int .i64 5)) (some (.int .i64 (((tyB (.mapI e)).length - 1 : Nat) : Int))) none = some (.str (mid 5 (tyB (.mapI e)))) := mid_slice (k := 5) (by omega)
        have hm : mid 5 (tyB (.mapI e)) = tyB e := mid_wrap mI (tyB e) 125
        have i1 : vindex Try.prog 9 (.str (tyB (.mapI e))) (.int .i64 1) = some (.int .u8 105) := str_at (n := 1) (c := 105) rfl
        simp only [k66_a, WK, vop, evAll, evOpt, evParts, vbuiltin, vun, vextract, Nat.reduceLT, Nat.reduceEqDiff, ↓reduceIte, reduceCtorEq, Nat.reduceAdd, Int.reduceLT, Int.reduceNeg, valloc_std, noSB, vhot, List.getD_cons_zero, List.getD_cons_succ, ofVal_str, Option.isSome_some, i0, i1, b, w1, ms, hm, T9, vlen_str T9, show decide ((116 : Int) = 105) = false from rfl, show decide ((105 : Int) = 105) = true from rfl]
        rfl
      · have w1 := wrap_len (s := tyB (.mapT e)) (by have := tyB_len (.mapT e); omega) hl
        have hlen : (tyB (.mapT e)).length = (tyB e).length + 7 := by simp [tyB, mT]
        have ms : vslice Try.prog 9 (.str (tyB (.mapT e))) (some (.int .i64 6)) (some (.int .i64 (((tyB (.mapT e)).length - 1 : Nat) : Int))) none = some (.str (mid 6 (tyB (.mapT e)))) := mid_slice (k := 6) (by omega)
        have hm : mid 6 (tyB (.mapT e)) = tyB e := mid_wrap mT (tyB e) 125
        have i1 : vindex Try.prog 9 (.str (tyB (.mapT e))) (.int .i64 1) = some (.int .u8 116) := str_at (n := 1) (c := 116) rfl
        simp only [k66_a, WK, vop, evAll, evOpt, evParts, vbuiltin, vun, vextract, Nat.reduceLT, Nat.reduceEqDiff, ↓reduceIte, reduceCtorEq, Nat.reduceAdd, Int.reduceLT, Int.reduceNeg, valloc_std, noSB, vhot, List.getD_cons_zero, List.getD_cons_succ, ofVal_str, Option.isSome_some, i0, i1, b, w1, ms, hm, T9, vlen_str T9, show decide ((116 : Int) = 105) = false from rfl, show decide ((105 : Int) = 105) = true from rfl]
        rfl
    · have b : decide ((c.toNat : Int) = 123) = false := by rw [c91]; exact decide_eq_false hcc
      have hT : ∀ e, T ≠ .mapI e := fun e he => hcc (h1.2 (.inl ⟨e, he⟩))
      have hT' : ∀ e, T ≠ .mapT e := fun e he => hcc (h1.2 (.inr ⟨e, he⟩))
      cases T with
      | mapI e => exact absurd rfl (hT e)
      | mapT e => exact absurd rfl (hT' e)
      | _ => simp only [k66_a, WK, vop, evAll, evOpt, evParts, vbuiltin, vun, vextract, Nat.reduceLT, Nat.reduceEqDiff, ↓reduceIte, reduceCtorEq, Nat.reduceAdd, Int.reduceLT, Int.reduceNeg, valloc_std, noSB, vhot, List.getD_cons_zero, List.getD_cons_succ, ofVal_str, Option.isSome_some, i0, b]
/-! ### strings.Cut at a colon -/
theorem indexByte_int (l : List UInt8) : Lib.indexByte ([105, 110, 116, 58] ++ l) 58 = 3 := by
  simp [Lib.indexByte]
theorem indexByte_text (l : List UInt8) : Lib.indexByte ([116, 101, 120, 116, 58] ++ l) 58 = 4 := by
  simp [Lib.indexByte]
theorem index_does (a : List UInt8) (n : Nat) (hn : Lib.indexByte a 58 = (n : Int)) (hl : 2 ≤ a.length) (σ : St) : Does Try.prog prims 81 [.str a, .str [58]] σ (.ret (.int .i64 (n : Int))) σ := by
  apply k81_is.ret (by simp)
  have i0 : vindex Try.prog 9 (.str [58]) (.int .i64 0) = some (.int .u8 58) := str_at (n := 0) (c := 58) rfl
  have l1 : vlen Try.prog 9 (.str [58]) = some (.int .i64 1) := vlen_str T9
  have hne : decide (([58] : List UInt8) = a) = false := by
    apply decide_eq_false
    rintro rfl
    simp at hl
  simp only [k81_a, WK, vop, evAll, evOpt, evParts, vbuiltin, vun, vextract, Nat.reduceLT, Nat.reduceEqDiff, ↓reduceIte, reduceCtorEq, Nat.reduceAdd, Int.reduceLT, Int.reduceNeg, valloc_std, noSB, vhot, List.getD_cons_zero, List.getD_cons_succ, ofVal_str, l1, T9, strBin, hne, i0, show decide ((1 : Int) = 0) = false from rfl, show decide ((1 : Int) = 1) = true from rfl]
  refine KD.ret (Does_indexByte a 58 σ) ?_
  have : Lib.indexByte a (58 : Int).toNat.toUInt8 = (n : Int) := hn
  simp only [k81_a, WK, vop, evAll, evOpt, evParts, vbuiltin, vun, vextract, Nat.reduceLT, Nat.reduceEqDiff, ↓reduceIte, reduceCtorEq, Nat.reduceAdd, Int.reduceLT, Int.reduceNeg, valloc_std, noSB, vhot, this]
theorem cut0_does (a : List UInt8) (n : Nat) (hn : Lib.indexByte a 58 = (n : Int)) (hl : 2 ≤ a.length) (h2 : n + 1 ≤ a.length) (hb : a.length ≤ 4294967296) (σ : St) : Does Try.prog prims 77 [.str a, .str [58]] σ (.ret (.tuple [.str (a.take n), .str (a.drop (n + 1)), .bool true])) σ := by
  apply k77_is.ret (by simp)
  simp only [k77_a, WK, vop, evAll, evOpt, evParts, vbuiltin, vun, vextract, Nat.reduceLT, Nat.reduceEqDiff, ↓reduceIte, reduceCtorEq, Nat.reduceAdd, Int.reduceLT, Int.reduceNeg, valloc_std, noSB, vhot, List.getD_cons_zero, List.getD_cons_succ, ofVal_str]
  refine KD.ret (index_does a n hn hl σ) ?_
  have l1 : vlen Try.prog 9 (.str [58]) = some (.int .i64 1) := vlen_str T9
  have hge : (0 : Int) ≤ (n : Int) := by omega
  have w1 : IntKind.i64.wrap ((n : Int) + 1) = ((n + 1 : Nat) : Int) := by rw [wrap_i64 (by omega) (by omega)]; omega
  have s1 : vslice Try.prog 9 (.str a) none (some (.int .i64 (n : Int))) none = some (.str (a.take n)) := str_hi (by omega)
  have s2 : vslice Try.prog 9 (.str a) (some (.int .i64 ((n + 1 : Nat) : Int))) none none = some (.str (a.drop (n + 1))) := str_lo (by omega)
  simp only [k77_a, WK, vop, evAll, evOpt, evParts, vbuiltin, vun, vextract, Nat.reduceLT, Nat.reduceEqDiff, ↓reduceIte, reduceCtorEq, Nat.reduceAdd, Int.reduceLT, Int.reduceNeg, valloc_std, noSB, vhot, List.getD_cons_zero, List.getD_cons_succ, ofVal_str, hge, l1, T9, w1, s1, s2]
theorem strcut_does (a : List UInt8) (n : Nat) (hn : Lib.indexByte a 58 = (n : Int)) (hl : 2 ≤ a.length) (h2 : n + 1 ≤ a.length) (hb : a.length ≤ 4294967296) (σ : St) : Does Try.prog prims 71 [.str a, .str [58]] σ (.ret (.tuple [.str (a.take n), .str (a.drop (n + 1)), .bool true])) σ := by
  apply k71_is.ret (by simp)
  simp only [k71_a, WK, vop, evAll, evOpt, evParts, vbuiltin, vun, vextract, Nat.reduceLT, Nat.reduceEqDiff, ↓reduceIte, reduceCtorEq, Nat.reduceAdd, Int.reduceLT, Int.reduceNeg, valloc_std, noSB, vhot, List.getD_cons_zero, List.getD_cons_succ, ofVal_str]
  refine KD.ret (cut0_does a n hn hl h2 hb σ) ?_
  simp only [k71_a, WK, vop, evAll, evOpt, evParts, vbuiltin, vun, vextract, Nat.reduceLT, Nat.reduceEqDiff, ↓reduceIte, reduceCtorEq, Nat.reduceAdd, Int.reduceLT, Int.reduceNeg, valloc_std, noSB, vhot, List.getD_cons_zero, List.getD_cons_succ]
theorem vmap_does (s : List UInt8) (hl : s.length ≤ 4294967296) (σ : St) : Does Try.prog prims 61 [.str s] σ (.ret (.tuple [.str (keyS s), .str (valS s), .bool (isMapS s)])) σ := by
  apply k61_is.ret (by simp)
  unfold keyS valS isMapS
  simp only [k61_a, WK, vop, evAll, evOpt, evParts, vbuiltin, vun, vextract, Nat.reduceLT, Nat.reduceEqDiff, ↓reduceIte, reduceCtorEq, Nat.reduceAdd, Int.reduceLT, Int.reduceNeg, valloc_std, noSB, vhot, List.getD_cons_zero, List.getD_cons_succ, ofVal_str]
  refine KD.ret (type_does s hl σ) ?_
  cases h : tyS s with
  | none => simp only [k61_a, WK, vop, evAll, evOpt, evParts, vbuiltin, vun, vextract, Nat.reduceLT, Nat.reduceEqDiff, ↓reduceIte, reduceCtorEq, Nat.reduceAdd, Int.reduceLT, Int.reduceNeg, valloc_std, noSB, vhot, List.getD_cons_zero, List.getD_cons_succ, ofVal_str, Option.isSome_none]
  | some T =>
    obtain ⟨rfl, h4⟩ := tyS_iff.1 h
    obtain ⟨c, hc, _, h1⟩ := tyB_first T
    have i0 : vindex Try.prog 9 (.str (tyB T)) (.int .i64 0) = some (.int .u8 (c.toNat : Int)) := str_at (n := 0) hc
    have c91 : decide ((c.toNat : Int) = 123) = decide (c = 123) := u8_eq (d := 123)
    by_cases hcc : c = 123
    · have b : decide ((c.toNat : Int) = 123) = true := by rw [c91]; exact decide_eq_true hcc
      rcases h1.1 hcc with ⟨e, rfl⟩ | ⟨e, rfl⟩
      · have w1 := wrap_len (s := tyB (.mapI e)) (by have := tyB_len (.mapI e); omega) hl
        have hlen : (tyB (.mapI e)).length = (tyB e).length + 6 := by simp [tyB, mI]
        have ms : vslice Try.prog 9 (.str (tyB (.mapI e))) (some (.int .i64 1)) (some (.int .i64 (((tyB (.mapI e)).length - 1 : Nat) : Int))) none = some (.str (mid 1 (tyB (.mapI e)))) := mid_slice (k := 1) (by omega)
        have hm : mid 1 (tyB (.mapI e)) = [105, 110, 116, 58] ++ tyB e := mid_wrap [123] ([105, 110, 116, 58] ++ tyB e) 125
        have hcut := strcut_does ([105, 110, 116, 58] ++ tyB e) 3 (indexByte_int _) (by simp) (by simp) (by simp; omega) σ
        simp only [k61_a, WK, vop, evAll, evOpt, evParts, vbuiltin, vun, vextract, Nat.reduceLT, Nat.reduceEqDiff, ↓reduceIte, reduceCtorEq, Nat.reduceAdd, Int.reduceLT, Int.reduceNeg, valloc_std, noSB, vhot, List.getD_cons_zero, List.getD_cons_succ, ofVal_str, Option.isSome_some, i0, b, w1, ms, hm, T9, vlen_str T9]
        refine KD.ret hcut ?_
        simp only [k61_a, WK, vop, evAll, evOpt, evParts, vbuiltin, vun, vextract, Nat.reduceLT, Nat.reduceEqDiff, ↓reduceIte, reduceCtorEq, Nat.reduceAdd, Int.reduceLT, Int.reduceNeg, valloc_std, noSB, vhot, List.getD_cons_zero, List.getD_cons_succ]
        rfl
      · have w1 := wrap_len (s := tyB (.mapT e)) (by have := tyB_len (.mapT e); omega) hl
        have hlen : (tyB (.mapT e)).length = (tyB e).length + 7 := by simp [tyB, mT]
        have ms : vslice Try.prog 9 (.str (tyB (.mapT e))) (some (.int .i64 1)) (some (.int .i64 (((tyB (.mapT e)).length - 1 : Nat) : Int))) none = some (.str (mid 1 (tyB (.mapT e)))) := mid_slice (k := 1) (by omega)
        have hm : mid 1 (tyB (.mapT e)) = [116, 101, 120, 116, 58] ++ tyB e := mid_wrap [123] ([116, 101, 120, 116, 58] ++ tyB e) 125
        have hcut := strcut_does ([116, 101, 120, 116, 58] ++ tyB e) 4 (indexByte_text _) (by simp) (by simp) (by simp; omega) σ
        simp only [k61_a, WK, vop, evAll, evOpt, evParts, vbuiltin, vun, vextract, Nat.reduceLT, Nat.reduceEqDiff, ↓reduceIte, reduceCtorEq, Nat.reduceAdd, Int.reduceLT, Int.reduceNeg, valloc_std, noSB, vhot, List.getD_cons_zero, List.getD_cons_succ, ofVal_str, Option.isSome_some, i0, b, w1, ms, hm, T9, vlen_str T9]
        refine KD.ret hcut ?_
        simp only [k61_a, WK, vop, evAll, evOpt, evParts, vbuiltin, vun, vextract, Nat.reduceLT, Nat.reduceEqDiff, ↓reduceIte, reduceCtorEq, Nat.reduceAdd, Int.reduceLT, Int.reduceNeg, valloc_std, noSB, vhot, List.getD_cons_zero, List.getD_cons_succ]
        rfl
    · have b : decide ((c.toNat : Int) = 123) = false := by rw [c91]; exact decide_eq_false hcc
      have hT : ∀ e, T ≠ .mapI e := fun e he => hcc (h1.2 (.inl ⟨e, he⟩))
      have hT' : ∀ e, T ≠ .mapT e := fun e he => hcc (h1.2 (.inr ⟨e, he⟩))
      cases T with
      | mapI e => exact absurd rfl (hT e)
      | mapT e => exact absurd rfl (hT' e)
      | _ => simp only [k61_a, WK, vop, evAll, evOpt, evParts, vbuiltin, vun, vextract, Nat.reduceLT, Nat.reduceEqDiff, ↓reduceIte, reduceCtorEq, Nat.reduceAdd, Int.reduceLT, Int.reduceNeg, valloc_std, noSB, vhot, List.getD_cons_zero, List.getD_cons_succ, ofVal_str, Option.isSome_some, i0, b]
end Go.Proofs.Ytplhelapcpcncaa.Q

set_option linter.unusedVariables false
set_option linter.unusedSimpArgs false
namespace Go.Proofs.Ytplhelapcpcncaa.Q
open Go Go.RowKit Go.Proofs
theorem sgn_refl (a : Int) : sgn a a = 0 := sgn_eq rfl
theorem cb_refl (a : List UInt8) : Lib.compareBytes a a = 0 := by rw [compareBytes_eq, if_pos rfl]
/-- One ahead of the rest. -/
def lex (x r : Int) : Int := if x = 0 then r else x
theorem cmp_refl : ∀ (n : Nat) (a : Val), weight a ≤ n → cmpV a a = 0
  | 0, a, h => by have := weight_pos a; omega
  | n + 1, .mk k m t l, h => by
    rw [weight] at h
    have rows : ∀ (l : List Val), weights l ≤ n → cmpL l l = 0 := by
      intro l
      induction l with
      | nil => intro _; simp [cmpL]
      | cons a l ih =>
        intro hl
        rw [weights] at hl
        rw [cmpL, if_pos (cmp_refl n a (by omega))]
        exact ih (by omega)
    rw [cmpV, sgn_refl, sgn_refl, cb_refl, rows l (by omega)]
    rfl
theorem cmpV_refl (a : Val) : cmpV a a = 0 := cmp_refl _ a (Nat.le_refl _)
end Go.Proofs.Ytplhelapcpcncaa.Q

set_option linter.unusedVariables false
set_option linter.unusedSimpArgs false
namespace Go.Proofs.Ytplhelapcpcncaa.Q
open Go Go.RowKit Go.Proofs
/-! ### Values without parts -/
def flatV (k n : Int) (t : List UInt8) : Val := .mk k n t []
def flatC (k n : Int) (t : List UInt8) : List V := [.int .i64 k, .int .i64 n, .str t, .nils]
theorem BVk (k : Int) : vbuild Try.prog 29 [(0, .int .i64 k)] = some (.agg (flatC k 0 [])) := by kernel_rfl
section
variable (σ : St)
/-! ### First values -/
def zeroS (s : List UInt8) : List V := flatC (kindS s) 0 []
theorem zeroS_len (s : List UInt8) : (zeroS s).length = 4 := rfl
theorem storeN {σ2 : St} {c : List V} {c' : List V} {r : Nat} (h : σ2.objs[r]? = some (.cells c')) (hc : c.length = 4) (hc' : c'.length = 4) (h1 : c.all one = true) : ∃ s2 : St, vstore Try.prog σ2 29 (.optr r 0) (.agg c) = some s2 ∧ IsV s2 r c ∧ KeepX r σ2 s2 :=
  ⟨_, vstore_agg h (by rw [hc]; exact VS24) (by rw [hc, hc']) h1, obj_set h, KeepX.set _ _ _⟩
theorem listS_nil {s : List UInt8} : decide (listS s = []) = !isListS s := by
  unfold listS isListS
  split
  · rename_i e _
    have := tyB_len e
    have h : tyB e ≠ [] := by
      intro h
      rw [h] at this
      simp at this
    rw [decide_eq_false h]
    rfl
  · rfl
theorem refzero_does (s : List UInt8) (hl : s.length ≤ 4294967296) : ∃ σ', Does Try.prog prims 64 [.str s] σ (.ret (.agg (zeroS s))) σ' ∧ Keep σ σ' := by
  have key : ∃ q σ', Does Try.prog prims 64 [.str s] σ q σ' ∧ q = .ret (.agg (zeroS s)) ∧ Keep σ σ' := by
    apply k64_is.does (by simp)
    obtain ⟨s1, hs1⟩ : ∃ s1 : St, s1 = ⟨σ.objs ++ [Ob.cells val0C], σ.toks⟩ := ⟨_, rfl⟩
    have k1 : Keep σ s1 := by rw [hs1]; exact (Keep.refl σ).push _
    have q1 : s1.objs[σ.objs.length]? = some (.cells val0C) := by rw [hs1]; exact push_new _ _
    simp only [k64_a, WK, vop, evAll, evOpt, evParts, vbuiltin, vun, vextract, Nat.reduceLT, Nat.reduceEqDiff, ↓reduceIte, reduceCtorEq, Nat.reduceAdd, Int.reduceLT, Int.reduceNeg, valloc_std, noSB, vhot, List.getD_cons_zero, List.getD_cons_succ, ofVal_str, VZ24, vbox, vcells, ← hs1, strBin]
    obtain ⟨s2, hst, h2, h3⟩ := storeN q1 (c := zeroS s) rfl rfl rfl
    have hz : zeroS s = flatC (kindS s) 0 [] := rfl
    by_cases a1 : s = [105, 110, 116]
    · have b1 : decide (s = [105, 110, 116]) = true := decide_eq_true a1
      have hk : kindS s = 1 := by subst a1; rfl
      rw [hk] at hz
      simp only [k64_a, WK, vop, evAll, evOpt, evParts, vbuiltin, vun, vextract, Nat.reduceLT, Nat.reduceEqDiff, ↓reduceIte, reduceCtorEq, Nat.reduceAdd, Int.reduceLT, Int.reduceNeg, valloc_std, noSB, vhot, b1, BVk, ← hz, hst, h2.load (zeroS_len s)]
      exact (k1.viaX' h3 (Nat.le_refl _))
    have b1 : decide (s = [105, 110, 116]) = false := decide_eq_false a1
    by_cases a2 : s = [98, 111, 111, 108]
    · have b2 : decide (s = [98, 111, 111, 108]) = true := decide_eq_true a2
      have hk : kindS s = 2 := by subst a2; rfl
      rw [hk] at hz
      simp only [k64_a, WK, vop, evAll, evOpt, evParts, vbuiltin, vun, vextract, Nat.reduceLT, Nat.reduceEqDiff, ↓reduceIte, reduceCtorEq, Nat.reduceAdd, Int.reduceLT, Int.reduceNeg, valloc_std, noSB, vhot, List.getD_cons_zero, List.getD_cons_succ, ofVal_str, strBin, b1, b2, BVk, ← hz, hst, h2.load (zeroS_len s)]
      exact (k1.viaX' h3 (Nat.le_refl _))
    have b2 : decide (s = [98, 111, 111, 108]) = false := decide_eq_false a2
    by_cases a3 : s = [116, 101, 120, 116]
    · have b3 : decide (s = [116, 101, 120, 116]) = true := decide_eq_true a3
      have hk : kindS s = 3 := by subst a3; rfl
      rw [hk] at hz
      simp only [k64_a, WK, vop, evAll, evOpt, evParts, vbuiltin, vun, vextract, Nat.reduceLT, Nat.reduceEqDiff, ↓reduceIte, reduceCtorEq, Nat.reduceAdd, Int.reduceLT, Int.reduceNeg, valloc_std, noSB, vhot, List.getD_cons_zero, List.getD_cons_succ, ofVal_str, strBin, b1, b2, b3, BVk, ← hz, hst, h2.load (zeroS_len s)]
      exact (k1.viaX' h3 (Nat.le_refl _))
    have b3 : decide (s = [116, 101, 120, 116]) = false := decide_eq_false a3
    simp only [k64_a, WK, vop, evAll, evOpt, evParts, vbuiltin, vun, vextract, Nat.reduceLT, Nat.reduceEqDiff, ↓reduceIte, reduceCtorEq, Nat.reduceAdd, Int.reduceLT, Int.reduceNeg, valloc_std, noSB, vhot, List.getD_cons_zero, List.getD_cons_succ, ofVal_str, strBin, b1, b2, b3]
    refine KD.ret (reflist_does s hl s1) ?_
    have hn := listS_nil (s := s)
    cases hi : isListS s with
    | true =>
      have hk : kindS s = 4 := by
        unfold isListS at hi
        unfold kindS
        split at hi
        · rename_i e he; rw [he]; rfl
        · cases hi
      rw [hk] at hz
      simp only [k64_a, WK, vop, evAll, evOpt, evParts, vbuiltin, vun, vextract, Nat.reduceLT, Nat.reduceEqDiff, ↓reduceIte, reduceCtorEq, Nat.reduceAdd, Int.reduceLT, Int.reduceNeg, valloc_std, noSB, vhot, ofVal_str, strBin, hn, hi, BVk, ← hz, hst, h2.load (zeroS_len s)]
      exact (k1.viaX' h3 (Nat.le_refl _))
    | false =>
      simp only [k64_a, WK, vop, evAll, evOpt, evParts, vbuiltin, vun, vextract, Nat.reduceLT, Nat.reduceEqDiff, ↓reduceIte, reduceCtorEq, Nat.reduceAdd, Int.reduceLT, Int.reduceNeg, valloc_std, noSB, vhot, List.getD_cons_zero, ofVal_str, strBin, hn, hi]
      refine KD.ret (reftype_does s hl s1) ?_
      cases h : tyS s with
      | none =>
        have hk : kindS s = 0 := by rw [kindS, h]
        rw [hk] at hz
        simp only [k64_a, WK, vop, evAll, evOpt, evParts, vbuiltin, vun, vextract, Nat.reduceLT, Nat.reduceEqDiff, ↓reduceIte, reduceCtorEq, Nat.reduceAdd, Int.reduceLT, Int.reduceNeg, valloc_std, noSB, vhot, Option.isSome_none, BVk, ← hz, hst, h2.load (zeroS_len s)]
        exact (k1.viaX' h3 (Nat.le_refl _))
      | some T =>
        have hk : kindS s = 5 := by
          rw [kindS, h]
          obtain ⟨rfl, h4⟩ := tyS_iff.1 h
          cases T with
          | int => exact absurd rfl a1
          | bool => exact absurd rfl a2
          | text => exact absurd rfl a3
          | list e => rw [isListS, h] at hi; cases hi
          | mapI e => rfl
          | mapT e => rfl
        rw [hk] at hz
        simp only [k64_a, WK, vop, evAll, evOpt, evParts, vbuiltin, vun, vextract, Nat.reduceLT, Nat.reduceEqDiff, ↓reduceIte, reduceCtorEq, Nat.reduceAdd, Int.reduceLT, Int.reduceNeg, valloc_std, noSB, vhot, Option.isSome_some, BVk, ← hz, hst, h2.load (zeroS_len s)]
        exact (k1.viaX' h3 (Nat.le_refl _))
  obtain ⟨q, σ', h1, rfl, h3⟩ := key
  exact ⟨σ', h1, h3⟩
theorem same_does {a b : Val} {c1 c2 : List V} (hw : weight a ≤ 4294967296) (ha : ValC a c1) (hb : ValC b c2) : ∃ σ', Does Try.prog prims 56 [.agg c1, .agg c2] σ (.ret (.bool (decide (cmpV a b = 0)))) σ' ∧ Keep σ σ' := by
  obtain ⟨s1, hs1⟩ : ∃ s1 : St, s1 = ⟨(σ.objs ++ [Ob.cells c1]) ++ [Ob.cells c2], σ.toks⟩ := ⟨_, rfl⟩
  have k1 : Keep σ s1 := by rw [hs1]; exact ((Keep.refl σ).push _).push _
  have p1 : IsV s1 σ.objs.length c1 := by rw [hs1]; show ((σ.objs ++ [_]) ++ [_])[_]? = _; rw [List.getElem?_append_left (by simp)]; exact push_new _ _
  have p2 : IsV s1 (σ.objs.length + 1) c2 := by
    rw [hs1]
    have : (σ.objs.length + 1) = (σ.objs ++ [Ob.cells c1]).length := by simp
    unfold IsV
    rw [this]
    exact push_new _ _
  obtain ⟨s2, d2, k2⟩ := refcompare_does s1 hw ha hb
  refine ⟨s2, ?_, k1.trans k2⟩
  apply k56_is.ret (by simp)
  simp only [k56_a, WK, vop, evAll, evOpt, evParts, vbuiltin, vun, vextract, Nat.reduceLT, Nat.reduceEqDiff, ↓reduceIte, reduceCtorEq, Nat.reduceAdd, Int.reduceLT, Int.reduceNeg, valloc_std, noSB, vhot, List.getD_cons_zero, List.getD_cons_succ, vbox, vcells, List.length_append, List.length_cons, List.length_nil, ← hs1, p1.load ha.len, p2.load hb.len]
  refine KD.ret d2 ?_
  simp only [k56_a, WK, vop, evAll, evOpt, evParts, vbuiltin, vun, vextract, Nat.reduceLT, Nat.reduceEqDiff, ↓reduceIte, reduceCtorEq, Nat.reduceAdd, Int.reduceLT, Int.reduceNeg, valloc_std, noSB, vhot]
end
end Go.Proofs.Ytplhelapcpcncaa.Q

set_option linter.unusedVariables false
set_option linter.unusedSimpArgs false
namespace Go.Proofs.Ytplhelapcpcncaa.Q
open Go Go.RowKit Go.Proofs
/-! ### Whether a value is one of a type -/
def fitInt : Val → Bool
  | .mk k n t l => decide (k = 1) && (decide (t = []) && decide ((l.length : Int) = 0))
def fitBool : Val → Bool
  | .mk k n t l => decide (k = 2) && ((decide (n = 0) || decide (n = 1)) && (decide (t = []) && decide ((l.length : Int) = 0)))
def fitText : Val → Bool
  | .mk k n t l => decide (n = 0) && (decide (k = 3) && (decide ((t.length : Int) ≤ 256) && decide ((l.length : Int) = 0)))
def fitList (f : Val → Bool) : Val → Bool
  | .mk k n t l => decide (n = 0) && (decide (t = []) && (decide (k = 4) && (decide ((l.length : Int) ≤ 64) && l.all f)))
def okAt (fk fv : Val → Bool) (l : List Val) (j : Nat) : Bool := match l[j]? with
  | none => true
  | some y => if j % 2 = 0 then fk y && (decide (j = 0) || match l[j - 2]? with
      | some x => decide (cmpV x y < 0)
      | none => true) else fv y
def okAll (fk fv : Val → Bool) (l : List Val) : Bool := (List.range l.length).all (okAt fk fv l)
def fitMap (fk fv : Val → Bool) : Val → Bool
  | .mk k n t l => decide (n = 0) && (decide (t = []) && (decide (k = 5) && (decide ((l.length : Int) % 2 = 0) && (decide ((l.length : Int) ≤ 128) && okAll fk fv l))))
def fitsT : Ty → Val → Bool
  | .int => fitInt
  | .bool => fitBool
  | .text => fitText
  | .list e => fitList (fitsT e)
  | .mapI e => fitMap fitInt (fitsT e)
  | .mapT e => fitMap fitText (fitsT e)
theorem okAll_true {fk fv : Val → Bool} {l : List Val} (h : ∀ j, j < l.length → okAt fk fv l j = true) : okAll fk fv l = true := by
  rw [okAll, List.all_eq_true]
  intro j hj
  exact h j (List.mem_range.1 hj)
theorem okAll_false {fk fv : Val → Bool} {l : List Val} {j : Nat} (hj : j < l.length) (h : okAt fk fv l j = false) : okAll fk fv l = false := by
  rw [← Bool.not_eq_true, okAll, List.all_eq_true]
  intro h2
  have := h2 j (List.mem_range.2 hj)
  rw [h] at this
  cases this
theorem okAt_even0 {fk fv : Val → Bool} {l : List Val} (h : 0 < l.length) : okAt fk fv l 0 = fk l[0] := by
  rw [okAt, List.getElem?_eq_getElem h]; simp
theorem okAt_even {fk fv : Val → Bool} {l : List Val} {j : Nat} (h : j < l.length) (he : j % 2 = 0) (h0 : 2 ≤ j) : okAt fk fv l j = (fk l[j] && decide (cmpV l[j - 2] l[j] < 0)) := by
  have : ¬ j = 0 := by omega
  rw [okAt, List.getElem?_eq_getElem h]
  simp only [he, if_true]
  rw [List.getElem?_eq_getElem (show j - 2 < l.length by omega)]
  simp [this]
theorem okAt_odd {fk fv : Val → Bool} {l : List Val} {j : Nat} (h : j < l.length) (he : j % 2 = 1) : okAt fk fv l j = fv l[j] := by
  rw [okAt, List.getElem?_eq_getElem h]
  simp only [he]
  rfl
/-- The function tells it of a type. -/
def FitOk (F : FuncId) (s : List UInt8) (f : Val → Bool) : Prop := ∀ (v : Val) (c : List V) (σ : St), weight v ≤ 4294967296 → ValC v c → ∃ σ', Does Try.prog prims F [.agg c, .str s] σ (.ret (.bool (f v))) σ' ∧ Keep σ σ'
section
variable {k n : Int} {t : List UInt8} {l : List Val} {w : V}
set_option maxRecDepth 100000
theorem fits_int : FitOk 41 intB fitInt := by
  intro v c σ hwt ha
  have key : ∃ q σ', Does Try.prog prims 41 [.agg c, .str intB] σ q σ' ∧ q = .ret (.bool (fitInt v)) ∧ Keep σ σ' := by
    obtain ⟨k, n, t, l, w, rfl, rfl, hw, ik, im⟩ := ha.inv
    apply k41_is.does (by simp)
    obtain ⟨σ2, hσ2⟩ : ∃ σ2 : St, σ2 = ⟨σ.objs ++ [Ob.cells [.int .i64 k, .int .i64 n, .str t, w]], σ.toks⟩ := ⟨_, rfl⟩
    have hk2 : Keep σ σ2 := by rw [hσ2]; exact (Keep.refl σ).push _
    have q2 : IsV σ2 σ.objs.length [.int .i64 k, .int .i64 n, .str t, w] := by rw [hσ2]; exact push_new _ _
    have b1 : decide (intB = [105, 110, 116]) = true := rfl
    unfold fitInt
    simp only [k41_a, WK, vop, evAll, evOpt, evParts, vbuiltin, vun, vextract, Nat.reduceLT, Nat.reduceEqDiff, ↓reduceIte, reduceCtorEq, Nat.reduceAdd, Int.reduceLT, Int.reduceNeg, valloc_std, noSB, vhot, List.getD_cons_zero, List.getD_cons_succ, vbox, vcells, ← hσ2, ofVal_str, strBin, b1, FV0, FV1, FV2, FV3, q2.kind, q2.num, q2.text, q2.list, hw.len]
    rcases (((Classical.em (k = 1)).elim (fun h0 => Or.inr ((Classical.em (t = [])).elim (fun h1 => Or.inr ((Classical.em ((l.length : Int) = 0)).elim (fun h2 => Or.inr (⟨h0, h1, h2⟩)) (fun h2 => Or.inl ⟨h0, h1, h2⟩))) (fun h1 => Or.inl ⟨h0, h1⟩))) (fun h0 => Or.inl h0)) : (¬ (k = 1) ∨ (k = 1) ∧ ¬ (t = []) ∨ (k = 1) ∧ (t = []) ∧ ¬ ((l.length : Int) = 0) ∨ (k = 1) ∧ (t = []) ∧ ((l.length : Int) = 0))) with h | h | h | h <;>
    · simp only [k41_a, WK, vop, evAll, evOpt, evParts, vbuiltin, vun, vextract, Nat.reduceLT, Nat.reduceEqDiff, ↓reduceIte, reduceCtorEq, Nat.reduceAdd, Int.reduceLT, Int.reduceNeg, valloc_std, noSB, vhot, List.getD_cons_zero, List.getD_cons_succ, ofVal_str, strBin, FV0, FV1, FV2, FV3, q2.kind, q2.num, q2.text, q2.list, hw.len, h, eq_self, Bool.true_and, Bool.false_and, Bool.and_true]
      exact hk2
  obtain ⟨q, σ', h1, rfl, h3⟩ := key
  exact ⟨σ', h1, h3⟩
theorem fits_bool : FitOk 41 boolB fitBool := by
  intro v c σ hwt ha
  have key : ∃ q σ', Does Try.prog prims 41 [.agg c, .str boolB] σ q σ' ∧ q = .ret (.bool (fitBool v)) ∧ Keep σ σ' := by
    obtain ⟨k, n, t, l, w, rfl, rfl, hw, ik, im⟩ := ha.inv
    apply k41_is.does (by simp)
    obtain ⟨σ2, hσ2⟩ : ∃ σ2 : St, σ2 = ⟨σ.objs ++ [Ob.cells [.int .i64 k, .int .i64 n, .str t, w]], σ.toks⟩ := ⟨_, rfl⟩
    have hk2 : Keep σ σ2 := by rw [hσ2]; exact (Keep.refl σ).push _
    have q2 : IsV σ2 σ.objs.length [.int .i64 k, .int .i64 n, .str t, w] := by rw [hσ2]; exact push_new _ _
    have b1 : decide (boolB = [105, 110, 116]) = false := rfl
    have b2 : decide (boolB = [98, 111, 111, 108]) = true := rfl
    have e10 : ((1 : Int) = 0) = False := eq_false (by decide)
    unfold fitBool
    simp only [k41_a, WK, vop, evAll, evOpt, evParts, vbuiltin, vun, vextract, Nat.reduceLT, Nat.reduceEqDiff, ↓reduceIte, reduceCtorEq, Nat.reduceAdd, Int.reduceLT, Int.reduceNeg, valloc_std, noSB, vhot, List.getD_cons_zero, List.getD_cons_succ, ofVal_str, strBin, FV0, FV1, FV2, FV3, q2.kind, q2.num, q2.text, q2.list, hw.len, vbox, vcells, ← hσ2, b1, b2]
    have hn : n = 0 ∨ (¬ n = 0 ∧ n = 1) ∨ (¬ n = 0 ∧ ¬ n = 1) := by omega
    rcases hn with hn | hn | hn <;>
    · rcases (((Classical.em (k = 2)).elim (fun h0 => Or.inr ((Classical.em (t = [])).elim (fun h1 => Or.inr ((Classical.em ((l.length : Int) = 0)).elim (fun h2 => Or.inr (⟨h0, h1, h2⟩)) (fun h2 => Or.inl ⟨h0, h1, h2⟩))) (fun h1 => Or.inl ⟨h0, h1⟩))) (fun h0 => Or.inl h0)) : (¬ (k = 2) ∨ (k = 2) ∧ ¬ (t = []) ∨ (k = 2) ∧ (t = []) ∧ ¬ ((l.length : Int) = 0) ∨ (k = 2) ∧ (t = []) ∧ ((l.length : Int) = 0))) with h | h | h | h <;>
      · simp only [k41_a, WK, vop, evAll, evOpt, evParts, vbuiltin, vun, vextract, Nat.reduceLT, Nat.reduceEqDiff, ↓reduceIte, reduceCtorEq, Nat.reduceAdd, Int.reduceLT, Int.reduceNeg, valloc_std, noSB, vhot, List.getD_cons_zero, List.getD_cons_succ, ofVal_str, strBin, FV0, FV1, FV2, FV3, q2.kind, q2.num, q2.text, q2.list, hw.len, h, hn, e10, eq_self, Bool.true_and, Bool.false_and, Bool.and_true, Bool.or_true, Bool.or_false, Bool.true_or, Bool.false_or]
        exact hk2
  obtain ⟨q, σ', h1, rfl, h3⟩ := key
  exact ⟨σ', h1, h3⟩
theorem fits_text : FitOk 41 textB fitText := by
  intro v c σ hwt ha
  have key : ∃ q σ', Does Try.prog prims 41 [.agg c, .str textB] σ q σ' ∧ q = .ret (.bool (fitText v)) ∧ Keep σ σ' := by
    obtain ⟨k, n, t, l, w, rfl, rfl, hw, ik, im⟩ := ha.inv
    apply k41_is.does (by simp)
    obtain ⟨σ2, hσ2⟩ : ∃ σ2 : St, σ2 = ⟨σ.objs ++ [Ob.cells [.int .i64 k, .int .i64 n, .str t, w]], σ.toks⟩ := ⟨_, rfl⟩
    have hk2 : Keep σ σ2 := by rw [hσ2]; exact (Keep.refl σ).push _
    have q2 : IsV σ2 σ.objs.length [.int .i64 k, .int .i64 n, .str t, w] := by rw [hσ2]; exact push_new _ _
    have b1 : decide (textB = [105, 110, 116]) = false := rfl
    have b2 : decide (textB = [98, 111, 111, 108]) = false := rfl
    have b3 : decide (textB = [116, 101, 120, 116]) = true := rfl
    unfold fitText
    simp only [k41_a, WK, vop, evAll, evOpt, evParts, vbuiltin, vun, vextract, Nat.reduceLT, Nat.reduceEqDiff, ↓reduceIte, reduceCtorEq, Nat.reduceAdd, Int.reduceLT, Int.reduceNeg, valloc_std, noSB, vhot, List.getD_cons_zero, List.getD_cons_succ, ofVal_str, strBin, FV0, FV1, FV2, FV3, q2.kind, q2.num, q2.text, q2.list, hw.len, vbox, vcells, ← hσ2, b1, b2, b3]
    rcases (((Classical.em (n = 0)).elim (fun h0 => Or.inr ((Classical.em (k = 3)).elim (fun h1 => Or.inr ((Classical.em ((t.length : Int) ≤ 256)).elim (fun h2 => Or.inr ((Classical.em ((l.length : Int) = 0)).elim (fun h3 => Or.inr (⟨h0, h1, h2, h3⟩)) (fun h3 => Or.inl ⟨h0, h1, h2, h3⟩))) (fun h2 => Or.inl ⟨h0, h1, h2⟩))) (fun h1 => Or.inl ⟨h0, h1⟩))) (fun h0 => Or.inl h0)) : (¬ (n = 0) ∨ (n = 0) ∧ ¬ (k = 3) ∨ (n = 0) ∧ (k = 3) ∧ ¬ ((t.length : Int) ≤ 256) ∨ (n = 0) ∧ (k = 3) ∧ ((t.length : Int) ≤ 256) ∧ ¬ ((l.length : Int) = 0) ∨ (n = 0) ∧ (k = 3) ∧ ((t.length : Int) ≤ 256) ∧ ((l.length : Int) = 0))) with h | h | h | h | h <;>
    · simp only [k41_a, WK, vop, evAll, evOpt, evParts, vbuiltin, vun, vextract, Nat.reduceLT, Nat.reduceEqDiff, ↓reduceIte, reduceCtorEq, Nat.reduceAdd, Int.reduceLT, Int.reduceNeg, valloc_std, noSB, vhot, List.getD_cons_zero, List.getD_cons_succ, ofVal_str, strBin, FV0, FV1, FV2, FV3, q2.kind, q2.num, q2.text, q2.list, hw.len, vlen_str T9, h, b1, b2, b3, eq_self, Bool.true_and, Bool.false_and, Bool.and_true]
      exact hk2
  obtain ⟨q, σ', h1, rfl, h3⟩ := key
  exact ⟨σ', h1, h3⟩
/-! ### All parts of a list -/
def IsS (σ : St) (p : Nat) (s : List UInt8) : Prop := σ.objs[p]? = some (.cells [.str s])
theorem IsS.load {σ : St} {p : Nat} {s : List UInt8} (h : IsS σ p s) : vload Try.prog σ.objs 9 (.optr p 0) = some (.str s) := by rw [vload_obj h G9]; rfl
theorem clos_does {s : List UInt8} {f : Val → Bool} (H : FitOk 41 s f) {v : Val} {c : List V} {σ : St} {p : Nat} (hp : IsS σ p s) (hwt : weight v ≤ 4294967296) (ha : ValC v c) : ∃ σ', Does Try.prog prims 60 [.agg c, .optr p 0] σ (.ret (.bool (!f v))) σ' ∧ Keep σ σ' := by
  obtain ⟨s1, hs1⟩ : ∃ s1 : St, s1 = ⟨σ.objs ++ [Ob.cells c], σ.toks⟩ := ⟨_, rfl⟩
  have k1 : Keep σ s1 := by rw [hs1]; exact (Keep.refl σ).push _
  have q1 : IsV s1 σ.objs.length c := by rw [hs1]; exact push_new _ _
  have p1 : IsS s1 p s := k1.1 _ _ hp
  obtain ⟨s2, d2, k2⟩ := H v c s1 hwt ha
  refine ⟨s2, ?_, k1.trans k2⟩
  apply k60_is.ret (by simp)
  simp only [k60_a, WK, vop, evAll, evOpt, evParts, vbuiltin, vun, vextract, Nat.reduceLT, Nat.reduceEqDiff, ↓reduceIte, reduceCtorEq, Nat.reduceAdd, Int.reduceLT, Int.reduceNeg, valloc_std, noSB, vhot, List.getD_cons_zero, List.getD_cons_succ, vbox, vcells, ← hs1, q1.load ha.len, p1.load]
  refine KD.ret d2 ?_
  simp only [k60_a, WK, vop, evAll, evOpt, evParts, vbuiltin, vun, vextract, Nat.reduceLT, Nat.reduceEqDiff, ↓reduceIte, reduceCtorEq, Nat.reduceAdd, Int.reduceLT, Int.reduceNeg, valloc_std, noSB, vhot]
def I92 (σ0 : St) (f : Val → Bool) (l : List Val) : Nat → (Nat → V) → St → Prop := fun i e σ => e 8 = .int .i64 i ∧ i ≤ l.length ∧ (l.take i).all f = true ∧ Keep σ0 σ
theorem all_take_succ {f : Val → Bool} {l : List Val} {i : Nat} (h : i < l.length) : (l.take (i + 1)).all f = ((l.take i).all f && f l[i]) := by
  rw [List.take_succ_eq_append_getElem h, List.all_append]
  simp
theorem all_false {f : Val → Bool} {l : List Val} {i : Nat} (h : i < l.length) (hf : f l[i] = false) : l.all f = false := by
  rw [← Bool.not_eq_true, List.all_eq_true]
  intro h2
  have := h2 _ (List.getElem_mem h)
  rw [hf] at this
  cases this
theorem indexfunc_does {s : List UInt8} {f : Val → Bool} (H : FitOk 41 s f) {σ : St} {p : Nat} (hp : IsS σ p s) (hwt : weights l ≤ 4294967296) (hw : ValsW l w) : ∃ (i : Int) (σ' : St), Does Try.prog prims 70 [w, .func 60 [.optr p 0]] σ (.ret (.int .i64 i)) σ' ∧ Keep σ σ' ∧ decide (0 ≤ i) = !(l.all f) := by
  have key : ∃ q σ', Does Try.prog prims 70 [w, .func 60 [.optr p 0]] σ q σ' ∧ ∃ i : Int, q = .ret (.int .i64 i) ∧ Keep σ σ' ∧ decide (0 ≤ i) = !(l.all f) := by
    apply k70_is.does (by simp)
    simp only [k70_a, WK, vop, evAll, evOpt, evParts, vbuiltin, vun, vextract, Nat.reduceLT, Nat.reduceEqDiff, ↓reduceIte, reduceCtorEq, Nat.reduceAdd, Int.reduceLT, Int.reduceNeg, valloc_std, noSB, vhot, List.getD_cons_zero, List.getD_cons_succ, hw.len]
    have hll := weights_len l
    refine Ev.loopF (I92 σ f l) (fun i => l.length - i) 0 ⟨by simp [upd_some], by simp, by simp, Keep.refl σ⟩ ?_
    rintro i e σ1 ⟨h8, hi, hall, hk⟩ hf
    have h7 : e 7 = .int .i64 l.length := (hf 7 (by decide)).trans (by simp [upd_some])
    have h0 : e 0 = w := (hf 0 (by decide)).trans (by simp [upd_some])
    have h1 : e 1 = .func 60 [.optr p 0] := (hf 1 (by decide)).trans (by simp [upd_some])
    clear hf
    by_cases hlt : i < l.length
    · have hlt' : (i : Int) < l.length := by omega
      have hwi : IntKind.i64.wrap ((i : Int) + 1) = ((i + 1 : Nat) : Int) := by rw [show ((i : Int) + 1) = ((i + 1 : Nat) : Int) from by omega]; exact wrap_nat (by omega)
      obtain ⟨cs, c, ha0, hld, hc⟩ := hw.get hlt
      have hmem := weights_mem (List.getElem_mem hlt)
      obtain ⟨s3, d3, k3⟩ := clos_does H (v := l[i]) (hk.1 _ _ hp) (by omega) hc
      simp only [k70_a, WK, vop, evAll, evOpt, evParts, vbuiltin, vun, vextract, Nat.reduceLT, Nat.reduceEqDiff, ↓reduceIte, reduceCtorEq, Nat.reduceAdd, Int.reduceLT, Int.reduceNeg, valloc_std, noSB, vhot, h0, h1, h7, h8, hlt', ha0, hld]
      refine KD.ret d3 ?_
      cases hfl : f l[i] with
      | true =>
        simp only [k70_a, WK, vop, evAll, evOpt, evParts, vbuiltin, vun, vextract, Nat.reduceLT, Nat.reduceEqDiff, ↓reduceIte, reduceCtorEq, Nat.reduceAdd, Int.reduceLT, Int.reduceNeg, valloc_std, noSB, vhot, h8, hwi]
        exact ⟨i + 1, ⟨by simp [upd_some], hlt, by rw [all_take_succ hlt, hall, hfl]; rfl, hk.trans k3⟩, by omega⟩
      | false =>
        simp only [k70_a, WK, vop, evAll, evOpt, evParts, vbuiltin, vun, vextract, Nat.reduceLT, Nat.reduceEqDiff, ↓reduceIte, reduceCtorEq, Nat.reduceAdd, Int.reduceLT, Int.reduceNeg, valloc_std, noSB, vhot, h8]
        exact ⟨_, rfl, hk.trans k3, by rw [all_false hlt hfl]; simp⟩
    · have hlt' : ¬ (i : Int) < l.length := by omega
      simp only [k70_a, WK, vop, evAll, evOpt, evParts, vbuiltin, vun, vextract, Nat.reduceLT, Nat.reduceEqDiff, ↓reduceIte, reduceCtorEq, Nat.reduceAdd, Int.reduceLT, Int.reduceNeg, valloc_std, noSB, vhot, h7, h8, hlt']
      rw [List.take_of_length_le (by omega)] at hall
      exact ⟨_, rfl, hk, by rw [hall]; rfl⟩
  obtain ⟨q, σ', h1, i, rfl, h3, h4⟩ := key
  exact ⟨i, σ', h1, h3, h4⟩
theorem containsfunc_does {s : List UInt8} {f : Val → Bool} (H : FitOk 41 s f) {σ : St} {p : Nat} (hp : IsS σ p s) (hwt : weights l ≤ 4294967296) (hw : ValsW l w) : ∃ (σ' : St), Does Try.prog prims 59 [w, .func 60 [.optr p 0]] σ (.ret (.bool (!(l.all f)))) σ' ∧ Keep σ σ' := by
  obtain ⟨i, s2, d2, k2, hi⟩ := indexfunc_does H hp hwt hw
  refine ⟨s2, ?_, k2⟩
  apply k59_is.ret (by simp)
  simp only [k59_a, WK, vop, evAll, evOpt, evParts, vbuiltin, vun, vextract, Nat.reduceLT, Nat.reduceEqDiff, ↓reduceIte, reduceCtorEq, Nat.reduceAdd, Int.reduceLT, Int.reduceNeg, valloc_std, noSB, vhot, List.getD_cons_zero, List.getD_cons_succ]
  refine KD.ret d2 ?_
  simp only [k59_a, WK, vop, evAll, evOpt, evParts, vbuiltin, vun, vextract, Nat.reduceLT, Nat.reduceEqDiff, ↓reduceIte, reduceCtorEq, Nat.reduceAdd, Int.reduceLT, Int.reduceNeg, valloc_std, noSB, vhot, hi]
theorem tyS_list {e : Ty} (h : tyD (.list e) ≤ 4) : listS (tyB (.list e)) = tyB e ∧ isListS (tyB (.list e)) = true := by
  have := tyS_iff.2 ⟨rfl, h⟩
  exact ⟨by rw [listS, this], by rw [isListS, this]⟩
theorem tyS_mapI {e : Ty} (h : tyD (.mapI e) ≤ 4) : listS (tyB (.mapI e)) = [] ∧ isListS (tyB (.mapI e)) = false ∧ keyS (tyB (.mapI e)) = intB ∧ valS (tyB (.mapI e)) = tyB e ∧ isMapS (tyB (.mapI e)) = true := by
  have := tyS_iff.2 ⟨rfl, h⟩
  exact ⟨by rw [listS, this], by rw [isListS, this], by rw [keyS, this], by rw [valS, this], by rw [isMapS, this]⟩
theorem tyS_mapT {e : Ty} (h : tyD (.mapT e) ≤ 4) : listS (tyB (.mapT e)) = [] ∧ isListS (tyB (.mapT e)) = false ∧ keyS (tyB (.mapT e)) = textB ∧ valS (tyB (.mapT e)) = tyB e ∧ isMapS (tyB (.mapT e)) = true := by
  have := tyS_iff.2 ⟨rfl, h⟩
  exact ⟨by rw [listS, this], by rw [isListS, this], by rw [keyS, this], by rw [valS, this], by rw [isMapS, this]⟩
theorem ZS9 : zeroT Try.prog 9 = some (.str []) := by kernel_rfl
theorem fits_list {e : Ty} (hT : tyD (.list e) ≤ 4) (H : FitOk 41 (tyB e) (fitsT e)) : FitOk 41 (tyB (.list e)) (fitList (fitsT e)) := by
  intro v c σ hwt ha
  have key : ∃ q σ', Does Try.prog prims 41 [.agg c, .str (tyB (.list e))] σ q σ' ∧ q = .ret (.bool (fitList (fitsT e) v)) ∧ Keep σ σ' := by
    obtain ⟨k, n, t, l, w, rfl, rfl, hw, ik, im⟩ := ha.inv
    apply k41_is.does (by simp)
    obtain ⟨σ2, hσ2⟩ : ∃ σ2 : St, σ2 = ⟨σ.objs ++ [Ob.cells [.int .i64 k, .int .i64 n, .str t, w]], σ.toks⟩ := ⟨_, rfl⟩
    have hk2 : Keep σ σ2 := by rw [hσ2]; exact (Keep.refl σ).push _
    have q2 : IsV σ2 σ.objs.length [.int .i64 k, .int .i64 n, .str t, w] := by rw [hσ2]; exact push_new _ _
    have b1 : decide (tyB (.list e) = [105, 110, 116]) = false := by simp [tyB]
    have b2 : decide (tyB (.list e) = [98, 111, 111, 108]) = false := by simp [tyB]
    have b3 : decide (tyB (.list e) = [116, 101, 120, 116]) = false := by simp [tyB]
    have hlen := tyB_len (.list e)
    rw [weight] at hwt
    unfold fitList
    simp only [k41_a, WK, vop, evAll, evOpt, evParts, vbuiltin, vun, vextract, Nat.reduceLT, Nat.reduceEqDiff, ↓reduceIte, reduceCtorEq, Nat.reduceAdd, Int.reduceLT, Int.reduceNeg, valloc_std, noSB, vhot, List.getD_cons_zero, List.getD_cons_succ, ofVal_str, strBin, FV0, FV1, FV2, FV3, q2.kind, q2.num, q2.text, q2.list, hw.len, vbox, vcells, ← hσ2, b1, b2, b3]
    obtain ⟨g1, g2⟩ := tyS_list hT
    have hd := vlist_does (tyB (.list e)) (by omega) σ2
    rw [g1, g2] at hd
    rcases (((Classical.em (n = 0)).elim (fun h0 => Or.inr ((Classical.em (t = [])).elim (fun h1 => Or.inr (⟨h0, h1⟩)) (fun h1 => Or.inl ⟨h0, h1⟩))) (fun h0 => Or.inl h0)) : (¬ (n = 0) ∨ (n = 0) ∧ ¬ (t = []) ∨ (n = 0) ∧ (t = []))) with h | h | h
    · simp only [k41_a, WK, vop, evAll, evOpt, evParts, vbuiltin, vun, vextract, Nat.reduceLT, Nat.reduceEqDiff, ↓reduceIte, reduceCtorEq, Nat.reduceAdd, Int.reduceLT, Int.reduceNeg, valloc_std, noSB, vhot, List.getD_cons_zero, List.getD_cons_succ, ofVal_str, strBin, FV0, FV1, FV2, FV3, q2.kind, q2.num, q2.text, q2.list, hw.len, h, b1, b2, b3, eq_self, Bool.true_and, Bool.false_and, Bool.and_true]
      exact hk2
    · simp only [k41_a, WK, vop, evAll, evOpt, evParts, vbuiltin, vun, vextract, Nat.reduceLT, Nat.reduceEqDiff, ↓reduceIte, reduceCtorEq, Nat.reduceAdd, Int.reduceLT, Int.reduceNeg, valloc_std, noSB, vhot, List.getD_cons_zero, List.getD_cons_succ, ofVal_str, strBin, FV0, FV1, FV2, FV3, q2.kind, q2.num, q2.text, q2.list, hw.len, h, b1, b2, b3, eq_self, Bool.true_and, Bool.false_and, Bool.and_true]
      exact hk2
    · simp only [k41_a, WK, vop, evAll, evOpt, evParts, vbuiltin, vun, vextract, Nat.reduceLT, Nat.reduceEqDiff, ↓reduceIte, reduceCtorEq, Nat.reduceAdd, Int.reduceLT, Int.reduceNeg, valloc_std, noSB, vhot, List.getD_cons_zero, List.getD_cons_succ, ofVal_str, strBin, FV0, FV1, FV2, FV3, q2.kind, q2.num, q2.text, q2.list, hw.len, h, b1, b2, b3, eq_self, Bool.true_and, Bool.false_and, Bool.and_true]
      refine KD.ret hd ?_
      obtain ⟨s3, hs3⟩ : ∃ s3 : St, s3 = ⟨(σ2.objs ++ [Ob.cells [.str []]]).set σ2.objs.length (Ob.cells [.str (tyB e)]), σ2.toks⟩ := ⟨_, rfl⟩
      have k3 : Keep σ2 s3 := by rw [hs3]; exact ((Keep.refl σ2).push _).setNew (Nat.le_refl _) _
      have p3 : IsS s3 σ2.objs.length (tyB e) := by rw [hs3]; exact obj_set (push_new _ _)
      have hst : vstore Try.prog ⟨σ2.objs ++ [Ob.cells [.str []]], σ2.toks⟩ 9 (.optr σ2.objs.length 0) (.str (tyB e)) = some s3 := by
        rw [hs3]
        have h0 : (⟨σ2.objs ++ [Ob.cells [V.str []]], σ2.toks⟩ : St).objs[σ2.objs.length]? = some (.cells [.str []]) := push_new _ _
        exact vstore_obj h0 S9 rfl (by simp)
      have q3 := k3.atV q2
      simp only [k41_a, WK, vop, evAll, evOpt, evParts, vbuiltin, vun, vextract, Nat.reduceLT, Nat.reduceEqDiff, ↓reduceIte, reduceCtorEq, Nat.reduceAdd, Int.reduceLT, Int.reduceNeg, valloc_std, noSB, vhot, List.getD_cons_zero, List.getD_cons_succ, ofVal_str, strBin, FV0, FV1, FV2, FV3, q2.kind, q2.num, q2.text, q2.list, hw.len, ZS9, vbox, vcells, hst]
      have W3 := hwt
      obtain ⟨s4, d4, k4⟩ := containsfunc_does H p3 (l := l) (w := w) (by omega) hw
      simp only [q3.kind, FV0, WK, vop, evAll, evOpt, evParts, vbuiltin, vun, vextract, Nat.reduceLT, Nat.reduceEqDiff, ↓reduceIte, reduceCtorEq, Nat.reduceAdd, Int.reduceLT, Int.reduceNeg, valloc_std, noSB, vhot]
      rcases (((Classical.em (k = 4)).elim (fun h0 => Or.inr ((Classical.em ((l.length : Int) ≤ 64)).elim (fun h1 => Or.inr (⟨h0, h1⟩)) (fun h1 => Or.inl ⟨h0, h1⟩))) (fun h0 => Or.inl h0)) : (¬ (k = 4) ∨ (k = 4) ∧ ¬ ((l.length : Int) ≤ 64) ∨ (k = 4) ∧ ((l.length : Int) ≤ 64))) with hh | hh | hh
      · simp only [k41_a, WK, vop, evAll, evOpt, evParts, vbuiltin, vun, vextract, Nat.reduceLT, Nat.reduceEqDiff, ↓reduceIte, reduceCtorEq, Nat.reduceAdd, Int.reduceLT, Int.reduceNeg, valloc_std, noSB, vhot, FV0, FV3, q3.list, hw.len, hh, eq_self, Bool.true_and, Bool.false_and, Bool.and_true]
        exact hk2.trans k3
      · simp only [k41_a, WK, vop, evAll, evOpt, evParts, vbuiltin, vun, vextract, Nat.reduceLT, Nat.reduceEqDiff, ↓reduceIte, reduceCtorEq, Nat.reduceAdd, Int.reduceLT, Int.reduceNeg, valloc_std, noSB, vhot, FV0, FV3, q3.list, hw.len, hh, eq_self, Bool.true_and, Bool.false_and, Bool.and_true]
        exact hk2.trans k3
      · simp only [k41_a, WK, vop, evAll, evOpt, evParts, vbuiltin, vun, vextract, Nat.reduceLT, Nat.reduceEqDiff, ↓reduceIte, reduceCtorEq, Nat.reduceAdd, Int.reduceLT, Int.reduceNeg, valloc_std, noSB, vhot, FV0, FV3, q3.list, hw.len, hh, eq_self, Bool.true_and, Bool.false_and, Bool.and_true]
        refine KD.ret d4 ?_
        simp only [k41_a, WK, vop, evAll, evOpt, evParts, vbuiltin, vun, vextract, Nat.reduceLT, Nat.reduceEqDiff, ↓reduceIte, reduceCtorEq, Nat.reduceAdd, Int.reduceLT, Int.reduceNeg, valloc_std, noSB, vhot, Bool.not_not]
        exact (hk2.trans k3).trans k4
  obtain ⟨q, σ', h1, rfl, h3⟩ := key
  exact ⟨σ', h1, h3⟩
theorem idx_wrap {i : Nat} (h : i + 1 ≤ 4294967296) : IntKind.i64.wrap ((i : Int) + 1) = ((i + 1 : Nat) : Int) := by rw [wrap_i64 (by omega) (by omega)]; omega
theorem idx_wrap2 {i : Nat} (h : 2 ≤ i) (h2 : i ≤ 4294967296) : IntKind.i64.wrap ((i : Int) - 2) = ((i - 2 : Nat) : Int) := by rw [wrap_i64 (by omega) (by omega)]; omega
theorem pair_step {ks vs : List UInt8} {fk fv : Val → Bool} (Hk : FitOk 41 ks fk) (Hv : FitOk 41 vs fv) {e : Nat → V} {σ : St} {q i : Nat} (hw : ValsW l w) (hwt : weights l ≤ 4294967295) (hi : i + 1 < l.length) (hev : i % 2 = 0)
    (h2 : e 2 = .optr q 0) (h7 : e 7 = .str ks) (h8 : e 8 = .str vs) (h10 : e 10 = .int .i64 i) (hq : IsV σ q [.int .i64 k, .int .i64 n, .str t, w]) :
    Ev Try.prog prims 175 (.region k41_r18) e σ (fun x e' σ' => x = .normal ∧ Keep σ σ' ∧ e' 174 = .bool (!(okAt fk fv l i && okAt fk fv l (i + 1)))) := by
  have hll := weights_len l
  have hi0 : i < l.length := by omega
  obtain ⟨csA, cA, haA, hldA, hcA⟩ := hw.get hi0
  obtain ⟨csB, cB, haB, hldB, hcB⟩ := hw.get hi
  have hmA := weights_mem (List.getElem_mem hi0)
  have hmB := weights_mem (List.getElem_mem hi)
  obtain ⟨s1, d1, k1⟩ := Hk l[i] cA σ (by omega) hcA
  obtain ⟨s2, d2, k2⟩ := Hv l[i + 1] cB s1 (by omega) hcB
  have q1 := k1.atV hq
  have q2 := k2.atV q1
  have w1 := idx_wrap (i := i) (by omega)
  rw [okAt_odd hi (by omega)]
  by_cases i0 : i = 0
  · subst i0
    rw [okAt_even0 hi0]
    have z0 : ((0 : Nat) : Int) = 0 := rfl
    simp only [(oE k41_r18.eq_1), WK, vop, evAll, evOpt, evParts, vbuiltin, vun, vextract, Nat.reduceLT, Nat.reduceEqDiff, ↓reduceIte, reduceCtorEq, Nat.reduceAdd, Int.reduceLT, Int.reduceNeg, valloc_std, noSB, vhot, h2, h7, h8, h10, FV3, hq.list, haA, hldA]
    refine KD.ret d1 ?_
    cases hA : fk l[0] with
    | false =>
      simp only [(oE k41_r18.eq_1), WK, vop, evAll, evOpt, evParts, vbuiltin, vun, vextract, Nat.reduceLT, Nat.reduceEqDiff, ↓reduceIte, reduceCtorEq, Nat.reduceAdd, Int.reduceLT, Int.reduceNeg, valloc_std, noSB, vhot, h2, h7, h8, h10, FV3, Bool.false_and]
      exact k1
    | true =>
      simp only [(oE k41_r18.eq_1), WK, vop, evAll, evOpt, evParts, vbuiltin, vun, vextract, Nat.reduceLT, Nat.reduceEqDiff, ↓reduceIte, reduceCtorEq, Nat.reduceAdd, Int.reduceLT, Int.reduceNeg, valloc_std, noSB, vhot, h2, h7, h8, h10, FV3, q1.list, w1, haB, hldB]
      refine KD.ret d2 ?_
      cases hB : fv l[0 + 1] with
      | false =>
        simp only [(oE k41_r18.eq_1), WK, vop, evAll, evOpt, evParts, vbuiltin, vun, vextract, Nat.reduceLT, Nat.reduceEqDiff, ↓reduceIte, reduceCtorEq, Nat.reduceAdd, Int.reduceLT, Int.reduceNeg, valloc_std, noSB, vhot, h2, h7, h8, h10, FV3, Bool.true_and]
        exact k1.trans k2
      | true =>
        simp only [(oE k41_r18.eq_1), WK, vop, evAll, evOpt, evParts, vbuiltin, vun, vextract, Nat.reduceLT, Nat.reduceEqDiff, ↓reduceIte, reduceCtorEq, Nat.reduceAdd, Int.reduceLT, Int.reduceNeg, valloc_std, noSB, vhot, h2, h7, h8, h10, FV3, Bool.true_and, z0, Int.lt_irrefl]
        exact k1.trans k2
  · have hi2 : 2 ≤ i := by omega
    rw [okAt_even hi0 hev hi2]
    have w2 := idx_wrap2 hi2 (by omega)
    have hi3 : i - 2 < l.length := by omega
    obtain ⟨csC, cC, haC, hldC, hcC⟩ := hw.get hi3
    have hmC := weights_mem (List.getElem_mem hi3)
    obtain ⟨s4, d4, k4⟩ := compare_does (a := l[i - 2]) (b := l[i]) s2 (by omega) hcC hcA
    have hpos : (0 : Int) < (i : Int) := by omega
    simp only [(oE k41_r18.eq_1), WK, vop, evAll, evOpt, evParts, vbuiltin, vun, vextract, Nat.reduceLT, Nat.reduceEqDiff, ↓reduceIte, reduceCtorEq, Nat.reduceAdd, Int.reduceLT, Int.reduceNeg, valloc_std, noSB, vhot, h2, h7, h8, h10, FV3, hq.list, haA, hldA]
    refine KD.ret d1 ?_
    cases hA : fk l[i] with
    | false =>
      simp only [(oE k41_r18.eq_1), WK, vop, evAll, evOpt, evParts, vbuiltin, vun, vextract, Nat.reduceLT, Nat.reduceEqDiff, ↓reduceIte, reduceCtorEq, Nat.reduceAdd, Int.reduceLT, Int.reduceNeg, valloc_std, noSB, vhot, h2, h7, h8, h10, FV3, Bool.false_and]
      exact k1
    | true =>
      simp only [(oE k41_r18.eq_1), WK, vop, evAll, evOpt, evParts, vbuiltin, vun, vextract, Nat.reduceLT, Nat.reduceEqDiff, ↓reduceIte, reduceCtorEq, Nat.reduceAdd, Int.reduceLT, Int.reduceNeg, valloc_std, noSB, vhot, h2, h7, h8, h10, FV3, q1.list, w1, haB, hldB]
      refine KD.ret d2 ?_
      cases hB : fv l[i + 1] with
      | false =>
        simp only [(oE k41_r18.eq_1), WK, vop, evAll, evOpt, evParts, vbuiltin, vun, vextract, Nat.reduceLT, Nat.reduceEqDiff, ↓reduceIte, reduceCtorEq, Nat.reduceAdd, Int.reduceLT, Int.reduceNeg, valloc_std, noSB, vhot, h2, h7, h8, h10, FV3, Bool.and_false]
        exact k1.trans k2
      | true =>
        simp only [(oE k41_r18.eq_1), WK, vop, evAll, evOpt, evParts, vbuiltin, vun, vextract, Nat.reduceLT, Nat.reduceEqDiff, ↓reduceIte, reduceCtorEq, Nat.reduceAdd, Int.reduceLT, Int.reduceNeg, valloc_std, noSB, vhot, h2, h7, h8, h10, FV3, hpos, q2.list, w2, haC, hldC, haA, hldA]
        refine KD.ret d4 ?_
        by_cases hc : cmpV l[i - 2] l[i] < 0
        · have hc' : ¬ (0 : Int) ≤ cmpV l[i - 2] l[i] := by omega
          simp only [(oE k41_r18.eq_1), WK, vop, evAll, evOpt, evParts, vbuiltin, vun, vextract, Nat.reduceLT, Nat.reduceEqDiff, ↓reduceIte, reduceCtorEq, Nat.reduceAdd, Int.reduceLT, Int.reduceNeg, valloc_std, noSB, vhot, h2, h7, h8, h10, FV3, hc, hc', Bool.true_and, Bool.and_true]
          exact (k1.trans k2).trans k4
        · have hc' : (0 : Int) ≤ cmpV l[i - 2] l[i] := by omega
          simp only [(oE k41_r18.eq_1), WK, vop, evAll, evOpt, evParts, vbuiltin, vun, vextract, Nat.reduceLT, Nat.reduceEqDiff, ↓reduceIte, reduceCtorEq, Nat.reduceAdd, Int.reduceLT, Int.reduceNeg, valloc_std, noSB, vhot, h2, h7, h8, h10, FV3, hc, hc', Bool.true_and, Bool.and_true]
          exact (k1.trans k2).trans k4
def I54 (σ0 : St) (fk fv : Val → Bool) (l : List Val) : Nat → (Nat → V) → St → Prop := fun i e σ => e 10 = .int .i64 i ∧ i ≤ l.length ∧ i % 2 = 0 ∧ (∀ j, j < i → okAt fk fv l j = true) ∧ Keep σ0 σ
theorem fits_map {T : Ty} {ks vs : List UInt8} {fk fv : Val → Bool} (hT : tyD T ≤ 4) (hls : listS (tyB T) = [] ∧ isListS (tyB T) = false ∧ keyS (tyB T) = ks ∧ valS (tyB T) = vs ∧ isMapS (tyB T) = true)
    (b1 : decide (tyB T = [105, 110, 116]) = false) (b2 : decide (tyB T = [98, 111, 111, 108]) = false) (b3 : decide (tyB T = [116, 101, 120, 116]) = false)
    (Hk : FitOk 41 ks fk) (Hv : FitOk 41 vs fv) : FitOk 41 (tyB T) (fitMap fk fv) := by
  intro v c σ hwt ha
  have key : ∃ q σ', Does Try.prog prims 41 [.agg c, .str (tyB T)] σ q σ' ∧ q = .ret (.bool (fitMap fk fv v)) ∧ Keep σ σ' := by
    obtain ⟨k, n, t, l, w, rfl, rfl, hw, ik, im⟩ := ha.inv
    apply k41_is.does (by simp)
    obtain ⟨σ2, hσ2⟩ : ∃ σ2 : St, σ2 = ⟨σ.objs ++ [Ob.cells [.int .i64 k, .int .i64 n, .str t, w]], σ.toks⟩ := ⟨_, rfl⟩
    have hk2 : Keep σ σ2 := by rw [hσ2]; exact (Keep.refl σ).push _
    have q2 : IsV σ2 σ.objs.length [.int .i64 k, .int .i64 n, .str t, w] := by rw [hσ2]; exact push_new _ _
    have hlen := tyB_len T
    rw [weight] at hwt
    have hll := weights_len l
    unfold fitMap
    simp only [k41_a, WK, vop, evAll, evOpt, evParts, vbuiltin, vun, vextract, Nat.reduceLT, Nat.reduceEqDiff, ↓reduceIte, reduceCtorEq, Nat.reduceAdd, Int.reduceLT, Int.reduceNeg, valloc_std, noSB, vhot, List.getD_cons_zero, List.getD_cons_succ, ofVal_str, strBin, FV0, FV1, FV2, FV3, q2.kind, q2.num, q2.text, q2.list, hw.len, vbox, vcells, ← hσ2, b1, b2, b3]
    obtain ⟨g1, g2, g3, g4, g5⟩ := hls
    have hd := vlist_does (tyB T) (by omega) σ2
    rw [g1, g2] at hd
    obtain ⟨s3, hs3⟩ : ∃ s3 : St, s3 = ⟨(σ2.objs ++ [Ob.cells [.str []]]).set σ2.objs.length (Ob.cells [.str []]), σ2.toks⟩ := ⟨_, rfl⟩
    have k3 : Keep σ2 s3 := by rw [hs3]; exact ((Keep.refl σ2).push _).setNew (Nat.le_refl _) _
    have hst : vstore Try.prog ⟨σ2.objs ++ [Ob.cells [.str []]], σ2.toks⟩ 9 (.optr σ2.objs.length 0) (.str []) = some s3 := by
      rw [hs3]
      have h0 : (⟨σ2.objs ++ [Ob.cells [V.str []]], σ2.toks⟩ : St).objs[σ2.objs.length]? = some (.cells [.str []]) := push_new _ _
      exact vstore_obj h0 S9 rfl (by simp)
    have hm := vmap_does (tyB T) (by omega) s3
    rw [g3, g4, g5] at hm
    have q3 := k3.atV q2
    have ht : Int.tmod (l.length : Int) 2 = (l.length : Int) % 2 := Int.tmod_eq_emod_of_nonneg (by omega)
    have e20 : ((2 : Int) = 0) = False := eq_false (by decide)
    rcases (((Classical.em (n = 0)).elim (fun h0 => Or.inr ((Classical.em (t = [])).elim (fun h1 => Or.inr (⟨h0, h1⟩)) (fun h1 => Or.inl ⟨h0, h1⟩))) (fun h0 => Or.inl h0)) : (¬ (n = 0) ∨ (n = 0) ∧ ¬ (t = []) ∨ (n = 0) ∧ (t = []))) with h | h | h
    · simp only [k41_a, WK, vop, evAll, evOpt, evParts, vbuiltin, vun, vextract, Nat.reduceLT, Nat.reduceEqDiff, ↓reduceIte, reduceCtorEq, Nat.reduceAdd, Int.reduceLT, Int.reduceNeg, valloc_std, noSB, vhot, List.getD_cons_zero, List.getD_cons_succ, ofVal_str, strBin, FV0, FV1, FV2, FV3, q2.kind, q2.num, q2.text, q2.list, hw.len, h, b1, b2, b3, eq_self, Bool.true_and, Bool.false_and, Bool.and_true]
      exact hk2
    · simp only [k41_a, WK, vop, evAll, evOpt, evParts, vbuiltin, vun, vextract, Nat.reduceLT, Nat.reduceEqDiff, ↓reduceIte, reduceCtorEq, Nat.reduceAdd, Int.reduceLT, Int.reduceNeg, valloc_std, noSB, vhot, List.getD_cons_zero, List.getD_cons_succ, ofVal_str, strBin, FV0, FV1, FV2, FV3, q2.kind, q2.num, q2.text, q2.list, hw.len, h, b1, b2, b3, eq_self, Bool.true_and, Bool.false_and, Bool.and_true]
      exact hk2
    · simp only [k41_a, WK, vop, evAll, evOpt, evParts, vbuiltin, vun, vextract, Nat.reduceLT, Nat.reduceEqDiff, ↓reduceIte, reduceCtorEq, Nat.reduceAdd, Int.reduceLT, Int.reduceNeg, valloc_std, noSB, vhot, List.getD_cons_zero, List.getD_cons_succ, ofVal_str, strBin, FV0, FV1, FV2, FV3, q2.kind, q2.num, q2.text, q2.list, hw.len, h, b1, b2, b3, eq_self, Bool.true_and, Bool.false_and, Bool.and_true]
      refine KD.ret hd ?_
      simp only [k41_a, WK, vop, evAll, evOpt, evParts, vbuiltin, vun, vextract, Nat.reduceLT, Nat.reduceEqDiff, ↓reduceIte, reduceCtorEq, Nat.reduceAdd, Int.reduceLT, Int.reduceNeg, valloc_std, noSB, vhot, List.getD_cons_zero, List.getD_cons_succ, ofVal_str, strBin, ZS9, vbox, vcells, hst]
      refine KD.ret hm ?_
      simp only [k41_a, WK, vop, evAll, evOpt, evParts, vbuiltin, vun, vextract, Nat.reduceLT, Nat.reduceEqDiff, ↓reduceIte, reduceCtorEq, Nat.reduceAdd, Int.reduceLT, Int.reduceNeg, valloc_std, noSB, vhot, List.getD_cons_zero, List.getD_cons_succ, FV0, FV3, q3.kind, q3.list]
      rcases (((Classical.em (k = 5)).elim (fun h0 => Or.inr ((Classical.em ((l.length : Int) % 2 = 0)).elim (fun h1 => Or.inr ((Classical.em ((l.length : Int) ≤ 128)).elim (fun h2 => Or.inr (⟨h0, h1, h2⟩)) (fun h2 => Or.inl ⟨h0, h1, h2⟩))) (fun h1 => Or.inl ⟨h0, h1⟩))) (fun h0 => Or.inl h0)) : (¬ (k = 5) ∨ (k = 5) ∧ ¬ ((l.length : Int) % 2 = 0) ∨ (k = 5) ∧ ((l.length : Int) % 2 = 0) ∧ ¬ ((l.length : Int) ≤ 128) ∨ (k = 5) ∧ ((l.length : Int) % 2 = 0) ∧ ((l.length : Int) ≤ 128))) with hh | hh | hh | hh
      · simp only [k41_a, WK, vop, evAll, evOpt, evParts, vbuiltin, vun, vextract, Nat.reduceLT, Nat.reduceEqDiff, ↓reduceIte, reduceCtorEq, Nat.reduceAdd, Int.reduceLT, Int.reduceNeg, valloc_std, noSB, vhot, List.getD_cons_zero, List.getD_cons_succ, FV0, FV3, q3.list, hw.len, hh, eq_self, Bool.true_and, Bool.false_and, Bool.and_true]
        exact hk2.trans k3
      · simp only [k41_a, WK, vop, evAll, evOpt, evParts, vbuiltin, vun, vextract, Nat.reduceLT, Nat.reduceEqDiff, ↓reduceIte, reduceCtorEq, Nat.reduceAdd, Int.reduceLT, Int.reduceNeg, valloc_std, noSB, vhot, List.getD_cons_zero, List.getD_cons_succ, FV0, FV3, q3.list, hw.len, ht, e20, hh, eq_self, Bool.true_and, Bool.false_and, Bool.and_true]
        exact hk2.trans k3
      · have hgt : (128 : Int) < l.length := by omega
        simp only [k41_a, WK, vop, evAll, evOpt, evParts, vbuiltin, vun, vextract, Nat.reduceLT, Nat.reduceEqDiff, ↓reduceIte, reduceCtorEq, Nat.reduceAdd, Int.reduceLT, Int.reduceNeg, valloc_std, noSB, vhot, List.getD_cons_zero, List.getD_cons_succ, FV0, FV3, q3.list, hw.len, ht, e20, hh, hgt, eq_self, Bool.true_and, Bool.false_and, Bool.and_true]
        exact hk2.trans k3
      · have hgt : ¬ (128 : Int) < l.length := by omega
        have hev : l.length % 2 = 0 := by omega
        simp only [k41_a, WK, vop, evAll, evOpt, evParts, vbuiltin, vun, vextract, Nat.reduceLT, Nat.reduceEqDiff, ↓reduceIte, reduceCtorEq, Nat.reduceAdd, Int.reduceLT, Int.reduceNeg, valloc_std, noSB, vhot, List.getD_cons_zero, List.getD_cons_succ, FV0, FV3, q3.list, hw.len, ht, e20, hh, hgt, eq_self, Bool.true_and, Bool.false_and, Bool.and_true]
        refine Ev.loopF (I54 s3 fk fv l) (fun i => l.length - i) 0 ⟨by simp [upd_some], by simp, by simp, fun j hj => by omega, Keep.refl _⟩ ?_
        rintro i e σ1 ⟨h10, hi, hie, hall, hk⟩ hf
        have h2 : e 2 = .optr σ.objs.length 0 := (hf 2 (by decide)).trans (by simp [upd_some])
        have h7 : e 7 = .str ks := (hf 7 (by decide)).trans (by simp [upd_some])
        have h8 : e 8 = .str vs := (hf 8 (by decide)).trans (by simp [upd_some])
        clear hf
        have q4 := hk.atV q3
        by_cases hlt : i < l.length
        · have hlt' : (i : Int) < l.length := by omega
          have hwi : IntKind.i64.wrap ((i : Int) + 2) = ((i + 2 : Nat) : Int) := by rw [show ((i : Int) + 2) = ((i + 2 : Nat) : Int) from by omega]; exact wrap_nat (by omega)
          have hi1 : i + 1 < l.length := by omega
          simp only [(vE k41_l0.eq_1), (oE k41_r16.eq_1), WK, vop, evAll, evOpt, evParts, vbuiltin, vun, vextract, Nat.reduceLT, Nat.reduceEqDiff, ↓reduceIte, reduceCtorEq, Nat.reduceAdd, Int.reduceLT, Int.reduceNeg, valloc_std, noSB, vhot, h2, h10, FV3, q4.list, hw.len, hlt']
          rw [← Ev_region]
          refine Ev.cut (pair_step (t := t) (k := k) (n := n) Hk Hv hw (by omega) hi1 hie (q := σ.objs.length) (by simp [upd_some, h2]) (by simp [upd_some, h7]) (by simp [upd_some, h8]) (by simp [upd_some, h10]) (by exact q4)) ?_
          rintro x e' s5 ⟨rfl, k5, h174⟩ hwr
          have h10' : e' 10 = .int .i64 i := (hwr 10 (by decide)).trans (by simp [upd_some, h10])
          clear hwr
          cases hA : okAt fk fv l i with
          | false =>
            rw [hA] at h174
            simp only [(oE k41_r19.eq_1), WK, vop, evAll, evOpt, evParts, vbuiltin, vun, vextract, Nat.reduceLT, Nat.reduceEqDiff, ↓reduceIte, reduceCtorEq, Nat.reduceAdd, Int.reduceLT, Int.reduceNeg, valloc_std, noSB, vhot, h174, Bool.false_and]
            exact ⟨by rw [okAll_false hlt hA], (hk2.trans k3).trans (hk.trans k5)⟩
          | true =>
            cases hB : okAt fk fv l (i + 1) with
            | false =>
              rw [hA, hB] at h174
              simp only [(oE k41_r19.eq_1), WK, vop, evAll, evOpt, evParts, vbuiltin, vun, vextract, Nat.reduceLT, Nat.reduceEqDiff, ↓reduceIte, reduceCtorEq, Nat.reduceAdd, Int.reduceLT, Int.reduceNeg, valloc_std, noSB, vhot, h174, Bool.and_false]
              exact ⟨by rw [okAll_false hi1 hB], (hk2.trans k3).trans (hk.trans k5)⟩
            | true =>
              rw [hA, hB] at h174
              simp only [(oE k41_r17.eq_1), WK, vop, evAll, evOpt, evParts, vbuiltin, vun, vextract, Nat.reduceLT, Nat.reduceEqDiff, ↓reduceIte, reduceCtorEq, Nat.reduceAdd, Int.reduceLT, Int.reduceNeg, valloc_std, noSB, vhot, h174, Bool.and_true, h10', hwi]
              refine ⟨i + 2, ⟨by simp [upd_some], by omega, by omega, ?_, hk.trans k5⟩, by omega⟩
              intro j hj
              rcases Nat.lt_or_ge j i with h9 | h9
              · exact hall j h9
              · have : j = i ∨ j = i + 1 := by omega
                rcases this with rfl | rfl
                · exact hA
                · exact hB
        · have hlt' : ¬ (i : Int) < l.length := by omega
          simp only [(vE k41_l0.eq_1), (oE k41_r16.eq_1), (oE k41_r20.eq_1), WK, vop, evAll, evOpt, evParts, vbuiltin, vun, vextract, Nat.reduceLT, Nat.reduceEqDiff, ↓reduceIte, reduceCtorEq, Nat.reduceAdd, Int.reduceLT, Int.reduceNeg, valloc_std, noSB, vhot, h2, h10, FV3, q4.list, hw.len, hlt']
          exact ⟨by rw [okAll_true fun j hj => hall j (by omega)], (hk2.trans k3).trans hk⟩
  obtain ⟨q, σ', h1, rfl, h3⟩ := key
  exact ⟨σ', h1, h3⟩
theorem fits_does : ∀ (T : Ty), tyD T ≤ 4 → FitOk 41 (tyB T) (fitsT T)
  | .int, _ => fits_int
  | .bool, _ => fits_bool
  | .text, _ => fits_text
  | .list e, h => fits_list h (fits_does e (by simp only [tyD] at h; omega))
  | .mapI e, h => fits_map h (tyS_mapI h) (by simp [tyB, mI]) (by simp [tyB, mI]) (by simp [tyB, mI]) fits_int (fits_does e (by simp only [tyD] at h; omega))
  | .mapT e, h => fits_map h (tyS_mapT h) (by simp [tyB, mT]) (by simp [tyB, mT]) (by simp [tyB, mT]) fits_text (fits_does e (by simp only [tyD] at h; omega))
/-- What Fits answers. -/
def fitsS (s : List UInt8) (v : Val) : Bool := match tyS s with
  | some T => decide ((weight v : Int) ≤ 16384) && fitsT T v
  | none => false
theorem vfits_does {s : List UInt8} {v : Val} {c : List V} (hl : s.length ≤ 4294967296) (σ : St) (hwt : weight v ≤ 4294967296) (ha : ValC v c) : ∃ σ', Does Try.prog prims 21 [.agg c, .str s] σ (.ret (.bool (fitsS s v))) σ' ∧ Keep σ σ' := by
  have key : ∃ q σ', Does Try.prog prims 21 [.agg c, .str s] σ q σ' ∧ q = .ret (.bool (fitsS s v)) ∧ Keep σ σ' := by
    apply k21_is.does (by simp)
    obtain ⟨s1, hs1⟩ : ∃ s1 : St, s1 = ⟨σ.objs ++ [Ob.cells c], σ.toks⟩ := ⟨_, rfl⟩
    have k1 : Keep σ s1 := by rw [hs1]; exact (Keep.refl σ).push _
    have q1 : IsV s1 σ.objs.length c := by rw [hs1]; exact push_new _ _
    simp only [k21_a, WK, vop, evAll, evOpt, evParts, vbuiltin, vun, vextract, Nat.reduceLT, Nat.reduceEqDiff, ↓reduceIte, reduceCtorEq, Nat.reduceAdd, Int.reduceLT, Int.reduceNeg, valloc_std, noSB, vhot, List.getD_cons_zero, List.getD_cons_succ, vbox, vcells, ← hs1]
    refine KD.ret (type_does s hl s1) ?_
    unfold fitsS
    cases h : tyS s with
    | none =>
      simp only [k21_a, WK, vop, evAll, evOpt, evParts, vbuiltin, vun, vextract, Nat.reduceLT, Nat.reduceEqDiff, ↓reduceIte, reduceCtorEq, Nat.reduceAdd, Int.reduceLT, Int.reduceNeg, valloc_std, noSB, vhot, Option.isSome_none]
      exact k1
    | some T =>
      obtain ⟨rfl, h4⟩ := tyS_iff.1 h
      obtain ⟨s2, d2, k2⟩ := weight_does s1 hwt ha
      have q2 := k2.atV q1
      obtain ⟨s3, d3, k3⟩ := fits_does T h4 v c s2 hwt ha
      simp only [k21_a, WK, vop, evAll, evOpt, evParts, vbuiltin, vun, vextract, Nat.reduceLT, Nat.reduceEqDiff, ↓reduceIte, reduceCtorEq, Nat.reduceAdd, Int.reduceLT, Int.reduceNeg, valloc_std, noSB, vhot, List.getD_cons_zero, List.getD_cons_succ, Option.isSome_some, q1.load ha.len]
      refine KD.ret d2 ?_
      by_cases hb : (weight v : Int) ≤ 16384
      · simp only [k21_a, WK, vop, evAll, evOpt, evParts, vbuiltin, vun, vextract, Nat.reduceLT, Nat.reduceEqDiff, ↓reduceIte, reduceCtorEq, Nat.reduceAdd, Int.reduceLT, Int.reduceNeg, valloc_std, noSB, vhot, List.getD_cons_zero, List.getD_cons_succ, hb, q2.load ha.len, Bool.true_and]
        refine KD.ret d3 ?_
        simp only [k21_a, WK, vop, evAll, evOpt, evParts, vbuiltin, vun, vextract, Nat.reduceLT, Nat.reduceEqDiff, ↓reduceIte, reduceCtorEq, Nat.reduceAdd, Int.reduceLT, Int.reduceNeg, valloc_std, noSB, vhot]
        exact (k1.trans k2).trans k3
      · simp only [k21_a, WK, vop, evAll, evOpt, evParts, vbuiltin, vun, vextract, Nat.reduceLT, Nat.reduceEqDiff, ↓reduceIte, reduceCtorEq, Nat.reduceAdd, Int.reduceLT, Int.reduceNeg, valloc_std, noSB, vhot, hb, Bool.false_and]
        exact k1.trans k2
  obtain ⟨q, σ', h1, rfl, h3⟩ := key
  exact ⟨σ', h1, h3⟩
end
end Go.Proofs.Ytplhelapcpcncaa.Q

set_option linter.unusedVariables false
set_option linter.unusedSimpArgs false
namespace Go.Proofs.Ytplhelapcpcncaa.Q
open Go Go.RowKit Go.Proofs
theorem fitsT_kind {T : Ty} {k n : Int} {t : List UInt8} {l : List Val} (h : k ≠ tyK T) : fitsT T (.mk k n t l) = false := by
  cases T <;> simp only [tyK] at h <;> simp [fitsT, fitInt, fitBool, fitText, fitList, fitMap, h]
section
variable {k n : Int} {t : List UInt8} {l : List Val} {w : V}
set_option maxRecDepth 100000
theorem tyK_in (T : Ty) : 1 ≤ tyK T ∧ tyK T ≤ 5 := by cases T <;> simp [tyK]
theorem kindS_ty {T : Ty} (h : tyD T ≤ 4) : kindS (tyB T) = tyK T := by
  rw [kindS, tyS_iff.2 ⟨rfl, h⟩]
/-- The first check. -/
theorem of_r1 {T : Ty} (hT : tyD T ≤ 4) {e : Nat → V} {σ : St} {q : Nat} (h2 : e 2 = .optr q 0) (h1 : e 1 = .str (tyB T)) (hq : IsV σ q [.int .i64 k, .int .i64 n, .str t, w]) :
    Ev Try.prog prims 145 k44_r1 e σ (fun x e' σ' => x = .normal ∧ Keep σ σ' ∧ e' 22 = .bool (!decide (k = tyK T))) := by
  have hlen := tyB_len T
  have hk := tyK_in T
  obtain ⟨s1, d1, k1⟩ := refzero_does σ (tyB T) (by omega)
  have hz : zeroS (tyB T) = flatC (tyK T) 0 [] := by rw [zeroS, kindS_ty hT]
  rw [hz] at d1
  have q1 := k1.atV hq
  by_cases h0 : k = 0
  · have : ¬ k = tyK T := by omega
    simp only [(vE k44_r1.eq_1), WK, vop, evAll, evOpt, evParts, vbuiltin, vun, vextract, Nat.reduceLT, Nat.reduceEqDiff, ↓reduceIte, reduceCtorEq, Nat.reduceAdd, Int.reduceLT, Int.reduceNeg, valloc_std, noSB, vhot, h1, h2, FV0, hq.kind, h0, decide_eq_false (show ¬ (0 : Int) = tyK T by omega), eq_self]
    refine ⟨fun h => ?_, Keep.refl σ⟩
    simp [wantC, upd] at h
  · simp only [(vE k44_r1.eq_1), WK, vop, evAll, evOpt, evParts, vbuiltin, vun, vextract, Nat.reduceLT, Nat.reduceEqDiff, ↓reduceIte, reduceCtorEq, Nat.reduceAdd, Int.reduceLT, Int.reduceNeg, valloc_std, noSB, vhot, h1, h2, FV0, hq.kind, h0]
    refine KD.ret d1 ?_
    have hfld : vfield Try.prog 29 (.agg (flatC (tyK T) 0 [])) 0 = some (.int .i64 (tyK T)) := by kernel_rfl
    simp only [(vE k44_r1.eq_1), WK, vop, evAll, evOpt, evParts, vbuiltin, vun, vextract, Nat.reduceLT, Nat.reduceEqDiff, ↓reduceIte, reduceCtorEq, Nat.reduceAdd, Int.reduceLT, Int.reduceNeg, valloc_std, noSB, vhot, h1, h2, FV0, hq.kind, q1.kind, hfld]
    exact k1
theorem of_int : FitOk 44 (tyB .int) (fitsT .int) := by
  intro v c σ hwt ha
  have key : ∃ q σ', Does Try.prog prims 44 [.agg c, .str (tyB .int)] σ q σ' ∧ q = .ret (.bool (fitsT .int v)) ∧ Keep σ σ' := by
    obtain ⟨k, n, t, l, w, rfl, rfl, hw, ik, im⟩ := ha.inv
    apply k44_is.does (by simp)
    obtain ⟨σ2, hσ2⟩ : ∃ σ2 : St, σ2 = ⟨σ.objs ++ [Ob.cells [.int .i64 k, .int .i64 n, .str t, w]], σ.toks⟩ := ⟨_, rfl⟩
    have hk2 : Keep σ σ2 := by rw [hσ2]; exact (Keep.refl σ).push _
    have q2 : IsV σ2 σ.objs.length [.int .i64 k, .int .i64 n, .str t, w] := by rw [hσ2]; exact push_new _ _
    have hlen := tyB_len .int
    rw [weight] at hwt
    have hll := weights_len l
    have hT : tyD .int ≤ 4 := by decide
    simp only [(vE k44.eq_1), (oE k44_r0.eq_1), WK, vop, evAll, evOpt, evParts, vbuiltin, vun, vextract, Nat.reduceLT, Nat.reduceEqDiff, ↓reduceIte, reduceCtorEq, Nat.reduceAdd, Int.reduceLT, Int.reduceNeg, valloc_std, noSB, vhot, List.getD_cons_zero, List.getD_cons_succ, vbox, vcells, ← hσ2]
    refine Ev.cut (of_r1 (T := .int) hT (t := t) (k := k) (n := n) (w := w) (q := σ.objs.length) (by simp [upd_some]) (by simp [upd_some]) q2) ?_
    rintro x e s3 ⟨rfl, k3, h22⟩ hwr
    have h1 : e 1 = .str (tyB .int) := (hwr 1 (by decide)).trans (by simp [upd_some])
    have h2 : e 2 = .optr σ.objs.length 0 := (hwr 2 (by decide)).trans (by simp [upd_some])
    clear hwr
    have q3 := k3.atV q2
    by_cases hk : k = tyK .int
    · rw [decide_eq_true hk] at h22
      have hk : k = 1 := hk
      subst hk
      have hk3 := hk2.trans k3
      clear hσ2 q2 ha
      unfold fitsT fitInt
      by_cases ht : t = []
      · by_cases hl0 : (0 : Int) < l.length
        · have hl1 : ¬ (l.length : Int) = 0 := by omega
          simp only [k44_a, WK, vop, evAll, evOpt, evParts, vbuiltin, vun, vextract, Nat.reduceLT, Nat.reduceEqDiff, ↓reduceIte, reduceCtorEq, Nat.reduceAdd, Int.reduceLT, Int.reduceNeg, valloc_std, noSB, vhot, Int.reduceEq, Int.reduceLE, FV0, FV1, FV2, FV3, h1, h2, q3.kind, q3.num, q3.text, q3.list, hw.len, vlen_str T9, ofVal_str, strBin, eq_self, Bool.true_and, Bool.and_true, Bool.false_and, Bool.and_false, Bool.or_true, Bool.true_or, Bool.or_false, Bool.false_or, h22, ht, hl0, hl1]
          exact hk3
        · have hl1 : (l.length : Int) = 0 := by omega
          simp only [k44_a, WK, vop, evAll, evOpt, evParts, vbuiltin, vun, vextract, Nat.reduceLT, Nat.reduceEqDiff, ↓reduceIte, reduceCtorEq, Nat.reduceAdd, Int.reduceLT, Int.reduceNeg, valloc_std, noSB, vhot, Int.reduceEq, Int.reduceLE, FV0, FV1, FV2, FV3, h1, h2, q3.kind, q3.num, q3.text, q3.list, hw.len, vlen_str T9, ofVal_str, strBin, eq_self, Bool.true_and, Bool.and_true, Bool.false_and, Bool.and_false, Bool.or_true, Bool.true_or, Bool.or_false, Bool.false_or, h22, ht, hl0, hl1, Int.lt_irrefl]
          exact hk3
      · simp only [k44_a, WK, vop, evAll, evOpt, evParts, vbuiltin, vun, vextract, Nat.reduceLT, Nat.reduceEqDiff, ↓reduceIte, reduceCtorEq, Nat.reduceAdd, Int.reduceLT, Int.reduceNeg, valloc_std, noSB, vhot, Int.reduceEq, Int.reduceLE, FV0, FV1, FV2, FV3, h1, h2, q3.kind, q3.num, q3.text, q3.list, hw.len, vlen_str T9, ofVal_str, strBin, eq_self, Bool.true_and, Bool.and_true, Bool.false_and, Bool.and_false, Bool.or_true, Bool.true_or, Bool.or_false, Bool.false_or, h22, ht]
        exact hk3
    · rw [fitsT_kind hk]
      rw [decide_eq_false hk] at h22
      simp only [(oE k44_r2.eq_1), WK, vop, evAll, evOpt, evParts, vbuiltin, vun, vextract, Nat.reduceLT, Nat.reduceEqDiff, ↓reduceIte, reduceCtorEq, Nat.reduceAdd, Int.reduceLT, Int.reduceNeg, valloc_std, noSB, vhot, h22]
      exact hk2.trans k3
  obtain ⟨q, σ', h1, rfl, h3⟩ := key
  exact ⟨σ', h1, h3⟩
theorem of_bool : FitOk 44 (tyB .bool) (fitsT .bool) := by
  intro v c σ hwt ha
  have key : ∃ q σ', Does Try.prog prims 44 [.agg c, .str (tyB .bool)] σ q σ' ∧ q = .ret (.bool (fitsT .bool v)) ∧ Keep σ σ' := by
    obtain ⟨k, n, t, l, w, rfl, rfl, hw, ik, im⟩ := ha.inv
    apply k44_is.does (by simp)
    obtain ⟨σ2, hσ2⟩ : ∃ σ2 : St, σ2 = ⟨σ.objs ++ [Ob.cells [.int .i64 k, .int .i64 n, .str t, w]], σ.toks⟩ := ⟨_, rfl⟩
    have hk2 : Keep σ σ2 := by rw [hσ2]; exact (Keep.refl σ).push _
    have q2 : IsV σ2 σ.objs.length [.int .i64 k, .int .i64 n, .str t, w] := by rw [hσ2]; exact push_new _ _
    have hlen := tyB_len .bool
    rw [weight] at hwt
    have hll := weights_len l
    have hT : tyD .bool ≤ 4 := by decide
    simp only [(vE k44.eq_1), (oE k44_r0.eq_1), WK, vop, evAll, evOpt, evParts, vbuiltin, vun, vextract, Nat.reduceLT, Nat.reduceEqDiff, ↓reduceIte, reduceCtorEq, Nat.reduceAdd, Int.reduceLT, Int.reduceNeg, valloc_std, noSB, vhot, List.getD_cons_zero, List.getD_cons_succ, vbox, vcells, ← hσ2]
    refine Ev.cut (of_r1 (T := .bool) hT (t := t) (k := k) (n := n) (w := w) (q := σ.objs.length) (by simp [upd_some]) (by simp [upd_some]) q2) ?_
    rintro x e s3 ⟨rfl, k3, h22⟩ hwr
    have h1 : e 1 = .str (tyB .bool) := (hwr 1 (by decide)).trans (by simp [upd_some])
    have h2 : e 2 = .optr σ.objs.length 0 := (hwr 2 (by decide)).trans (by simp [upd_some])
    clear hwr
    have q3 := k3.atV q2
    by_cases hk : k = tyK .bool
    · rw [decide_eq_true hk] at h22
      have hk : k = 2 := hk
      subst hk
      have hk3 := hk2.trans k3
      clear hσ2 q2 ha
      unfold fitsT fitBool
      have e10 : ((1 : Int) = 0) = False := eq_false (by decide)
      by_cases ht : t = []
      · by_cases hl0 : (0 : Int) < l.length
        · have hl1 : ¬ (l.length : Int) = 0 := by omega
          simp only [k44_a, WK, vop, evAll, evOpt, evParts, vbuiltin, vun, vextract, Nat.reduceLT, Nat.reduceEqDiff, ↓reduceIte, reduceCtorEq, Nat.reduceAdd, Int.reduceLT, Int.reduceNeg, valloc_std, noSB, vhot, Int.reduceEq, Int.reduceLE, FV0, FV1, FV2, FV3, h1, h2, q3.kind, q3.num, q3.text, q3.list, hw.len, vlen_str T9, ofVal_str, strBin, eq_self, Bool.true_and, Bool.and_true, Bool.false_and, Bool.and_false, Bool.or_true, Bool.true_or, Bool.or_false, Bool.false_or, h22, ht, hl0, hl1]
          exact hk3
        · have hl1 : (l.length : Int) = 0 := by omega
          simp only [k44_a, WK, vop, evAll, evOpt, evParts, vbuiltin, vun, vextract, Nat.reduceLT, Nat.reduceEqDiff, ↓reduceIte, reduceCtorEq, Nat.reduceAdd, Int.reduceLT, Int.reduceNeg, valloc_std, noSB, vhot, Int.reduceEq, Int.reduceLE, FV0, FV1, FV2, FV3, h1, h2, q3.kind, q3.num, q3.text, q3.list, hw.len, vlen_str T9, ofVal_str, strBin, eq_self, Bool.true_and, Bool.and_true, Bool.false_and, Bool.and_false, Bool.or_true, Bool.true_or, Bool.or_false, Bool.false_or, h22, ht, hl0, hl1, Int.lt_irrefl]
          by_cases hn : n = 0
          · simp only [k44_a, WK, vop, evAll, evOpt, evParts, vbuiltin, vun, vextract, Nat.reduceLT, Nat.reduceEqDiff, ↓reduceIte, reduceCtorEq, Nat.reduceAdd, Int.reduceLT, Int.reduceNeg, valloc_std, noSB, vhot, Int.reduceEq, Int.reduceLE, FV0, FV1, FV2, FV3, h1, h2, q3.kind, q3.num, q3.text, q3.list, hw.len, vlen_str T9, ofVal_str, strBin, eq_self, Bool.true_and, Bool.and_true, Bool.false_and, Bool.and_false, Bool.or_true, Bool.true_or, Bool.or_false, Bool.false_or, hn]
            exact hk3
          · by_cases hn1 : n = 1
            · simp only [k44_a, WK, vop, evAll, evOpt, evParts, vbuiltin, vun, vextract, Nat.reduceLT, Nat.reduceEqDiff, ↓reduceIte, reduceCtorEq, Nat.reduceAdd, Int.reduceLT, Int.reduceNeg, valloc_std, noSB, vhot, Int.reduceEq, Int.reduceLE, FV0, FV1, FV2, FV3, h1, h2, q3.kind, q3.num, q3.text, q3.list, hw.len, vlen_str T9, ofVal_str, strBin, eq_self, Bool.true_and, Bool.and_true, Bool.false_and, Bool.and_false, Bool.or_true, Bool.true_or, Bool.or_false, Bool.false_or, hn1, e10]
              exact hk3
            · simp only [k44_a, WK, vop, evAll, evOpt, evParts, vbuiltin, vun, vextract, Nat.reduceLT, Nat.reduceEqDiff, ↓reduceIte, reduceCtorEq, Nat.reduceAdd, Int.reduceLT, Int.reduceNeg, valloc_std, noSB, vhot, Int.reduceEq, Int.reduceLE, FV0, FV1, FV2, FV3, h1, h2, q3.kind, q3.num, q3.text, q3.list, hw.len, vlen_str T9, ofVal_str, strBin, eq_self, Bool.true_and, Bool.and_true, Bool.false_and, Bool.and_false, Bool.or_true, Bool.true_or, Bool.or_false, Bool.false_or, hn, hn1]
              exact hk3
      · simp only [k44_a, WK, vop, evAll, evOpt, evParts, vbuiltin, vun, vextract, Nat.reduceLT, Nat.reduceEqDiff, ↓reduceIte, reduceCtorEq, Nat.reduceAdd, Int.reduceLT, Int.reduceNeg, valloc_std, noSB, vhot, Int.reduceEq, Int.reduceLE, FV0, FV1, FV2, FV3, h1, h2, q3.kind, q3.num, q3.text, q3.list, hw.len, vlen_str T9, ofVal_str, strBin, eq_self, Bool.true_and, Bool.and_true, Bool.false_and, Bool.and_false, Bool.or_true, Bool.true_or, Bool.or_false, Bool.false_or, h22, ht]
        exact hk3
    · rw [fitsT_kind hk]
      rw [decide_eq_false hk] at h22
      simp only [(oE k44_r2.eq_1), WK, vop, evAll, evOpt, evParts, vbuiltin, vun, vextract, Nat.reduceLT, Nat.reduceEqDiff, ↓reduceIte, reduceCtorEq, Nat.reduceAdd, Int.reduceLT, Int.reduceNeg, valloc_std, noSB, vhot, h22]
      exact hk2.trans k3
  obtain ⟨q, σ', h1, rfl, h3⟩ := key
  exact ⟨σ', h1, h3⟩
theorem of_text : FitOk 44 (tyB .text) (fitsT .text) := by
  intro v c σ hwt ha
  have key : ∃ q σ', Does Try.prog prims 44 [.agg c, .str (tyB .text)] σ q σ' ∧ q = .ret (.bool (fitsT .text v)) ∧ Keep σ σ' := by
    obtain ⟨k, n, t, l, w, rfl, rfl, hw, ik, im⟩ := ha.inv
    apply k44_is.does (by simp)
    obtain ⟨σ2, hσ2⟩ : ∃ σ2 : St, σ2 = ⟨σ.objs ++ [Ob.cells [.int .i64 k, .int .i64 n, .str t, w]], σ.toks⟩ := ⟨_, rfl⟩
    have hk2 : Keep σ σ2 := by rw [hσ2]; exact (Keep.refl σ).push _
    have q2 : IsV σ2 σ.objs.length [.int .i64 k, .int .i64 n, .str t, w] := by rw [hσ2]; exact push_new _ _
    have hlen := tyB_len .text
    rw [weight] at hwt
    have hll := weights_len l
    have hT : tyD .text ≤ 4 := by decide
    simp only [(vE k44.eq_1), (oE k44_r0.eq_1), WK, vop, evAll, evOpt, evParts, vbuiltin, vun, vextract, Nat.reduceLT, Nat.reduceEqDiff, ↓reduceIte, reduceCtorEq, Nat.reduceAdd, Int.reduceLT, Int.reduceNeg, valloc_std, noSB, vhot, List.getD_cons_zero, List.getD_cons_succ, vbox, vcells, ← hσ2]
    refine Ev.cut (of_r1 (T := .text) hT (t := t) (k := k) (n := n) (w := w) (q := σ.objs.length) (by simp [upd_some]) (by simp [upd_some]) q2) ?_
    rintro x e s3 ⟨rfl, k3, h22⟩ hwr
    have h1 : e 1 = .str (tyB .text) := (hwr 1 (by decide)).trans (by simp [upd_some])
    have h2 : e 2 = .optr σ.objs.length 0 := (hwr 2 (by decide)).trans (by simp [upd_some])
    clear hwr
    have q3 := k3.atV q2
    by_cases hk : k = tyK .text
    · rw [decide_eq_true hk] at h22
      have hk : k = 3 := hk
      subst hk
      have hk3 := hk2.trans k3
      clear hσ2 q2 ha
      unfold fitsT fitText
      by_cases hn : n = 0
      · by_cases hl0 : (0 : Int) < l.length
        · have hl1 : ¬ (l.length : Int) = 0 := by omega
          simp only [k44_a, WK, vop, evAll, evOpt, evParts, vbuiltin, vun, vextract, Nat.reduceLT, Nat.reduceEqDiff, ↓reduceIte, reduceCtorEq, Nat.reduceAdd, Int.reduceLT, Int.reduceNeg, valloc_std, noSB, vhot, Int.reduceEq, Int.reduceLE, FV0, FV1, FV2, FV3, h1, h2, q3.kind, q3.num, q3.text, q3.list, hw.len, vlen_str T9, ofVal_str, strBin, eq_self, Bool.true_and, Bool.and_true, Bool.false_and, Bool.and_false, Bool.or_true, Bool.true_or, Bool.or_false, Bool.false_or, h22, hn, hl0, hl1]
          exact hk3
        · have hl1 : (l.length : Int) = 0 := by omega
          simp only [k44_a, WK, vop, evAll, evOpt, evParts, vbuiltin, vun, vextract, Nat.reduceLT, Nat.reduceEqDiff, ↓reduceIte, reduceCtorEq, Nat.reduceAdd, Int.reduceLT, Int.reduceNeg, valloc_std, noSB, vhot, Int.reduceEq, Int.reduceLE, FV0, FV1, FV2, FV3, h1, h2, q3.kind, q3.num, q3.text, q3.list, hw.len, vlen_str T9, ofVal_str, strBin, eq_self, Bool.true_and, Bool.and_true, Bool.false_and, Bool.and_false, Bool.or_true, Bool.true_or, Bool.or_false, Bool.false_or, h22, hn, hl0, hl1, Int.lt_irrefl]
          exact hk3
      · simp only [k44_a, WK, vop, evAll, evOpt, evParts, vbuiltin, vun, vextract, Nat.reduceLT, Nat.reduceEqDiff, ↓reduceIte, reduceCtorEq, Nat.reduceAdd, Int.reduceLT, Int.reduceNeg, valloc_std, noSB, vhot, Int.reduceEq, Int.reduceLE, FV0, FV1, FV2, FV3, h1, h2, q3.kind, q3.num, q3.text, q3.list, hw.len, vlen_str T9, ofVal_str, strBin, eq_self, Bool.true_and, Bool.and_true, Bool.false_and, Bool.and_false, Bool.or_true, Bool.true_or, Bool.or_false, Bool.false_or, h22, hn]
        exact hk3
    · rw [fitsT_kind hk]
      rw [decide_eq_false hk] at h22
      simp only [(oE k44_r2.eq_1), WK, vop, evAll, evOpt, evParts, vbuiltin, vun, vextract, Nat.reduceLT, Nat.reduceEqDiff, ↓reduceIte, reduceCtorEq, Nat.reduceAdd, Int.reduceLT, Int.reduceNeg, valloc_std, noSB, vhot, h22]
      exact hk2.trans k3
  obtain ⟨q, σ', h1, rfl, h3⟩ := key
  exact ⟨σ', h1, h3⟩
def I55 (σ0 : St) (f : Val → Bool) (l : List Val) : Nat → (Nat → V) → St → Prop := fun i e σ => e 75 = .int .i64 i ∧ i ≤ l.length ∧ (l.take i).all f = true ∧ Keep σ0 σ
theorem of_list {e : Ty} (hT : tyD (.list e) ≤ 4) (H : FitOk 44 (tyB e) (fitsT e)) : FitOk 44 (tyB (.list e)) (fitsT (.list e)) := by
  intro v c σ hwt ha
  have key : ∃ q σ', Does Try.prog prims 44 [.agg c, .str (tyB (.list e))] σ q σ' ∧ q = .ret (.bool (fitsT (.list e) v)) ∧ Keep σ σ' := by
    obtain ⟨k, n, t, l, w, rfl, rfl, hw, ik, im⟩ := ha.inv
    apply k44_is.does (by simp)
    obtain ⟨σ2, hσ2⟩ : ∃ σ2 : St, σ2 = ⟨σ.objs ++ [Ob.cells [.int .i64 k, .int .i64 n, .str t, w]], σ.toks⟩ := ⟨_, rfl⟩
    have hk2 : Keep σ σ2 := by rw [hσ2]; exact (Keep.refl σ).push _
    have q2 : IsV σ2 σ.objs.length [.int .i64 k, .int .i64 n, .str t, w] := by rw [hσ2]; exact push_new _ _
    have hlen := tyB_len (.list e)
    rw [weight] at hwt
    have hll := weights_len l
    have hT : tyD (.list e) ≤ 4 := hT
    simp only [(vE k44.eq_1), (oE k44_r0.eq_1), WK, vop, evAll, evOpt, evParts, vbuiltin, vun, vextract, Nat.reduceLT, Nat.reduceEqDiff, ↓reduceIte, reduceCtorEq, Nat.reduceAdd, Int.reduceLT, Int.reduceNeg, valloc_std, noSB, vhot, List.getD_cons_zero, List.getD_cons_succ, vbox, vcells, ← hσ2]
    refine Ev.cut (of_r1 (T := (.list e)) hT (t := t) (k := k) (n := n) (w := w) (q := σ.objs.length) (by simp [upd_some]) (by simp [upd_some]) q2) ?_
    rintro x en s3 ⟨rfl, k3, h22⟩ hwr
    have h1 : en 1 = .str (tyB (.list e)) := (hwr 1 (by decide)).trans (by simp [upd_some])
    have h2 : en 2 = .optr σ.objs.length 0 := (hwr 2 (by decide)).trans (by simp [upd_some])
    clear hwr
    have q3 := k3.atV q2
    by_cases hk : k = tyK (.list e)
    · rw [decide_eq_true hk] at h22
      have hk : k = 4 := hk
      subst hk
      have hk3 := hk2.trans k3
      clear hσ2 q2 ha
      unfold fitsT fitList
      by_cases hn : n = 0
      · by_cases ht : t = []
        · simp only [k44_a, WK, vop, evAll, evOpt, evParts, vbuiltin, vun, vextract, Nat.reduceLT, Nat.reduceEqDiff, ↓reduceIte, reduceCtorEq, Nat.reduceAdd, Int.reduceLT, Int.reduceNeg, valloc_std, noSB, vhot, Int.reduceEq, Int.reduceLE, FV0, FV1, FV2, FV3, h1, h2, q3.kind, q3.num, q3.text, q3.list, hw.len, vlen_str T9, ofVal_str, strBin, eq_self, Bool.true_and, Bool.and_true, Bool.false_and, Bool.and_false, Bool.or_true, Bool.true_or, Bool.or_false, Bool.false_or, h22, hn, ht]
          refine Ev.loopF (I55 s3 (fitsT e) l) (fun i => l.length - i) 0 ⟨by simp [upd_some], by simp, by simp, Keep.refl _⟩ ?_
          rintro i ei σ1 ⟨h75, hi, hall, hk⟩ hf
          have h74 : ei 74 = .int .i64 l.length := (hf 74 (by decide)).trans (by simp [upd_some])
          have h73 : ei 73 = w := (hf 73 (by decide)).trans (by simp [upd_some])
          have h1' : ei 1 = .str (tyB (.list e)) := (hf 1 (by decide)).trans (by simp [upd_some, h1])
          have h2' : ei 2 = .optr σ.objs.length 0 := (hf 2 (by decide)).trans (by simp [upd_some, h2])
          clear hf
          by_cases hlt : i < l.length
          · have hlt' : (i : Int) < l.length := by omega
            have hwi : IntKind.i64.wrap ((i : Int) + 1) = ((i + 1 : Nat) : Int) := by rw [show ((i : Int) + 1) = ((i + 1 : Nat) : Int) from by omega]; exact wrap_nat (by omega)
            obtain ⟨cs, c, ha0, hld, hc⟩ := hw.get hlt
            obtain ⟨s5, hs5⟩ : ∃ s5 : St, s5 = ⟨(σ1.objs ++ [Ob.cells val0C]).set σ1.objs.length (Ob.cells c), σ1.toks⟩ := ⟨_, rfl⟩
            have p5 : IsV s5 σ1.objs.length c := by rw [hs5]; exact IsV.made
            have k5 : Keep σ1 s5 := by rw [hs5]; exact (Keep.refl σ1).madeV _ _
            have hmem := weights_mem (List.getElem_mem hlt)
            have hd := reflist_does (tyB (.list e)) (by omega) s5
            rw [(tyS_list hT).1] at hd
            obtain ⟨s6, d6, k6⟩ := H l[i] c s5 (by omega) hc
            have p6 := k6.atV p5
            simp only [k44_a, WK, vop, evAll, evOpt, evParts, vbuiltin, vun, vextract, Nat.reduceLT, Nat.reduceEqDiff, ↓reduceIte, reduceCtorEq, Nat.reduceAdd, Int.reduceLT, Int.reduceNeg, valloc_std, noSB, vhot, h73, h74, h75, h1', h2', hlt', ha0, hld, VZ24, vbox, vcells, IsV.new hc.len (show val0C.length = 4 from rfl) hc.one, ← hs5, p5.load hc.len]
            refine KD.ret hd ?_
            simp only [k44_a, WK, vop, evAll, evOpt, evParts, vbuiltin, vun, vextract, Nat.reduceLT, Nat.reduceEqDiff, ↓reduceIte, reduceCtorEq, Nat.reduceAdd, Int.reduceLT, Int.reduceNeg, valloc_std, noSB, vhot, p5.load hc.len]
            refine KD.ret d6 ?_
            have hk6 := (hk.trans k5).trans k6
            cases hfl : fitsT e l[i] with
            | true =>
              simp only [k44_a, WK, vop, evAll, evOpt, evParts, vbuiltin, vun, vextract, Nat.reduceLT, Nat.reduceEqDiff, ↓reduceIte, reduceCtorEq, Nat.reduceAdd, Int.reduceLT, Int.reduceNeg, valloc_std, noSB, vhot, h75, hwi, p5.load hc.len]
              exact ⟨i + 1, ⟨by simp [upd_some], hlt, by rw [all_take_succ hlt, hall, hfl]; rfl, hk6⟩, by omega⟩
            | false =>
              simp only [k44_a, WK, vop, evAll, evOpt, evParts, vbuiltin, vun, vextract, Nat.reduceLT, Nat.reduceEqDiff, ↓reduceIte, reduceCtorEq, Nat.reduceAdd, Int.reduceLT, Int.reduceNeg, valloc_std, noSB, vhot, h75, hwi, p5.load hc.len]
              exact ⟨by rw [all_false hlt hfl]; simp, hk3.trans hk6⟩
          · have hlt' : ¬ (i : Int) < l.length := by omega
            have q4 := hk.atV q3
            simp only [k44_a, WK, vop, evAll, evOpt, evParts, vbuiltin, vun, vextract, Nat.reduceLT, Nat.reduceEqDiff, ↓reduceIte, reduceCtorEq, Nat.reduceAdd, Int.reduceLT, Int.reduceNeg, valloc_std, noSB, vhot, h73, h74, h75, h2', hlt', FV3, q4.list, hw.len]
            rw [List.take_of_length_le (by omega)] at hall
            exact ⟨by rw [hall]; simp, hk3.trans hk⟩
        · simp only [k44_a, WK, vop, evAll, evOpt, evParts, vbuiltin, vun, vextract, Nat.reduceLT, Nat.reduceEqDiff, ↓reduceIte, reduceCtorEq, Nat.reduceAdd, Int.reduceLT, Int.reduceNeg, valloc_std, noSB, vhot, Int.reduceEq, Int.reduceLE, FV0, FV1, FV2, FV3, h1, h2, q3.kind, q3.num, q3.text, q3.list, hw.len, vlen_str T9, ofVal_str, strBin, eq_self, Bool.true_and, Bool.and_true, Bool.false_and, Bool.and_false, Bool.or_true, Bool.true_or, Bool.or_false, Bool.false_or, h22, hn, ht]
          exact hk3
      · simp only [k44_a, WK, vop, evAll, evOpt, evParts, vbuiltin, vun, vextract, Nat.reduceLT, Nat.reduceEqDiff, ↓reduceIte, reduceCtorEq, Nat.reduceAdd, Int.reduceLT, Int.reduceNeg, valloc_std, noSB, vhot, Int.reduceEq, Int.reduceLE, FV0, FV1, FV2, FV3, h1, h2, q3.kind, q3.num, q3.text, q3.list, hw.len, vlen_str T9, ofVal_str, strBin, eq_self, Bool.true_and, Bool.and_true, Bool.false_and, Bool.and_false, Bool.or_true, Bool.true_or, Bool.or_false, Bool.false_or, h22, hn]
        exact hk3
    · rw [fitsT_kind hk]
      rw [decide_eq_false hk] at h22
      simp only [(oE k44_r2.eq_1), WK, vop, evAll, evOpt, evParts, vbuiltin, vun, vextract, Nat.reduceLT, Nat.reduceEqDiff, ↓reduceIte, reduceCtorEq, Nat.reduceAdd, Int.reduceLT, Int.reduceNeg, valloc_std, noSB, vhot, h22]
      exact hk2.trans k3
  obtain ⟨q, σ', h1, rfl, h3⟩ := key
  exact ⟨σ', h1, h3⟩
theorem tmod2 (i : Nat) : Int.tmod (i : Int) 2 = ((i % 2 : Nat) : Int) := by rw [Int.tmod_eq_emod_of_nonneg (by omega)]; omega
theorem of_step {ks vs : List UInt8} {fk fv : Val → Bool} (Hk : FitOk 44 ks fk) (Hv : FitOk 44 vs fv) {e : Nat → V} {σ : St} {q p i : Nat} {c : List V} (hw : ValsW l w) (hwt : weights l ≤ 4294967295) (hi : i < l.length)
    (h2 : e 2 = .optr q 0) (h9 : e 9 = .int .i64 i) (h10 : e 10 = .optr p 0) (h11 : e 11 = .str (if i % 2 = 1 then vs else ks)) (hq : IsV σ q [.int .i64 k, .int .i64 n, .str t, w]) (hp : IsV σ p c) (hc : ValC l[i] c) :
    Ev Try.prog prims 145 (.region k44_r28) e σ (fun x e' σ' => x = .normal ∧ Keep σ σ' ∧ e' 143 = .bool (!okAt fk fv l i)) := by
  have hll := weights_len l
  have hmA := weights_mem (List.getElem_mem hi)
  have tm := tmod2 i
  have e20 : ((2 : Int) = 0) = False := eq_false (by decide)
  by_cases hev : i % 2 = 0
  · rw [if_neg (by omega)] at h11
    obtain ⟨s1, d1, k1⟩ := Hk l[i] c σ (by omega) hc
    have q1 := k1.atV hq
    have p1 := k1.atV hp
    have hev' : ((i % 2 : Nat) : Int) = 0 := by omega
    rw [hev'] at tm
    by_cases hi2 : 2 ≤ i
    · rw [okAt_even hi hev hi2]
      have w2 := idx_wrap2 hi2 (by omega)
      have hi3 : i - 2 < l.length := by omega
      obtain ⟨csC, cC, haC, hldC, hcC⟩ := hw.get hi3
      have hmC := weights_mem (List.getElem_mem hi3)
      obtain ⟨s4, d4, k4⟩ := refcompare_does (a := l[i - 2]) (b := l[i]) s1 (by omega) hcC hc
      have hpos : (1 : Int) < (i : Int) := by omega
      simp only [(oE k44_r28.eq_1), WK, vop, evAll, evOpt, evParts, vbuiltin, vun, vextract, Nat.reduceLT, Nat.reduceEqDiff, ↓reduceIte, reduceCtorEq, Nat.reduceAdd, Int.reduceLT, Int.reduceNeg, valloc_std, noSB, vhot, h2, h9, h10, h11, FV3, Int.reduceEq, tm, e20, hp.load hc.len]
      refine KD.ret d1 ?_
      cases hA : fk l[i] with
      | false =>
        simp only [(oE k44_r28.eq_1), WK, vop, evAll, evOpt, evParts, vbuiltin, vun, vextract, Nat.reduceLT, Nat.reduceEqDiff, ↓reduceIte, reduceCtorEq, Nat.reduceAdd, Int.reduceLT, Int.reduceNeg, valloc_std, noSB, vhot, h2, h9, h10, h11, FV3, Int.reduceEq, tm, e20, Bool.false_and]
        exact k1
      | true =>
        simp only [(oE k44_r28.eq_1), WK, vop, evAll, evOpt, evParts, vbuiltin, vun, vextract, Nat.reduceLT, Nat.reduceEqDiff, ↓reduceIte, reduceCtorEq, Nat.reduceAdd, Int.reduceLT, Int.reduceNeg, valloc_std, noSB, vhot, h2, h9, h10, h11, FV3, Int.reduceEq, tm, e20, hpos, eq_self, q1.list, w2, haC, hldC, p1.load hc.len]
        refine KD.ret d4 ?_
        by_cases hcm : cmpV l[i - 2] l[i] < 0
        · have hc' : ¬ (0 : Int) ≤ cmpV l[i - 2] l[i] := by omega
          simp only [(oE k44_r28.eq_1), WK, vop, evAll, evOpt, evParts, vbuiltin, vun, vextract, Nat.reduceLT, Nat.reduceEqDiff, ↓reduceIte, reduceCtorEq, Nat.reduceAdd, Int.reduceLT, Int.reduceNeg, valloc_std, noSB, vhot, h2, h9, h10, h11, FV3, Int.reduceEq, tm, e20, hcm, hc', Bool.true_and, Bool.and_true]
          exact k1.trans k4
        · have hc' : (0 : Int) ≤ cmpV l[i - 2] l[i] := by omega
          simp only [(oE k44_r28.eq_1), WK, vop, evAll, evOpt, evParts, vbuiltin, vun, vextract, Nat.reduceLT, Nat.reduceEqDiff, ↓reduceIte, reduceCtorEq, Nat.reduceAdd, Int.reduceLT, Int.reduceNeg, valloc_std, noSB, vhot, h2, h9, h10, h11, FV3, Int.reduceEq, tm, e20, hcm, hc', Bool.true_and, Bool.and_true]
          exact k1.trans k4
    · have hi0 : i = 0 := by omega
      subst hi0
      rw [okAt_even0 hi]
      have hpos : ¬ (1 : Int) < ((0 : Nat) : Int) := by omega
      simp only [(oE k44_r28.eq_1), WK, vop, evAll, evOpt, evParts, vbuiltin, vun, vextract, Nat.reduceLT, Nat.reduceEqDiff, ↓reduceIte, reduceCtorEq, Nat.reduceAdd, Int.reduceLT, Int.reduceNeg, valloc_std, noSB, vhot, h2, h9, h10, h11, FV3, Int.reduceEq, tm, e20, hp.load hc.len]
      refine KD.ret d1 ?_
      cases hA : fk l[0] with
      | false =>
        simp only [(oE k44_r28.eq_1), WK, vop, evAll, evOpt, evParts, vbuiltin, vun, vextract, Nat.reduceLT, Nat.reduceEqDiff, ↓reduceIte, reduceCtorEq, Nat.reduceAdd, Int.reduceLT, Int.reduceNeg, valloc_std, noSB, vhot, h2, h9, h10, h11, FV3, Int.reduceEq, tm, e20, Bool.false_and]
        exact k1
      | true =>
        simp only [(oE k44_r28.eq_1), WK, vop, evAll, evOpt, evParts, vbuiltin, vun, vextract, Nat.reduceLT, Nat.reduceEqDiff, ↓reduceIte, reduceCtorEq, Nat.reduceAdd, Int.reduceLT, Int.reduceNeg, valloc_std, noSB, vhot, h2, h9, h10, h11, FV3, Int.reduceEq, tm, e20, hpos, eq_self]
        exact k1
  · have hod : i % 2 = 1 := by omega
    rw [if_pos hod] at h11
    obtain ⟨s1, d1, k1⟩ := Hv l[i] c σ (by omega) hc
    rw [okAt_odd hi hod]
    have hev' : ((i % 2 : Nat) : Int) = 1 := by omega
    rw [hev'] at tm
    simp only [(oE k44_r28.eq_1), WK, vop, evAll, evOpt, evParts, vbuiltin, vun, vextract, Nat.reduceLT, Nat.reduceEqDiff, ↓reduceIte, reduceCtorEq, Nat.reduceAdd, Int.reduceLT, Int.reduceNeg, valloc_std, noSB, vhot, h2, h9, h10, h11, FV3, Int.reduceEq, tm, e20, hp.load hc.len]
    refine KD.ret d1 ?_
    cases hA : fv l[i] with
    | false =>
      simp only [(oE k44_r28.eq_1), WK, vop, evAll, evOpt, evParts, vbuiltin, vun, vextract, Nat.reduceLT, Nat.reduceEqDiff, ↓reduceIte, reduceCtorEq, Nat.reduceAdd, Int.reduceLT, Int.reduceNeg, valloc_std, noSB, vhot, h2, h9, h10, h11, FV3, Int.reduceEq, tm, e20, Bool.false_and]
      exact k1
    | true =>
      simp only [(oE k44_r28.eq_1), WK, vop, evAll, evOpt, evParts, vbuiltin, vun, vextract, Nat.reduceLT, Nat.reduceEqDiff, ↓reduceIte, reduceCtorEq, Nat.reduceAdd, Int.reduceLT, Int.reduceNeg, valloc_std, noSB, vhot, h2, h9, h10, h11, FV3, Int.reduceEq, tm, e20]
      exact k1
def I55m (σ0 : St) (fk fv : Val → Bool) (l : List Val) : Nat → (Nat → V) → St → Prop := fun i e σ => e 110 = .int .i64 i ∧ i ≤ l.length ∧ (∀ j, j < i → okAt fk fv l j = true) ∧ Keep σ0 σ
theorem of_map {T : Ty} {ks vs : List UInt8} {fk fv : Val → Bool} (hT : tyD T ≤ 4) (hls : listS (tyB T) = [] ∧ isListS (tyB T) = false ∧ keyS (tyB T) = ks ∧ valS (tyB T) = vs ∧ isMapS (tyB T) = true) (hTK : tyK T = 5) (hTf : fitsT T = fitMap fk fv)
    (Hk : FitOk 44 ks fk) (Hv : FitOk 44 vs fv) : FitOk 44 (tyB T) (fitsT T) := by
  intro v c σ hwt ha
  have key : ∃ q σ', Does Try.prog prims 44 [.agg c, .str (tyB T)] σ q σ' ∧ q = .ret (.bool (fitsT T v)) ∧ Keep σ σ' := by
    obtain ⟨k, n, t, l, w, rfl, rfl, hw, ik, im⟩ := ha.inv
    apply k44_is.does (by simp)
    obtain ⟨σ2, hσ2⟩ : ∃ σ2 : St, σ2 = ⟨σ.objs ++ [Ob.cells [.int .i64 k, .int .i64 n, .str t, w]], σ.toks⟩ := ⟨_, rfl⟩
    have hk2 : Keep σ σ2 := by rw [hσ2]; exact (Keep.refl σ).push _
    have q2 : IsV σ2 σ.objs.length [.int .i64 k, .int .i64 n, .str t, w] := by rw [hσ2]; exact push_new _ _
    have hlen := tyB_len T
    rw [weight] at hwt
    have hll := weights_len l
    simp only [(vE k44.eq_1), (oE k44_r0.eq_1), WK, vop, evAll, evOpt, evParts, vbuiltin, vun, vextract, Nat.reduceLT, Nat.reduceEqDiff, ↓reduceIte, reduceCtorEq, Nat.reduceAdd, Int.reduceLT, Int.reduceNeg, valloc_std, noSB, vhot, List.getD_cons_zero, List.getD_cons_succ, vbox, vcells, ← hσ2]
    refine Ev.cut (of_r1 (T := T) hT (t := t) (k := k) (n := n) (w := w) (q := σ.objs.length) (by simp [upd_some]) (by simp [upd_some]) q2) ?_
    rintro x en s3 ⟨rfl, k3, h22⟩ hwr
    have h1 : en 1 = .str (tyB T) := (hwr 1 (by decide)).trans (by simp [upd_some])
    have h2 : en 2 = .optr σ.objs.length 0 := (hwr 2 (by decide)).trans (by simp [upd_some])
    clear hwr
    have q3 := k3.atV q2
    by_cases hk : k = tyK T
    · rw [decide_eq_true hk] at h22
      have hk : k = 5 := by rw [← hTK]; exact hk
      subst hk
      have hk3 := hk2.trans k3
      clear hσ2 q2 ha
      rw [hTf]
      unfold fitMap
      have ht2 := tmod2 l.length
      have e20 : ((2 : Int) = 0) = False := eq_false (by decide)
      obtain ⟨g1, g2, g3, g4, g5⟩ := hls
      have hm := refmap_does (tyB T) (by omega) s3
      rw [g3, g4] at hm
      by_cases hn : n = 0
      · by_cases ht : t = []
        · simp only [k44_a, WK, vop, evAll, evOpt, evParts, vbuiltin, vun, vextract, Nat.reduceLT, Nat.reduceEqDiff, ↓reduceIte, reduceCtorEq, Nat.reduceAdd, Int.reduceLT, Int.reduceNeg, valloc_std, noSB, vhot, Int.reduceEq, Int.reduceLE, FV0, FV1, FV2, FV3, h1, h2, q3.kind, q3.num, q3.text, q3.list, hw.len, vlen_str T9, ofVal_str, strBin, eq_self, Bool.true_and, Bool.and_true, Bool.false_and, Bool.and_false, Bool.or_true, Bool.true_or, Bool.or_false, Bool.false_or, h22, hn, ht]
          refine KD.ret hm ?_
          simp only [k44_a, WK, vop, evAll, evOpt, evParts, vbuiltin, vun, vextract, Nat.reduceLT, Nat.reduceEqDiff, ↓reduceIte, reduceCtorEq, Nat.reduceAdd, Int.reduceLT, Int.reduceNeg, valloc_std, noSB, vhot, Int.reduceEq, Int.reduceLE, FV0, FV1, FV2, FV3, h1, h2, q3.kind, q3.num, q3.text, q3.list, hw.len, vlen_str T9, ofVal_str, strBin, eq_self, Bool.true_and, Bool.and_true, Bool.false_and, Bool.and_false, Bool.or_true, Bool.true_or, Bool.or_false, Bool.false_or, ht2, e20]
          by_cases hev : l.length % 2 = 0
          · have hev1 : ¬ ((l.length % 2 : Nat) : Int) = 1 := by omega
            have hev2 : (l.length : Int) % 2 = 0 := by omega
            simp only [k44_a, WK, vop, evAll, evOpt, evParts, vbuiltin, vun, vextract, Nat.reduceLT, Nat.reduceEqDiff, ↓reduceIte, reduceCtorEq, Nat.reduceAdd, Int.reduceLT, Int.reduceNeg, valloc_std, noSB, vhot, Int.reduceEq, Int.reduceLE, FV0, FV1, FV2, FV3, h1, h2, q3.kind, q3.num, q3.text, q3.list, hw.len, vlen_str T9, ofVal_str, strBin, eq_self, Bool.true_and, Bool.and_true, Bool.false_and, Bool.and_false, Bool.or_true, Bool.true_or, Bool.or_false, Bool.false_or, hev1, hev2]
            by_cases hgt : (128 : Int) < l.length
            · have hle : ¬ (l.length : Int) ≤ 128 := by omega
              simp only [k44_a, WK, vop, evAll, evOpt, evParts, vbuiltin, vun, vextract, Nat.reduceLT, Nat.reduceEqDiff, ↓reduceIte, reduceCtorEq, Nat.reduceAdd, Int.reduceLT, Int.reduceNeg, valloc_std, noSB, vhot, Int.reduceEq, Int.reduceLE, FV0, FV1, FV2, FV3, h1, h2, q3.kind, q3.num, q3.text, q3.list, hw.len, vlen_str T9, ofVal_str, strBin, eq_self, Bool.true_and, Bool.and_true, Bool.false_and, Bool.and_false, Bool.or_true, Bool.true_or, Bool.or_false, Bool.false_or, hgt, hle]
              exact hk3
            · have hle : (l.length : Int) ≤ 128 := by omega
              simp only [k44_a, WK, vop, evAll, evOpt, evParts, vbuiltin, vun, vextract, Nat.reduceLT, Nat.reduceEqDiff, ↓reduceIte, reduceCtorEq, Nat.reduceAdd, Int.reduceLT, Int.reduceNeg, valloc_std, noSB, vhot, Int.reduceEq, Int.reduceLE, FV0, FV1, FV2, FV3, h1, h2, q3.kind, q3.num, q3.text, q3.list, hw.len, vlen_str T9, ofVal_str, strBin, eq_self, Bool.true_and, Bool.and_true, Bool.false_and, Bool.and_false, Bool.or_true, Bool.true_or, Bool.or_false, Bool.false_or, hgt, hle]
              refine Ev.loopF (I55m s3 fk fv l) (fun i => l.length - i) 0 ⟨by simp [upd_some], by simp, fun j hj => by omega, Keep.refl _⟩ ?_
              rintro i ei σ1 ⟨h110, hi, hall, hk⟩ hf
              have h109 : ei 109 = .int .i64 l.length := (hf 109 (by decide)).trans (by simp [upd_some])
              have h108 : ei 108 = w := (hf 108 (by decide)).trans (by simp [upd_some])
              have h7' : ei 7 = .str ks := (hf 7 (by decide)).trans (by simp [upd_some])
              have h8' : ei 8 = .str vs := (hf 8 (by decide)).trans (by simp [upd_some])
              have h2' : ei 2 = .optr σ.objs.length 0 := (hf 2 (by decide)).trans (by simp [upd_some, h2])
              clear hf
              by_cases hlt : i < l.length
              · have hlt' : (i : Int) < l.length := by omega
                have hwi : IntKind.i64.wrap ((i : Int) + 1) = ((i + 1 : Nat) : Int) := idx_wrap (by omega)
                obtain ⟨cs, c, ha0, hld, hc⟩ := hw.get hlt
                obtain ⟨s5, hs5⟩ : ∃ s5 : St, s5 = ⟨(σ1.objs ++ [Ob.cells val0C]).set σ1.objs.length (Ob.cells c), σ1.toks⟩ := ⟨_, rfl⟩
                have p5 : IsV s5 σ1.objs.length c := by rw [hs5]; exact IsV.made
                have k5 : Keep σ1 s5 := by rw [hs5]; exact (Keep.refl σ1).madeV _ _
                have q5 := (hk.trans k5).atV q3
                have tmi := tmod2 i
                have step : ∀ (e6 : Nat → V), e6 2 = .optr σ.objs.length 0 → e6 9 = .int .i64 i → e6 10 = .optr σ1.objs.length 0 → e6 11 = .str (if i % 2 = 1 then vs else ks) → e6 110 = .int .i64 i → Ev Try.prog prims 145 (.region k44_r28) e6 s5 (fun x e' σ' => x = .normal ∧ Keep s5 σ' ∧ e' 143 = .bool (!okAt fk fv l i) ∧ e' 110 = .int .i64 i) := by
                  intro e6 z2 z9 z10 z11 z110
                  refine Ev.cut (of_step (t := t) (k := 5) (n := n) Hk Hv hw (by omega) hlt z2 z9 z10 z11 q5 p5 hc) ?_
                  rintro x e' s6 ⟨rfl, k6, h143⟩ hwr
                  exact ⟨rfl, k6, h143, (hwr 110 (by decide)).trans z110⟩
                simp only [(vE k44_l1.eq_1), (oE k44_r23.eq_1), (oE k44_r24.eq_1), (oE k44_r25.eq_1), (oE k44_r26.eq_1), WK, vop, evAll, evOpt, evParts, vbuiltin, vun, vextract, Nat.reduceLT, Nat.reduceEqDiff, ↓reduceIte, reduceCtorEq, Nat.reduceAdd, Int.reduceLT, Int.reduceNeg, valloc_std, noSB, vhot, h7', h108, h109, h110, hlt', ha0, hld, VZ24, vbox, vcells, IsV.new hc.len (show val0C.length = 4 from rfl) hc.one, ← hs5, tmi, e20]
                by_cases hev3 : i % 2 = 0
                · have hm1 : ¬ ((i % 2 : Nat) : Int) = 1 := by omega
                  simp only [(oE k44_r27.eq_1), WK, vop, evAll, evOpt, evParts, vbuiltin, vun, vextract, Nat.reduceLT, Nat.reduceEqDiff, ↓reduceIte, reduceCtorEq, Nat.reduceAdd, Int.reduceLT, Int.reduceNeg, valloc_std, noSB, vhot, hm1, h8']
                  rw [← Ev_region]
                  refine Ev.cut (step _ (by simp [upd_some, h2']) (by simp [upd_some]) (by simp [upd_some]) (by rw [if_neg (by omega)]; simp [upd_some]) (by simp [upd_some, h110])) ?_
                  rintro x e' s6 ⟨rfl, k6, h143, h110'⟩ hwr
                  clear hwr
                  cases hok : okAt fk fv l i with
                  | true =>
                    rw [hok] at h143
                    simp only [(oE k44_r30.eq_1), WK, vop, evAll, evOpt, evParts, vbuiltin, vun, vextract, Nat.reduceLT, Nat.reduceEqDiff, ↓reduceIte, reduceCtorEq, Nat.reduceAdd, Int.reduceLT, Int.reduceNeg, valloc_std, noSB, vhot, h143, h110', hwi]
                    refine ⟨i + 1, ⟨by simp [upd_some], hlt, fun j hj => ?_, (hk.trans k5).trans k6⟩, by omega⟩
                    rcases Nat.lt_or_ge j i with h9 | h9
                    · exact hall j h9
                    · have : j = i := by omega
                      subst this
                      exact hok
                  | false =>
                    rw [hok] at h143
                    simp only [(oE k44_r29.eq_1), WK, vop, evAll, evOpt, evParts, vbuiltin, vun, vextract, Nat.reduceLT, Nat.reduceEqDiff, ↓reduceIte, reduceCtorEq, Nat.reduceAdd, Int.reduceLT, Int.reduceNeg, valloc_std, noSB, vhot, h143]
                    exact ⟨by rw [okAll_false hlt hok], hk3.trans ((hk.trans k5).trans k6)⟩
                · have hm1 : ((i % 2 : Nat) : Int) = 1 := by omega
                  simp only [(oE k44_r27.eq_1), WK, vop, evAll, evOpt, evParts, vbuiltin, vun, vextract, Nat.reduceLT, Nat.reduceEqDiff, ↓reduceIte, reduceCtorEq, Nat.reduceAdd, Int.reduceLT, Int.reduceNeg, valloc_std, noSB, vhot, hm1, h8']
                  rw [← Ev_region]
                  refine Ev.cut (step _ (by simp [upd_some, h2']) (by simp [upd_some]) (by simp [upd_some]) (by rw [if_pos (by omega)]; simp [upd_some]) (by simp [upd_some, h110])) ?_
                  rintro x e' s6 ⟨rfl, k6, h143, h110'⟩ hwr
                  clear hwr
                  cases hok : okAt fk fv l i with
                  | true =>
                    rw [hok] at h143
                    simp only [(oE k44_r30.eq_1), WK, vop, evAll, evOpt, evParts, vbuiltin, vun, vextract, Nat.reduceLT, Nat.reduceEqDiff, ↓reduceIte, reduceCtorEq, Nat.reduceAdd, Int.reduceLT, Int.reduceNeg, valloc_std, noSB, vhot, h143, h110', hwi]
                    refine ⟨i + 1, ⟨by simp [upd_some], hlt, fun j hj => ?_, (hk.trans k5).trans k6⟩, by omega⟩
                    rcases Nat.lt_or_ge j i with h9 | h9
                    · exact hall j h9
                    · have : j = i := by omega
                      subst this
                      exact hok
                  | false =>
                    rw [hok] at h143
                    simp only [(oE k44_r29.eq_1), WK, vop, evAll, evOpt, evParts, vbuiltin, vun, vextract, Nat.reduceLT, Nat.reduceEqDiff, ↓reduceIte, reduceCtorEq, Nat.reduceAdd, Int.reduceLT, Int.reduceNeg, valloc_std, noSB, vhot, h143]
                    exact ⟨by rw [okAll_false hlt hok], hk3.trans ((hk.trans k5).trans k6)⟩
              · have hlt' : ¬ (i : Int) < l.length := by omega
                have q4 := hk.atV q3
                simp only [k44_a, WK, vop, evAll, evOpt, evParts, vbuiltin, vun, vextract, Nat.reduceLT, Nat.reduceEqDiff, ↓reduceIte, reduceCtorEq, Nat.reduceAdd, Int.reduceLT, Int.reduceNeg, valloc_std, noSB, vhot, h109, h110, hlt']
                exact ⟨by rw [okAll_true fun j hj => hall j (by omega)], hk3.trans hk⟩
          · have hev1 : ((l.length % 2 : Nat) : Int) = 1 := by omega
            have hev2 : ¬ (l.length : Int) % 2 = 0 := by omega
            simp only [k44_a, WK, vop, evAll, evOpt, evParts, vbuiltin, vun, vextract, Nat.reduceLT, Nat.reduceEqDiff, ↓reduceIte, reduceCtorEq, Nat.reduceAdd, Int.reduceLT, Int.reduceNeg, valloc_std, noSB, vhot, Int.reduceEq, Int.reduceLE, FV0, FV1, FV2, FV3, h1, h2, q3.kind, q3.num, q3.text, q3.list, hw.len, vlen_str T9, ofVal_str, strBin, eq_self, Bool.true_and, Bool.and_true, Bool.false_and, Bool.and_false, Bool.or_true, Bool.true_or, Bool.or_false, Bool.false_or, hev1, hev2]
            exact hk3
        · simp only [k44_a, WK, vop, evAll, evOpt, evParts, vbuiltin, vun, vextract, Nat.reduceLT, Nat.reduceEqDiff, ↓reduceIte, reduceCtorEq, Nat.reduceAdd, Int.reduceLT, Int.reduceNeg, valloc_std, noSB, vhot, Int.reduceEq, Int.reduceLE, FV0, FV1, FV2, FV3, h1, h2, q3.kind, q3.num, q3.text, q3.list, hw.len, vlen_str T9, ofVal_str, strBin, eq_self, Bool.true_and, Bool.and_true, Bool.false_and, Bool.and_false, Bool.or_true, Bool.true_or, Bool.or_false, Bool.false_or, h22, hn, ht]
          exact hk3
      · simp only [k44_a, WK, vop, evAll, evOpt, evParts, vbuiltin, vun, vextract, Nat.reduceLT, Nat.reduceEqDiff, ↓reduceIte, reduceCtorEq, Nat.reduceAdd, Int.reduceLT, Int.reduceNeg, valloc_std, noSB, vhot, Int.reduceEq, Int.reduceLE, FV0, FV1, FV2, FV3, h1, h2, q3.kind, q3.num, q3.text, q3.list, hw.len, vlen_str T9, ofVal_str, strBin, eq_self, Bool.true_and, Bool.and_true, Bool.false_and, Bool.and_false, Bool.or_true, Bool.true_or, Bool.or_false, Bool.false_or, h22, hn]
        exact hk3
    · rw [fitsT_kind hk]
      rw [decide_eq_false hk] at h22
      simp only [(oE k44_r2.eq_1), WK, vop, evAll, evOpt, evParts, vbuiltin, vun, vextract, Nat.reduceLT, Nat.reduceEqDiff, ↓reduceIte, reduceCtorEq, Nat.reduceAdd, Int.reduceLT, Int.reduceNeg, valloc_std, noSB, vhot, h22]
      exact hk2.trans k3
  obtain ⟨q, σ', h1, rfl, h3⟩ := key
  exact ⟨σ', h1, h3⟩
theorem of_does : ∀ (T : Ty), tyD T ≤ 4 → FitOk 44 (tyB T) (fitsT T)
  | .int, _ => of_int
  | .bool, _ => of_bool
  | .text, _ => of_text
  | .list e, h => of_list h (of_does e (by simp only [tyD] at h; omega))
  | .mapI e, h => of_map h (tyS_mapI h) rfl rfl of_int (of_does e (by simp only [tyD] at h; omega))
  | .mapT e, h => of_map h (tyS_mapT h) rfl rfl of_text (of_does e (by simp only [tyD] at h; omega))
theorem reffits_does {s : List UInt8} {v : Val} {c : List V} (hl : s.length ≤ 4294967296) (σ : St) (hwt : weight v ≤ 4294967296) (ha : ValC v c) : ∃ σ', Does Try.prog prims 22 [.agg c, .str s] σ (.ret (.bool (fitsS s v))) σ' ∧ Keep σ σ' := by
  have key : ∃ q σ', Does Try.prog prims 22 [.agg c, .str s] σ q σ' ∧ q = .ret (.bool (fitsS s v)) ∧ Keep σ σ' := by
    apply k22_is.does (by simp)
    obtain ⟨s1, hs1⟩ : ∃ s1 : St, s1 = ⟨σ.objs ++ [Ob.cells c], σ.toks⟩ := ⟨_, rfl⟩
    have k1 : Keep σ s1 := by rw [hs1]; exact (Keep.refl σ).push _
    have q1 : IsV s1 σ.objs.length c := by rw [hs1]; exact push_new _ _
    simp only [k22_a, WK, vop, evAll, evOpt, evParts, vbuiltin, vun, vextract, Nat.reduceLT, Nat.reduceEqDiff, ↓reduceIte, reduceCtorEq, Nat.reduceAdd, Int.reduceLT, Int.reduceNeg, valloc_std, noSB, vhot, List.getD_cons_zero, List.getD_cons_succ, vbox, vcells, ← hs1]
    refine KD.ret (reftype_does s hl s1) ?_
    unfold fitsS
    cases h : tyS s with
    | none =>
      simp only [k22_a, WK, vop, evAll, evOpt, evParts, vbuiltin, vun, vextract, Nat.reduceLT, Nat.reduceEqDiff, ↓reduceIte, reduceCtorEq, Nat.reduceAdd, Int.reduceLT, Int.reduceNeg, valloc_std, noSB, vhot, Option.isSome_none]
      exact k1
    | some T =>
      obtain ⟨rfl, h4⟩ := tyS_iff.1 h
      obtain ⟨s2, d2, k2⟩ := refweight_does s1 hwt ha
      have q2 := k2.atV q1
      obtain ⟨s3, d3, k3⟩ := of_does T h4 v c s2 hwt ha
      simp only [k22_a, WK, vop, evAll, evOpt, evParts, vbuiltin, vun, vextract, Nat.reduceLT, Nat.reduceEqDiff, ↓reduceIte, reduceCtorEq, Nat.reduceAdd, Int.reduceLT, Int.reduceNeg, valloc_std, noSB, vhot, List.getD_cons_zero, List.getD_cons_succ, Option.isSome_some, q1.load ha.len]
      refine KD.ret d2 ?_
      by_cases hb : (weight v : Int) ≤ 16384
      · simp only [k22_a, WK, vop, evAll, evOpt, evParts, vbuiltin, vun, vextract, Nat.reduceLT, Nat.reduceEqDiff, ↓reduceIte, reduceCtorEq, Nat.reduceAdd, Int.reduceLT, Int.reduceNeg, valloc_std, noSB, vhot, List.getD_cons_zero, List.getD_cons_succ, hb, q2.load ha.len, Bool.true_and]
        refine KD.ret d3 ?_
        simp only [k22_a, WK, vop, evAll, evOpt, evParts, vbuiltin, vun, vextract, Nat.reduceLT, Nat.reduceEqDiff, ↓reduceIte, reduceCtorEq, Nat.reduceAdd, Int.reduceLT, Int.reduceNeg, valloc_std, noSB, vhot]
        exact (k1.trans k2).trans k3
      · simp only [k22_a, WK, vop, evAll, evOpt, evParts, vbuiltin, vun, vextract, Nat.reduceLT, Nat.reduceEqDiff, ↓reduceIte, reduceCtorEq, Nat.reduceAdd, Int.reduceLT, Int.reduceNeg, valloc_std, noSB, vhot, hb, Bool.false_and]
        exact k1.trans k2
  obtain ⟨q, σ', h1, rfl, h3⟩ := key
  exact ⟨σ', h1, h3⟩
end
end Go.Proofs.Ytplhelapcpcncaa.Q

set_option linter.unusedVariables false
set_option linter.unusedSimpArgs false
set_option maxRecDepth 100000
namespace Go.Proofs.Ytplhelapcpcncaa.Q
open Go Go.RowKit Go.Proofs
def I16 (n : Nat) (σ0 : St) (out : List UInt8) (x : Nat) : Nat → (Nat → V) → St → Prop := fun y e σ => y < 2 ^ 63 ∧ e 1 = .int .i64 y ∧ ∃ bs, OwnV 5 n σ (e 5) bs ∧ Keep σ0 σ ∧ bs ++ putN y = out ++ putN x ∧ bs.length ≤ out.length + 9
theorem refput_loop {n : Nat} {σ0 σ : St} (hn : n = σ0.toks.length) {out : List UInt8} {x : Nat} (hx : x < 2 ^ 63) (hlen : out.length ≤ 140737488355000) {e : Nat → V} (h1 : e 1 = .int .i64 x) (h5 : OwnV 5 n σ (e 5) out) (hk : Keep σ0 σ) :
    Ev Try.prog prims 27 (.loop k51_l0) e σ (fun ex e' σ' => ex = .exit 0 ∧ Keep σ0 σ' ∧ ∃ y bs, y ≤ 127 ∧ e' 1 = .int .i64 (y : Nat) ∧ OwnV 5 n σ' (e' 5) bs ∧ bs ++ putN y = out ++ putN x) := by
  have hpl : (putN x).length ≤ 9 := putN_len x 8 (by omega)
  refine Ev.loopF (I16 n σ0 out x) (fun y => y) x ⟨hx, h1, out, h5, hk, rfl, by omega⟩ ?_
  rintro y e σ ⟨hy, h1, bs, h5, hk, hbs, hbl⟩ hf
  have hlb : bs.length + (putN y).length = out.length + (putN x).length := by rw [← List.length_append, hbs, List.length_append]
  by_cases hgt : 127 < y
  · have hgt' : (128 : Int) ≤ y := by omega
    have hb := buildByte BT (n := y % 128 + 128) (by omega)
    have hwb : IntKind.u8.wrap ((y % 128 + 128 : Nat) : Int) = ((y % 128 + 128 : Nat) : Int) := wrap_u8 (by omega) (by omega)
    have hrem : Int.tmod (y : Int) 128 = ((y % 128 : Nat) : Int) := rfl
    have hadd : IntKind.i64.wrap (((y % 128 : Nat) : Int) + 128) = ((y % 128 + 128 : Nat) : Int) := by rw [show (((y % 128 : Nat) : Int) + 128) = ((y % 128 + 128 : Nat) : Int) from by omega]; exact wrap_nat (by omega)
    have hquo : Int.tdiv (y : Int) 128 = ((y / 128 : Nat) : Int) := rfl
    have hwq : IntKind.i64.wrap ((y / 128 : Nat) : Int) = ((y / 128 : Nat) : Int) := wrap_nat (by omega)
    obtain ⟨v', σ', ha, ho, hk'⟩ := h5.append BT hn hk T22 hb.2 (by simp; omega)
    simp only [k51_a, WK, vop, evAll, evOpt, evParts, vbuiltin, vun, vextract, Nat.reduceLT, Nat.reduceEqDiff, ↓reduceIte, reduceCtorEq, Nat.reduceAdd, Int.reduceLT, Int.reduceNeg, valloc_std, noSB, vhot, h1, hgt', hrem, hadd, vconv, T3, T5, hwb, hb.1, ha, hquo, hwq, Int.reduceEq]
    have hput : putN y = UInt8.ofNat (y % 128 + 128) :: putN (y / 128) := by rw [putN, dif_pos hgt]
    refine ⟨y / 128, ⟨by omega, by simp [upd_some], _, by simp only [upd_some, ↓reduceIte, Nat.reduceEqDiff]; exact ho, hk', ?_, ?_⟩, by omega⟩
    · rw [← hbs, hput, List.append_assoc]; rfl
    · have : (putN y).length = (putN (y / 128)).length + 1 := by rw [hput]; rfl
      simp
      omega
  · have hgt' : ¬ (128 : Int) ≤ y := by omega
    simp only [k51_a, WK, vop, evAll, evOpt, evParts, vbuiltin, vun, vextract, Nat.reduceLT, Nat.reduceEqDiff, ↓reduceIte, reduceCtorEq, Nat.reduceAdd, Int.reduceLT, Int.reduceNeg, valloc_std, noSB, vhot, h1, hgt']
    exact ⟨hk, y, bs, by omega, rfl, h5, hbs⟩
theorem refput_does {v : V} {bs : List UInt8} {x : Int} (hv : BtsV v bs) (hx : InI64 x) (hlen : bs.length ≤ 140737488300000) (σ : St) :
    ∃ r σ', Does Try.prog prims 51 [v, .int .i64 x] σ (.ret r) σ' ∧ Keep σ σ' ∧ OwnV 5 σ.toks.length σ' r (bs ++ putN x.toNat) := by
  have key : ∃ r σ', Does Try.prog prims 51 [v, .int .i64 x] σ r σ' ∧ ∃ r', r = .ret r' ∧ Keep σ σ' ∧ OwnV 5 σ.toks.length σ' r' (bs ++ putN x.toNat) := by
    apply k51_is.does (by simp)
    have hI2 : x.toNat < 2 ^ 63 := by unfold InI64 at hx; omega
    have hpl : (putN x.toNat).length ≤ 9 := putN_len x.toNat 8 (by omega)
    have ho1 : OwnV 5 σ.toks.length σ (.slice .exact 1 [] 0) [] := .inr ⟨_, rfl, .inl rfl⟩
    obtain ⟨v', σ', ha, ho, hk⟩ := ho1.append BT rfl (Keep.refl σ) T22 hv (by simp; omega)
    rw [List.nil_append] at ho
    have rest : ∀ (e : Nat → V), e 1 = .int .i64 (x.toNat : Nat) → e 5 = v' → Ev Try.prog prims 27 (.loop k51_l0) e σ' (blockK 0 (seqC Try.prog prims 27 ((CC.region k51_r7).seq CC.ret) (fnK Try.prog 27 [ResultVar.tmp 4] fun r σ' => ∃ r', r = .ret r' ∧ Keep σ σ' ∧ OwnV 5 σ.toks.length σ' r' (bs ++ putN x.toNat)))) := by
      intro e h1 h5
      refine Ev.cut (refput_loop (out := bs) (x := x.toNat) rfl hI2 (by omega) h1 (by rw [h5]; exact ho) hk) ?_
      rintro ex e' σ2 ⟨rfl, hk2, y, bs2, hy, h1, h5', heq⟩ _
      have hputy : putN y = [UInt8.ofNat y] := by rw [putN, dif_neg (by omega)]
      have hb := buildByte BT (n := y) (by omega)
      have hwb : IntKind.u8.wrap (y : Int) = y := wrap_u8 (by omega) (by omega)
      have hl2 : bs2.length + 1 = bs.length + (putN x.toNat).length := by rw [← List.length_append, ← heq, List.length_append, hputy]; rfl
      obtain ⟨v2, σ3, ha, ho, hk'⟩ := h5'.append BT rfl hk2 T22 hb.2 (by simp; omega)
      simp only [k51_a, WK, vop, evAll, evOpt, evParts, vbuiltin, vun, vextract, Nat.reduceLT, Nat.reduceEqDiff, ↓reduceIte, reduceCtorEq, Nat.reduceAdd, Int.reduceLT, Int.reduceNeg, valloc_std, noSB, vhot, h1, vconv, T3, T5, hwb, hb.1, ha]
      exact ⟨_, rfl, hk', by rw [← heq, hputy]; exact ho⟩
    by_cases hneg : x < 0
    · simp only [k51_a, WK, vop, evAll, evOpt, evParts, vbuiltin, vun, vextract, Nat.reduceLT, Nat.reduceEqDiff, ↓reduceIte, reduceCtorEq, Nat.reduceAdd, Int.reduceLT, Int.reduceNeg, valloc_std, noSB, vhot, List.getD_cons_zero, List.getD_cons_succ, build0 BT, ha, hneg]
      exact rest _ (by have : x.toNat = 0 := by omega
                       simp [upd_some, this]) (by simp [upd_some])
    · simp only [k51_a, WK, vop, evAll, evOpt, evParts, vbuiltin, vun, vextract, Nat.reduceLT, Nat.reduceEqDiff, ↓reduceIte, reduceCtorEq, Nat.reduceAdd, Int.reduceLT, Int.reduceNeg, valloc_std, noSB, vhot, List.getD_cons_zero, List.getD_cons_succ, build0 BT, ha, hneg]
      exact rest _ (by simp [upd_some]; omega) (by simp [upd_some])
  obtain ⟨r, σ', h1, r', rfl, h2, h3⟩ := key
  exact ⟨r', σ', h1, h2, h3⟩
end Go.Proofs.Ytplhelapcpcncaa.Q

set_option linter.unusedVariables false
set_option linter.unusedSimpArgs false
namespace Go.Proofs.Ytplhelapcpcncaa.Q
open Go Go.RowKit Go.Proofs
/-! ### The bytes of values -/
def zig (n : Int) : List Int := if 0 ≤ n then [0, n] else [1, -(n + 1)]
def headV (k : Int) (len : Nat) : Int := if k = 5 then ((len / 2 : Nat) : Int) else (len : Int)
mutual
def putV : Val → List UInt8
  | .mk k n t l => if k = 1 then putS (zig n) else if k = 2 then putS [n] else if k = 3 then putS [(t.length : Int)] ++ t else putS [headV k l.length] ++ putL l
def putL : List Val → List UInt8
  | [] => []
  | v :: l => putV v ++ putL l
end
theorem putL_append (a b : List Val) : putL (a ++ b) = putL a ++ putL b := by
  induction a with
  | nil => rfl
  | cons v a ih => rw [List.cons_append, putL, putL, ih, List.append_assoc]
theorem putL_take_succ {l : List Val} {i : Nat} (h : i < l.length) : putL (l.take (i + 1)) = putL (l.take i) ++ putV l[i] := by
  rw [List.take_succ_eq_append_getElem h, putL_append]
  simp [putL]
theorem zig_in {n : Int} (h : InI64 n) : ∀ x ∈ zig n, InI64 x := by
  unfold zig
  unfold InI64 at *
  split <;> simp <;> omega
theorem zig_len (n : Int) : (zig n).length = 2 := by unfold zig; split <;> rfl
theorem putV_len : ∀ (n : Nat) {v : Val} {c : List V}, weight v ≤ n → n ≤ 4294967296 → ValC v c → (putV v).length ≤ 18 * weight v
  | 0, v, c, hn, _, _ => by have := weight_pos v; omega
  | n + 1, v, c, hn, hb, hc => by
    obtain ⟨k, m, t, l, w, rfl, rfl, hw, ik, im⟩ := hc.inv
    rw [weight] at hn ⊢
    rw [putV]
    have hll := weights_len l
    have h1 := putS_len (xs := zig m) (zig_in im)
    rw [zig_len] at h1
    have h2 := putS_len (xs := [m]) (by simpa using im)
    have h3 := putS_len (xs := [(t.length : Int)]) (by simp [InI64]; omega)
    have h4 := putS_len (xs := [headV k l.length]) (by simp only [List.mem_singleton, headV]; rintro x rfl; unfold InI64; split <;> omega)
    simp only [List.length_cons, List.length_nil] at h2 h3 h4
    have rows : ∀ {l : List Val} {cs : List V}, weights l ≤ n → ValsC l cs → (putL l).length ≤ 18 * weights l := by
      intro l
      induction l with
      | nil => intro cs _ h; simp [putL]
      | cons v l ih =>
        intro cs hl h
        cases h with
        | cons h1 h2 =>
          rw [weights] at hl ⊢
          rw [putL, List.length_append]
          have h3 := putV_len n (by omega) (by omega) h1
          have h4 := ih (by omega) h2
          omega
    have h5 : (putL l).length ≤ 18 * weights l := by
      cases hw with
      | nil => simp [putL]
      | row hcs => exact rows (by omega) hcs
    split
    · omega
    split
    · omega
    split
    · rw [List.length_append]; omega
    · rw [List.length_append]; omega
theorem buildInts2 {a b : Int} (h : ∀ x ∈ [a, b], InI64 x) : ∃ v, vbuildSlice Try.prog 70 2 [(0, .int .i64 a), (1, .int .i64 b)] = some v ∧ IntsV v [a, b] := by
  refine ⟨.slice .exact 1 [i64V a, i64V b] 2, ?_, .inr ⟨.exact, rfl⟩, h⟩
  simp [vbuildSlice, IT.u, IT.s, IT.z, vcells, vfill, zeroCellsV, setAll, i64V]
  simp [List.range, List.range.loop]
theorem zigzag_does {n : Int} (h : InI64 n) (σ : St) : ∃ w, Does Try.prog prims 68 [.int .i64 n] σ (.ret w) σ ∧ IntsV w (zig n) := by
  have hz := zig_in h
  unfold zig at *
  by_cases h0 : 0 ≤ n
  · rw [if_pos h0] at hz ⊢
    obtain ⟨v, h1, h2⟩ := buildInts2 hz
    refine ⟨v, ?_, h2⟩
    apply k68_is.ret (by simp)
    simp only [k68_a, WK, vop, evAll, evOpt, evParts, vbuiltin, vun, vextract, Nat.reduceLT, Nat.reduceEqDiff, ↓reduceIte, reduceCtorEq, Nat.reduceAdd, Int.reduceLT, Int.reduceNeg, valloc_std, noSB, vhot, ofVal_nil, h0, h1]
  · rw [if_neg h0] at hz ⊢
    obtain ⟨v, h1, h2⟩ := buildInts2 hz
    refine ⟨v, ?_, h2⟩
    apply k68_is.ret (by simp)
    have w1 : IntKind.i64.wrap (n + 1) = n + 1 := wrap_i64 (by unfold InI64 at h; omega) (by unfold InI64 at h; omega)
    have w2 : IntKind.i64.wrap (0 - (n + 1)) = -(n + 1) := by rw [wrap_i64 (by unfold InI64 at h; omega) (by unfold InI64 at h; omega)]; omega
    simp only [k68_a, WK, vop, evAll, evOpt, evParts, vbuiltin, vun, vextract, Nat.reduceLT, Nat.reduceEqDiff, ↓reduceIte, reduceCtorEq, Nat.reduceAdd, Int.reduceLT, Int.reduceNeg, valloc_std, noSB, vhot, ofVal_nil, h0, w1, w2, h1]
def I60 (σ0 : St) (bs : List UInt8) (l : List Val) : Nat → (Nat → V) → St → Prop := fun i e σ => e 50 = .int .i64 i ∧ i ≤ l.length ∧ BtsV (e 0) (bs ++ putL (l.take i)) ∧ Keep σ0 σ
set_option maxRecDepth 100000 in
theorem vputV_ok : ∀ (N : Nat), N ≤ 4294967296 → ∀ {a : Val} {c : List V} {v : V} {bs : List UInt8} (σ : St), weight a ≤ N → ValC a c → BtsV v bs → bs.length + 18 * weight a ≤ 100000000000000 → ∃ r σ', Does Try.prog prims 50 [v, .agg c] σ (.ret r) σ' ∧ Keep σ σ' ∧ BtsV r (bs ++ putV a) := by
  intro N
  induction N with
  | zero => intro _ a c v bs σ h; have := weight_pos a; omega
  | succ N ih =>
    intro hN a c v bs σ hwt ha hv hlen
    have key : ∃ q σ', Does Try.prog prims 50 [v, .agg c] σ q σ' ∧ ∃ r, q = .ret r ∧ Keep σ σ' ∧ BtsV r (bs ++ putV a) := by
      obtain ⟨k, n, t, l, w, rfl, rfl, hw, ik, im⟩ := ha.inv
      rw [weight] at hwt hlen
      rw [putV]
      have hll := weights_len l
      apply k50_is.does (by simp)
      obtain ⟨σ2, hσ2⟩ : ∃ σ2 : St, σ2 = ⟨σ.objs ++ [Ob.cells [.int .i64 k, .int .i64 n, .str t, w]], σ.toks⟩ := ⟨_, rfl⟩
      have hk2 : Keep σ σ2 := by rw [hσ2]; exact (Keep.refl σ).push _
      have q2 : IsV σ2 σ.objs.length [.int .i64 k, .int .i64 n, .str t, w] := by rw [hσ2]; exact push_new _ _
      simp only [k50_a, WK, vop, evAll, evOpt, evParts, vbuiltin, vun, vextract, Nat.reduceLT, Nat.reduceEqDiff, ↓reduceIte, reduceCtorEq, Nat.reduceAdd, Int.reduceLT, Int.reduceNeg, valloc_std, noSB, vhot, vbox, vcells, ← hσ2, ofVal_nil, FV0, q2.kind]
      by_cases h1 : k = 1
      · obtain ⟨z, dz, iz⟩ := zigzag_does im σ2
        obtain ⟨r, s3, d3, k3, o3⟩ := put_does hv iz (by rw [zig_len]; omega) σ2
        rw [if_pos h1]
        simp only [k50_a, WK, vop, evAll, evOpt, evParts, vbuiltin, vun, vextract, Nat.reduceLT, Nat.reduceEqDiff, ↓reduceIte, reduceCtorEq, Nat.reduceAdd, Int.reduceLT, Int.reduceNeg, valloc_std, noSB, vhot, FV1, q2.num, decide_eq_true h1]
        refine KD.ret dz ?_
        simp only [k50_a, WK, vop, evAll, evOpt, evParts, vbuiltin, vun, vextract, Nat.reduceLT, Nat.reduceEqDiff, ↓reduceIte, reduceCtorEq, Nat.reduceAdd, Int.reduceLT, Int.reduceNeg, valloc_std, noSB, vhot]
        refine KD.ret d3 ?_
        simp only [k50_a, WK, vop, evAll, evOpt, evParts, vbuiltin, vun, vextract, Nat.reduceLT, Nat.reduceEqDiff, ↓reduceIte, reduceCtorEq, Nat.reduceAdd, Int.reduceLT, Int.reduceNeg, valloc_std, noSB, vhot]
        exact ⟨_, rfl, hk2.trans k3, o3.bts⟩
      rw [if_neg h1]
      by_cases h2 : k = 2
      · obtain ⟨b1, b2⟩ := buildInt IT im
        obtain ⟨r, s3, d3, k3, o3⟩ := put_does hv b2 (by simp only [List.length_singleton]; omega) σ2
        rw [if_pos h2]
        simp only [k50_a, WK, vop, evAll, evOpt, evParts, vbuiltin, vun, vextract, Nat.reduceLT, Nat.reduceEqDiff, ↓reduceIte, reduceCtorEq, Nat.reduceAdd, Int.reduceLT, Int.reduceNeg, valloc_std, noSB, vhot, FV1, q2.num, decide_eq_false h1, decide_eq_true h2, b1]
        refine KD.ret d3 ?_
        simp only [k50_a, WK, vop, evAll, evOpt, evParts, vbuiltin, vun, vextract, Nat.reduceLT, Nat.reduceEqDiff, ↓reduceIte, reduceCtorEq, Nat.reduceAdd, Int.reduceLT, Int.reduceNeg, valloc_std, noSB, vhot]
        exact ⟨_, rfl, hk2.trans k3, o3.bts⟩
      rw [if_neg h2]
      by_cases h3 : k = 3
      · obtain ⟨b1, b2⟩ := buildInt IT (n := (t.length : Int)) (by unfold InI64; omega)
        obtain ⟨r, s3, d3, k3, o3⟩ := put_does hv b2 (by simp only [List.length_singleton]; omega) σ2
        have hpl := putS_len (xs := [(t.length : Int)]) (by simp [InI64]; omega)
        simp only [List.length_singleton] at hpl
        obtain ⟨v4, s4, a4, o4, k4, hob4⟩ := o3.appendS (t := 41) BT rfl k3 T9 (ys := t) (by rw [List.length_append]; omega)
        have q3 := k3.atV q2
        rw [if_pos h3]
        simp only [k50_a, WK, vop, evAll, evOpt, evParts, vbuiltin, vun, vextract, Nat.reduceLT, Nat.reduceEqDiff, ↓reduceIte, reduceCtorEq, Nat.reduceAdd, Int.reduceLT, Int.reduceNeg, valloc_std, noSB, vhot, FV2, q2.text, vlen_str T9, decide_eq_false h1, decide_eq_false h2, decide_eq_true h3, b1]
        refine KD.ret d3 ?_
        simp only [k50_a, WK, vop, evAll, evOpt, evParts, vbuiltin, vun, vextract, Nat.reduceLT, Nat.reduceEqDiff, ↓reduceIte, reduceCtorEq, Nat.reduceAdd, Int.reduceLT, Int.reduceNeg, valloc_std, noSB, vhot, FV2, q2.text, q3.text, a4]
        exact ⟨_, rfl, hk2.trans k4, by rw [← List.append_assoc]; exact o4.bts⟩
      rw [if_neg h3]
      have hhead : InI64 (headV k l.length) := by unfold InI64 headV; split <;> omega
      obtain ⟨b1, b2⟩ := buildInt IT hhead
      obtain ⟨r, s3, d3, k3, o3⟩ := put_does hv b2 (by simp only [List.length_singleton]; omega) σ2
      have hpl := putS_len (xs := [headV k l.length]) (by simpa using hhead)
      simp only [List.length_singleton] at hpl
      have q3 := k3.atV q2
      have hloop : ∀ (e : Nat → V), e 3 = .optr σ.objs.length 0 → BtsV (e 0) (bs ++ putS [headV k l.length]) → Ev Try.prog prims 59 (.seq (.seq (.region k50_r12) (.block 1 (.loop k50_l0))) (.seq (.region k50_r17) .ret)) e s3 (fnK Try.prog 59 [ResultVar.tmp 4] fun q σ' => ∃ r, q = .ret r ∧ Keep σ σ' ∧ BtsV r (bs ++ (putS [headV k l.length] ++ putL l))) := by
        intro e h3 h0
        simp only [k50_a, WK, vop, evAll, evOpt, evParts, vbuiltin, vun, vextract, Nat.reduceLT, Nat.reduceEqDiff, ↓reduceIte, reduceCtorEq, Nat.reduceAdd, Int.reduceLT, Int.reduceNeg, valloc_std, noSB, vhot, h3, FV3, q3.list, hw.len]
        refine Ev.loopF (I60 s3 (bs ++ putS [headV k l.length]) l) (fun i => l.length - i) 0 ⟨by simp [upd_some], by simp, by simpa [upd_some, putL] using h0, Keep.refl _⟩ ?_
        rintro i e1 σ1 ⟨h50, hi, hb, hk⟩ hf
        have h49 : e1 49 = .int .i64 l.length := (hf 49 (by decide)).trans (by simp [upd_some])
        have h48 : e1 48 = w := (hf 48 (by decide)).trans (by simp [upd_some])
        clear hf
        have hplt := weights_take_le l i
        have hpll : (putL (l.take i)).length ≤ 18 * weights (l.take i) := by
          have : ∀ {l : List Val} {cs : List V} (i : Nat), weights l ≤ 4294967296 → ValsC l cs → (putL (l.take i)).length ≤ 18 * weights (l.take i) := by
            intro l
            induction l with
            | nil => intro cs i _ _; simp [putL]
            | cons v l ihl =>
              intro cs i hl h
              cases h with
              | cons hc1 hc2 =>
                rw [weights] at hl
                cases i with
                | zero => simp [putL]
                | succ i =>
                  have x1 := putV_len _ (Nat.le_refl _) (by omega) hc1
                  have x2 := ihl i (by omega) hc2
                  rw [List.take_succ_cons, putL, weights, List.length_append]
                  omega
          cases hw with
          | nil => simp [putL]
          | row hc => exact this i (by omega) hc
        by_cases hlt : i < l.length
        · have hlt' : (i : Int) < l.length := by omega
          have hwi := idx_wrap (i := i) (by omega)
          obtain ⟨cs, c, ha0, hld, hc⟩ := hw.get hlt
          obtain ⟨s5, hs5⟩ : ∃ s5 : St, s5 = ⟨(σ1.objs ++ [Ob.cells val0C]).set σ1.objs.length (Ob.cells c), σ1.toks⟩ := ⟨_, rfl⟩
          have p5 : IsV s5 σ1.objs.length c := by rw [hs5]; exact IsV.made
          have k5 : Keep σ1 s5 := by rw [hs5]; exact (Keep.refl σ1).madeV _ _
          have hmem := weights_mem (List.getElem_mem hlt)
          have hts := weights_take_succ hlt
          have htl := weights_take_le l (i + 1)
          obtain ⟨r6, s6, d6, k6, o6⟩ := ih (by omega) s5 (by omega) hc hb (by simp only [List.length_append]; omega)
          simp only [k50_a, WK, vop, evAll, evOpt, evParts, vbuiltin, vun, vextract, Nat.reduceLT, Nat.reduceEqDiff, ↓reduceIte, reduceCtorEq, Nat.reduceAdd, Int.reduceLT, Int.reduceNeg, valloc_std, noSB, vhot, h48, h49, h50, hlt', ha0, hld, VZ24, vbox, vcells, IsV.new hc.len (show val0C.length = 4 from rfl) hc.one, ← hs5, p5.load hc.len]
          refine KD.ret d6 ?_
          simp only [k50_a, WK, vop, evAll, evOpt, evParts, vbuiltin, vun, vextract, Nat.reduceLT, Nat.reduceEqDiff, ↓reduceIte, reduceCtorEq, Nat.reduceAdd, Int.reduceLT, Int.reduceNeg, valloc_std, noSB, vhot, h50, hwi]
          refine ⟨i + 1, ⟨by simp [upd_some], hlt, ?_, (hk.trans k5).trans k6⟩, by omega⟩
          rw [putL_take_succ hlt, ← List.append_assoc]
          simpa [upd_some] using o6
        · have hlt' : ¬ (i : Int) < l.length := by omega
          simp only [k50_a, WK, vop, evAll, evOpt, evParts, vbuiltin, vun, vextract, Nat.reduceLT, Nat.reduceEqDiff, ↓reduceIte, reduceCtorEq, Nat.reduceAdd, Int.reduceLT, Int.reduceNeg, valloc_std, noSB, vhot, h48, h49, h50, hlt']
          rw [List.take_of_length_le (by omega), List.append_assoc] at hb
          exact ⟨_, rfl, (hk2.trans k3).trans hk, hb⟩
      simp only [WK, vop, evAll, evOpt, evParts, vbuiltin, vun, vextract, Nat.reduceLT, Nat.reduceEqDiff, ↓reduceIte, reduceCtorEq, Nat.reduceAdd, Int.reduceLT, Int.reduceNeg, valloc_std, noSB, vhot] at hloop
      have e20 : ((2 : Int) = 0) = False := eq_false (by decide)
      have w2 : IntKind.i64.wrap (Int.tdiv (l.length : Int) 2) = ((l.length / 2 : Nat) : Int) := by
        rw [Int.tdiv_eq_ediv_of_nonneg (by omega), wrap_i64 (by omega) (by omega)]; omega
      by_cases h5 : k = 5
      · have hh : headV k l.length = ((l.length / 2 : Nat) : Int) := by rw [headV, if_pos h5]
        rw [← hh] at w2
        simp only [(oE k50_r2.eq_1), (oE k50_r4.eq_1), (oE k50_r6.eq_1), (oE k50_r8.eq_1), (oE k50_r9.eq_1), (oE k50_r10.eq_1), (oE k50_r11.eq_1), WK, vop, evAll, evOpt, evParts, vbuiltin, vun, vextract, Nat.reduceLT, Nat.reduceEqDiff, ↓reduceIte, reduceCtorEq, Nat.reduceAdd, Int.reduceLT, Int.reduceNeg, valloc_std, noSB, vhot, FV0, FV3, q2.kind, q2.list, hw.len, decide_eq_false h1, decide_eq_false h2, decide_eq_false h3, decide_eq_true h5, e20, w2, b1]
        refine KD.ret d3 ?_
        simp only [WK, vop, evAll, evOpt, evParts, vbuiltin, vun, vextract, Nat.reduceLT, Nat.reduceEqDiff, ↓reduceIte, reduceCtorEq, Nat.reduceAdd, Int.reduceLT, Int.reduceNeg, valloc_std, noSB, vhot]
        exact hloop _ (by simp [upd_some]) (by simpa [upd_some] using o3.bts)
      · have hh : headV k l.length = (l.length : Int) := by rw [headV, if_neg h5]
        rw [hh] at b1 d3
        simp only [(oE k50_r2.eq_1), (oE k50_r4.eq_1), (oE k50_r6.eq_1), (oE k50_r8.eq_1), (oE k50_r9.eq_1), (oE k50_r10.eq_1), (oE k50_r11.eq_1), WK, vop, evAll, evOpt, evParts, vbuiltin, vun, vextract, Nat.reduceLT, Nat.reduceEqDiff, ↓reduceIte, reduceCtorEq, Nat.reduceAdd, Int.reduceLT, Int.reduceNeg, valloc_std, noSB, vhot, FV0, FV3, q2.kind, q2.list, hw.len, decide_eq_false h1, decide_eq_false h2, decide_eq_false h3, decide_eq_false h5, b1]
        refine KD.ret d3 ?_
        simp only [WK, vop, evAll, evOpt, evParts, vbuiltin, vun, vextract, Nat.reduceLT, Nat.reduceEqDiff, ↓reduceIte, reduceCtorEq, Nat.reduceAdd, Int.reduceLT, Int.reduceNeg, valloc_std, noSB, vhot]
        exact hloop _ (by simp [upd_some]) (by simpa [upd_some] using o3.bts)
    obtain ⟨q, σ', h1, r, rfl, h3, h4⟩ := key
    exact ⟨r, σ', h1, h3, h4⟩
theorem vput_does {a : Val} {c : List V} {v : V} {bs : List UInt8} (σ : St) (hw : weight a ≤ 4294967296) (ha : ValC a c) (hv : BtsV v bs) (hlen : bs.length ≤ 1000000000000) : ∃ r σ', Does Try.prog prims 50 [v, .agg c] σ (.ret r) σ' ∧ Keep σ σ' ∧ BtsV r (bs ++ putV a) :=
  vputV_ok _ (Nat.le_refl _) σ hw ha hv (by omega)
end Go.Proofs.Ytplhelapcpcncaa.Q

set_option linter.unusedVariables false
set_option linter.unusedSimpArgs false
namespace Go.Proofs.Ytplhelapcpcncaa.Q
open Go Go.RowKit Go.Proofs
/-! ### What fits has parts that fit -/
theorem fit_parts {T : Ty} {k n : Int} {t : List UInt8} {l : List Val} (h : fitsT T (.mk k n t l) = true) : 1 ≤ k ∧ k ≤ 5 ∧ ∀ x ∈ l, ∃ T', fitsT T' x = true := by
  have hk : k = tyK T := by
    apply Classical.byContradiction
    intro hk
    rw [fitsT_kind hk] at h
    cases h
  have hi := tyK_in T
  refine ⟨by omega, by omega, ?_⟩
  have mp : ∀ {fk fv : Val → Bool}, fitMap fk fv (.mk k n t l) = true → ∀ x ∈ l, fk x = true ∨ fv x = true := by
    intro fk fv hm x hx
    simp only [fitMap, Bool.and_eq_true, okAll, List.all_eq_true] at hm
    obtain ⟨j, hj, rfl⟩ := List.mem_iff_getElem.1 hx
    have h1 := hm.2.2.2.2.2 j (List.mem_range.2 hj)
    rw [okAt, List.getElem?_eq_getElem hj] at h1
    simp only at h1
    split at h1
    · simp only [Bool.and_eq_true] at h1
      exact .inl h1.1
    · exact .inr h1
  cases T with
  | int => simp [fitsT, fitInt] at h; intro x hx; rw [h.2.2] at hx; cases hx
  | bool => simp [fitsT, fitBool] at h; intro x hx; rw [h.2.2.2] at hx; cases hx
  | text => simp [fitsT, fitText] at h; intro x hx; rw [h.2.2.2] at hx; cases hx
  | list e =>
    simp only [fitsT, fitList, Bool.and_eq_true, List.all_eq_true] at h
    exact fun x hx => ⟨e, h.2.2.2.2 x hx⟩
  | mapI e => intro x hx; rcases mp h x hx with h | h; exact ⟨.int, h⟩; exact ⟨e, h⟩
  | mapT e => intro x hx; rcases mp h x hx with h | h; exact ⟨.text, h⟩; exact ⟨e, h⟩
theorem byte1 (b : UInt8) : vbuildSlice Try.prog 41 1 [(0, .int .u8 (b.toNat : Int))] = some (.slice .exact 1 [byteV b] 1) ∧ BtsV (.slice .exact 1 [byteV b] 1) [b] := by
  refine ⟨?_, .inr ⟨.exact, rfl⟩⟩
  obtain ⟨z, hz, hl⟩ := BT.row.z
  obtain ⟨z', hz', hl'⟩ : ∃ z', z' = vcells z ∧ z'.length = 1 := ⟨_, rfl, hl⟩
  simp only [vbuildSlice, T22, S5, hz, ← hz', hl']
  have h0 : (zeroCellsV z' (1 * 1)).length = 1 := by simp [zeroCellsV]
  have h1 : vfill (fun i => some (i * 1, 1)) (zeroCellsV z' (1 * 1)) [(0, .int .u8 (b.toNat : Int))] = some [byteV b] := by
    simp only [vfill, vcells, h0]
    rw [setAll_take _ _ _ (by simp [h0])]
    have : List.drop (0 * 1 + 1) (zeroCellsV z' (1 * 1)) = [] := List.drop_of_length_le (by rw [h0]; omega)
    simp [this, byteV]
  simp only [Nat.mul_one] at h1
  simp [h1]
/-- Its bytes are told. -/
def BOk (a : Val) : Prop := ∀ (c : List V) (σ : St), weight a ≤ 4294967296 → ValC a c → ∃ r σ', Does Try.prog prims 52 [.agg c] σ (.ret r) σ' ∧ Keep σ σ' ∧ BtsV r (putV a)
def I61 (σ0 : St) (m : Nat) (bs : List UInt8) (l : List Val) : Nat → (Nat → V) → St → Prop := fun i e σ => e 51 = .int .i64 i ∧ i ≤ l.length ∧ OwnV 5 m σ (e 3) (bs ++ putL (l.take i)) ∧ Keep σ0 σ
theorem putN_one {x : Nat} (h : x ≤ 127) : putN x = [UInt8.ofNat x] := by rw [putN, dif_neg (by omega)]
theorem putL_len {l : List Val} {w : V} (hw : ValsW l w) (hl : weights l ≤ 4294967296) (i : Nat) : (putL (l.take i)).length ≤ 18 * weights (l.take i) := by
  have : ∀ {l : List Val} {cs : List V} (i : Nat), weights l ≤ 4294967296 → ValsC l cs → (putL (l.take i)).length ≤ 18 * weights (l.take i) := by
    intro l
    induction l with
    | nil => intro cs i _ _; simp [putL]
    | cons v l ihl =>
      intro cs i hl h
      cases h with
      | cons hc1 hc2 =>
        rw [weights] at hl
        cases i with
        | zero => simp [putL]
        | succ i =>
          have x1 := putV_len _ (Nat.le_refl _) (by omega) hc1
          have x2 := ihl i (by omega) hc2
          rw [List.take_succ_cons, putL, weights, List.length_append]
          omega
  cases hw with
  | nil => simp [putL]
  | row hc => exact this i hl hc
set_option maxRecDepth 100000 in
theorem refbytes_one {k n : Int} {t : List UInt8} {l : List Val} (hk1 : 1 ≤ k) (hk5 : k ≤ 5) (H : ∀ x ∈ l, BOk x) : BOk (.mk k n t l) := by
  intro c σ hwt ha
  have key : ∃ q σ', Does Try.prog prims 52 [.agg c] σ q σ' ∧ ∃ r, q = .ret r ∧ Keep σ σ' ∧ BtsV r (putV (.mk k n t l)) := by
    obtain ⟨k', n', t', l', w, hkk, rfl, hw, ik, im⟩ := ha.inv
    injection hkk with e1 e2 e3 e4
    subst e1 e2 e3 e4
    rw [weight] at hwt
    rw [putV]
    have hll := weights_len l
    apply k52_is.does (by simp)
    obtain ⟨σ2, hσ2⟩ : ∃ σ2 : St, σ2 = ⟨σ.objs ++ [Ob.cells [.int .i64 k, .int .i64 n, .str t, w]], σ.toks⟩ := ⟨_, rfl⟩
    have hk2 : Keep σ σ2 := by rw [hσ2]; exact (Keep.refl σ).push _
    have q2 : IsV σ2 σ.objs.length [.int .i64 k, .int .i64 n, .str t, w] := by rw [hσ2]; exact push_new _ _
    simp only [k52_a, WK, vop, evAll, evOpt, evParts, vbuiltin, vun, vextract, Nat.reduceLT, Nat.reduceEqDiff, ↓reduceIte, reduceCtorEq, Nat.reduceAdd, Int.reduceLT, Int.reduceNeg, valloc_std, noSB, vhot, vbox, vcells, ← hσ2, ofVal_nil, FV0, q2.kind]
    by_cases h1 : k = 1
    · rw [if_pos h1]
      unfold zig
      by_cases h0 : n < 0
      · have w1 : IntKind.i64.wrap (n + 1) = n + 1 := wrap_i64 (by unfold InI64 at im; omega) (by unfold InI64 at im; omega)
        have w2 : IntKind.i64.wrap (0 - (n + 1)) = -(n + 1) := by rw [wrap_i64 (by unfold InI64 at im; omega) (by unfold InI64 at im; omega)]; omega
        obtain ⟨b1, b2⟩ := byte1 1
        have b1 : vbuildSlice Try.prog 41 1 [(0, .int .u8 1)] = some (.slice .exact 1 [byteV 1] 1) := b1
        obtain ⟨r, s3, d3, k3, o3⟩ := refput_does b2 (x := -(n + 1)) (by unfold InI64 at *; omega) (by simp) σ2
        simp only [k52_a, WK, vop, evAll, evOpt, evParts, vbuiltin, vun, vextract, Nat.reduceLT, Nat.reduceEqDiff, ↓reduceIte, reduceCtorEq, Nat.reduceAdd, Int.reduceLT, Int.reduceNeg, valloc_std, noSB, vhot, FV1, q2.num, decide_eq_true h1, h0, w1, w2, b1]
        refine KD.ret d3 ?_
        simp only [k52_a, WK, vop, evAll, evOpt, evParts, vbuiltin, vun, vextract, Nat.reduceLT, Nat.reduceEqDiff, ↓reduceIte, reduceCtorEq, Nat.reduceAdd, Int.reduceLT, Int.reduceNeg, valloc_std, noSB, vhot]
        rw [if_neg (by omega)]
        refine ⟨_, rfl, hk2.trans k3, ?_⟩
        have e1 : putN 1 = [1] := by rw [putN_one (by omega)]; rfl
        have : putS [1, -(n + 1)] = [1] ++ putN (-(n + 1)).toNat := by simp [putS, e1]
        rw [this]
        exact o3.bts
      · obtain ⟨b1, b2⟩ := byte1 0
        have b1 : vbuildSlice Try.prog 41 1 [(0, .int .u8 0)] = some (.slice .exact 1 [byteV 0] 1) := b1
        obtain ⟨r, s3, d3, k3, o3⟩ := refput_does b2 im (by simp) σ2
        simp only [k52_a, WK, vop, evAll, evOpt, evParts, vbuiltin, vun, vextract, Nat.reduceLT, Nat.reduceEqDiff, ↓reduceIte, reduceCtorEq, Nat.reduceAdd, Int.reduceLT, Int.reduceNeg, valloc_std, noSB, vhot, FV1, q2.num, decide_eq_true h1, h0, b1]
        refine KD.ret d3 ?_
        simp only [k52_a, WK, vop, evAll, evOpt, evParts, vbuiltin, vun, vextract, Nat.reduceLT, Nat.reduceEqDiff, ↓reduceIte, reduceCtorEq, Nat.reduceAdd, Int.reduceLT, Int.reduceNeg, valloc_std, noSB, vhot]
        rw [if_pos (by omega)]
        refine ⟨_, rfl, hk2.trans k3, ?_⟩
        have e1 : putN 0 = [0] := by rw [putN_one (by omega)]; rfl
        have : putS [0, n] = [0] ++ putN n.toNat := by simp [putS, e1]
        rw [this]
        exact o3.bts
    rw [if_neg h1]
    by_cases h2 : k = 2
    · obtain ⟨r, s3, d3, k3, o3⟩ := refput_does BtsV.nil im (by simp) σ2
      rw [if_pos h2]
      simp only [k52_a, WK, vop, evAll, evOpt, evParts, vbuiltin, vun, vextract, Nat.reduceLT, Nat.reduceEqDiff, ↓reduceIte, reduceCtorEq, Nat.reduceAdd, Int.reduceLT, Int.reduceNeg, valloc_std, noSB, vhot, ofVal_nil, FV1, q2.num, decide_eq_false h1, decide_eq_true h2]
      refine KD.ret d3 ?_
      simp only [k52_a, WK, vop, evAll, evOpt, evParts, vbuiltin, vun, vextract, Nat.reduceLT, Nat.reduceEqDiff, ↓reduceIte, reduceCtorEq, Nat.reduceAdd, Int.reduceLT, Int.reduceNeg, valloc_std, noSB, vhot]
      refine ⟨_, rfl, hk2.trans k3, ?_⟩
      have := o3.bts
      simpa [putS] using this
    rw [if_neg h2]
    by_cases h3 : k = 3
    · obtain ⟨r, s3, d3, k3, o3⟩ := refput_does BtsV.nil (x := (t.length : Int)) (by unfold InI64; omega) (by simp) σ2
      have hpl := putS_len (xs := [(t.length : Int)]) (by simp [InI64]; omega)
      simp only [List.length_singleton] at hpl
      have e1 : putS [(t.length : Int)] = putN (t.length : Int).toNat := by simp [putS]
      rw [List.nil_append, ← e1] at o3
      obtain ⟨v4, s4, a4, o4, k4, hob4⟩ := o3.appendS (t := 41) BT rfl k3 T9 (ys := t) (by omega)
      have q3 := k3.atV q2
      rw [if_pos h3]
      simp only [k52_a, WK, vop, evAll, evOpt, evParts, vbuiltin, vun, vextract, Nat.reduceLT, Nat.reduceEqDiff, ↓reduceIte, reduceCtorEq, Nat.reduceAdd, Int.reduceLT, Int.reduceNeg, valloc_std, noSB, vhot, ofVal_nil, FV2, q2.text, vlen_str T9, decide_eq_false h1, decide_eq_false h2, decide_eq_true h3]
      refine KD.ret d3 ?_
      simp only [k52_a, WK, vop, evAll, evOpt, evParts, vbuiltin, vun, vextract, Nat.reduceLT, Nat.reduceEqDiff, ↓reduceIte, reduceCtorEq, Nat.reduceAdd, Int.reduceLT, Int.reduceNeg, valloc_std, noSB, vhot, FV2, q2.text, q3.text, a4]
      exact ⟨_, rfl, hk2.trans k4, o4.bts⟩
    rw [if_neg h3]
    have hhead : InI64 (headV k l.length) := by unfold InI64 headV; split <;> omega
    obtain ⟨r, s3, d3, k3, o3⟩ := refput_does BtsV.nil hhead (by simp) σ2
    have hpl := putS_len (xs := [headV k l.length]) (by simpa using hhead)
    simp only [List.length_singleton] at hpl
    have e1 : putS [headV k l.length] = putN (headV k l.length).toNat := by simp [putS]
    rw [List.nil_append, ← e1] at o3
    have q3 := k3.atV q2
    have hloop : ∀ (e : Nat → V), e 1 = .optr σ.objs.length 0 → OwnV 5 σ2.toks.length s3 (e 3) (putS [headV k l.length]) → Ev Try.prog prims 61 (.seq (.seq (.region k52_r14) (.block 1 (.loop k52_l0))) (.seq (.region k52_r19) .ret)) e s3 (fnK Try.prog 61 [ResultVar.tmp 2] fun q σ' => ∃ r, q = .ret r ∧ Keep σ σ' ∧ BtsV r (putS [headV k l.length] ++ putL l)) := by
      intro e h3 h0
      simp only [k52_a, WK, vop, evAll, evOpt, evParts, vbuiltin, vun, vextract, Nat.reduceLT, Nat.reduceEqDiff, ↓reduceIte, reduceCtorEq, Nat.reduceAdd, Int.reduceLT, Int.reduceNeg, valloc_std, noSB, vhot, h3, FV3, q3.list, hw.len]
      refine Ev.loopF (I61 σ2 σ2.toks.length (putS [headV k l.length]) l) (fun i => l.length - i) 0 ⟨by simp [upd_some], by simp, by simpa [upd_some, putL] using h0, k3⟩ ?_
      rintro i e1 σ1 ⟨h51, hi, hb, hk⟩ hf
      have h50 : e1 50 = .int .i64 l.length := (hf 50 (by decide)).trans (by simp [upd_some])
      have h49 : e1 49 = w := (hf 49 (by decide)).trans (by simp [upd_some])
      clear hf
      have hplt := weights_take_le l i
      have hpll := putL_len hw (by omega) i
      by_cases hlt : i < l.length
      · have hlt' : (i : Int) < l.length := by omega
        have hwi := idx_wrap (i := i) (by omega)
        obtain ⟨cs, c, ha0, hld, hc⟩ := hw.get hlt
        obtain ⟨s5, hs5⟩ : ∃ s5 : St, s5 = ⟨(σ1.objs ++ [Ob.cells val0C]).set σ1.objs.length (Ob.cells c), σ1.toks⟩ := ⟨_, rfl⟩
        have p5 : IsV s5 σ1.objs.length c := by rw [hs5]; exact IsV.made
        have k5 : Keep σ1 s5 := by rw [hs5]; exact (Keep.refl σ1).madeV _ _
        have hmem := weights_mem (List.getElem_mem hlt)
        have hbl := putV_len _ (Nat.le_refl _) (by omega) hc
        obtain ⟨r6, s6, d6, k6, o6⟩ := H l[i] (List.getElem_mem hlt) c s5 (by omega) hc
        have hb6 := hb.keep (k5.trans k6)
        obtain ⟨v7, s7, a7, o7, k7⟩ := hb6.append (t := 41) BT rfl ((hk.trans k5).trans k6) T22 o6 (by simp only [List.length_append]; omega)
        simp only [k52_a, WK, vop, evAll, evOpt, evParts, vbuiltin, vun, vextract, Nat.reduceLT, Nat.reduceEqDiff, ↓reduceIte, reduceCtorEq, Nat.reduceAdd, Int.reduceLT, Int.reduceNeg, valloc_std, noSB, vhot, h49, h50, h51, hlt', ha0, hld, VZ24, vbox, vcells, IsV.new hc.len (show val0C.length = 4 from rfl) hc.one, ← hs5, p5.load hc.len]
        refine KD.ret d6 ?_
        simp only [k52_a, WK, vop, evAll, evOpt, evParts, vbuiltin, vun, vextract, Nat.reduceLT, Nat.reduceEqDiff, ↓reduceIte, reduceCtorEq, Nat.reduceAdd, Int.reduceLT, Int.reduceNeg, valloc_std, noSB, vhot, h51, hwi, a7]
        refine ⟨i + 1, ⟨by simp [upd_some], hlt, ?_, k7⟩, by omega⟩
        rw [putL_take_succ hlt, ← List.append_assoc]
        simpa [upd_some] using o7
      · have hlt' : ¬ (i : Int) < l.length := by omega
        simp only [k52_a, WK, vop, evAll, evOpt, evParts, vbuiltin, vun, vextract, Nat.reduceLT, Nat.reduceEqDiff, ↓reduceIte, reduceCtorEq, Nat.reduceAdd, Int.reduceLT, Int.reduceNeg, valloc_std, noSB, vhot, h49, h50, h51, hlt']
        rw [List.take_of_length_le (by omega)] at hb
        exact ⟨_, rfl, hk2.trans hk, hb.bts⟩
    simp only [WK, vop, evAll, evOpt, evParts, vbuiltin, vun, vextract, Nat.reduceLT, Nat.reduceEqDiff, ↓reduceIte, reduceCtorEq, Nat.reduceAdd, Int.reduceLT, Int.reduceNeg, valloc_std, noSB, vhot] at hloop
    have e20 : ((2 : Int) = 0) = False := eq_false (by decide)
    have w2 : IntKind.i64.wrap (Int.tdiv (l.length : Int) 2) = ((l.length / 2 : Nat) : Int) := by
      rw [Int.tdiv_eq_ediv_of_nonneg (by omega), wrap_i64 (by omega) (by omega)]; omega
    by_cases h4 : k = 4
    · have hh : headV k l.length = (l.length : Int) := by rw [headV, if_neg (by omega)]
      rw [hh] at d3
      simp only [(oE k52_r4.eq_1), (oE k52_r8.eq_1), (oE k52_r10.eq_1), (oE k52_r12.eq_1), (oE k52_r13.eq_1), (oE k52_r3.eq_1), WK, vop, evAll, evOpt, evParts, vbuiltin, vun, vextract, Nat.reduceLT, Nat.reduceEqDiff, ↓reduceIte, reduceCtorEq, Nat.reduceAdd, Int.reduceLT, Int.reduceNeg, valloc_std, noSB, vhot, ofVal_nil, FV0, FV3, q2.kind, q2.list, hw.len, decide_eq_false h1, decide_eq_false h2, decide_eq_false h3, decide_eq_true h4]
      refine KD.ret d3 ?_
      simp only [WK, vop, evAll, evOpt, evParts, vbuiltin, vun, vextract, Nat.reduceLT, Nat.reduceEqDiff, ↓reduceIte, reduceCtorEq, Nat.reduceAdd, Int.reduceLT, Int.reduceNeg, valloc_std, noSB, vhot]
      exact hloop _ (by simp [upd_some]) (by simpa [upd_some] using o3)
    · have h5 : k = 5 := by omega
      have hh : headV k l.length = ((l.length / 2 : Nat) : Int) := by rw [headV, if_pos h5]
      rw [← hh] at w2
      simp only [(oE k52_r4.eq_1), (oE k52_r8.eq_1), (oE k52_r10.eq_1), (oE k52_r12.eq_1), (oE k52_r13.eq_1), (oE k52_r3.eq_1), WK, vop, evAll, evOpt, evParts, vbuiltin, vun, vextract, Nat.reduceLT, Nat.reduceEqDiff, ↓reduceIte, reduceCtorEq, Nat.reduceAdd, Int.reduceLT, Int.reduceNeg, valloc_std, noSB, vhot, ofVal_nil, FV0, FV3, q2.kind, q2.list, hw.len, decide_eq_false h1, decide_eq_false h2, decide_eq_false h3, decide_eq_false h4, e20, w2]
      refine KD.ret d3 ?_
      simp only [WK, vop, evAll, evOpt, evParts, vbuiltin, vun, vextract, Nat.reduceLT, Nat.reduceEqDiff, ↓reduceIte, reduceCtorEq, Nat.reduceAdd, Int.reduceLT, Int.reduceNeg, valloc_std, noSB, vhot]
      exact hloop _ (by simp [upd_some]) (by simpa [upd_some] using o3)
  obtain ⟨q, σ', h1, r, rfl, h3, h4⟩ := key
  exact ⟨r, σ', h1, h3, h4⟩
theorem refbytes_fit : ∀ (N : Nat) (T : Ty) (a : Val), weight a ≤ N → fitsT T a = true → BOk a
  | 0, T, a, hN, _ => by have := weight_pos a; omega
  | N + 1, T, .mk k n t l, hN, h => by
    obtain ⟨h1, h2, h3⟩ := fit_parts h
    rw [weight] at hN
    refine refbytes_one h1 h2 fun x hx => ?_
    obtain ⟨T', hT'⟩ := h3 x hx
    have := weights_mem hx
    exact refbytes_fit N T' x (by omega) hT'
/-- What Encode answers. -/
def encS (s : List UInt8) (v : Val) : List UInt8 × Int := if fitsS s v then (putV v, 0) else ([], 1)
theorem fitsS_ty {s : List UInt8} {v : Val} (h : fitsS s v = true) : ∃ T, s = tyB T ∧ tyD T ≤ 4 ∧ weight v ≤ 16384 ∧ fitsT T v = true := by
  unfold fitsS at h
  split at h
  · rename_i T hT
    simp only [Bool.and_eq_true, decide_eq_true_eq] at h
    obtain ⟨h1, h2⟩ := tyS_iff.1 hT
    exact ⟨T, h1, h2, by omega, h.2⟩
  · cases h
theorem encode_does {s : List UInt8} {v : Val} {c : List V} (hl : s.length ≤ 4294967296) (σ : St) (hwt : weight v ≤ 4294967296) (ha : ValC v c) : ∃ r σ', Does Try.prog prims 29 [.agg c, .str s] σ (.ret (.tuple [r, .int .i64 (encS s v).2])) σ' ∧ Keep σ σ' ∧ BtsV r (encS s v).1 := by
  have key : ∃ q σ', Does Try.prog prims 29 [.agg c, .str s] σ q σ' ∧ ∃ r, q = .ret (.tuple [r, .int .i64 (encS s v).2]) ∧ Keep σ σ' ∧ BtsV r (encS s v).1 := by
    apply k29_is.does (by simp)
    obtain ⟨s1, hs1⟩ : ∃ s1 : St, s1 = ⟨σ.objs ++ [Ob.cells c], σ.toks⟩ := ⟨_, rfl⟩
    have k1 : Keep σ s1 := by rw [hs1]; exact (Keep.refl σ).push _
    have q1 : IsV s1 σ.objs.length c := by rw [hs1]; exact push_new _ _
    obtain ⟨s2, d2, k2⟩ := vfits_does hl s1 hwt ha
    have q2 := k2.atV q1
    simp only [k29_a, WK, vop, evAll, evOpt, evParts, vbuiltin, vun, vextract, Nat.reduceLT, Nat.reduceEqDiff, ↓reduceIte, reduceCtorEq, Nat.reduceAdd, Int.reduceLT, Int.reduceNeg, valloc_std, noSB, vhot, vbox, vcells, ← hs1, q1.load ha.len, ofVal_nil]
    refine KD.ret d2 ?_
    unfold encS
    cases h : fitsS s v with
    | false =>
      simp only [k29_a, WK, vop, evAll, evOpt, evParts, vbuiltin, vun, vextract, Nat.reduceLT, Nat.reduceEqDiff, ↓reduceIte, reduceCtorEq, Nat.reduceAdd, Int.reduceLT, Int.reduceNeg, valloc_std, noSB, vhot, ofVal_nil]
      exact ⟨_, rfl, k1.trans k2, BtsV.nil⟩
    | true =>
      obtain ⟨r, s3, d3, k3, o3⟩ := vput_does s2 hwt ha BtsV.nil (by simp)
      simp only [k29_a, WK, vop, evAll, evOpt, evParts, vbuiltin, vun, vextract, Nat.reduceLT, Nat.reduceEqDiff, ↓reduceIte, reduceCtorEq, Nat.reduceAdd, Int.reduceLT, Int.reduceNeg, valloc_std, noSB, vhot, ofVal_nil, q2.load ha.len]
      refine KD.ret d3 ?_
      simp only [k29_a, WK, vop, evAll, evOpt, evParts, vbuiltin, vun, vextract, Nat.reduceLT, Nat.reduceEqDiff, ↓reduceIte, reduceCtorEq, Nat.reduceAdd, Int.reduceLT, Int.reduceNeg, valloc_std, noSB, vhot]
      exact ⟨_, rfl, (k1.trans k2).trans k3, o3⟩
  obtain ⟨q, σ', h1, r, rfl, h3, h4⟩ := key
  exact ⟨r, σ', h1, h3, h4⟩
end Go.Proofs.Ytplhelapcpcncaa.Q

set_option linter.unusedVariables false
set_option linter.unusedSimpArgs false
set_option maxRecDepth 100000
namespace Go.Proofs.Ytplhelapcpcncaa.Q
open Go Go.RowKit Go.Proofs
def typesL : List (List UInt8) := [[105, 110, 116], [98, 111, 111, 108], [116, 101, 120, 116], [91, 105, 110, 116, 93], [123, 105, 110, 116, 58, 105, 110, 116, 125]]
def listV : Val → List Val
  | .mk _ _ _ l => l
def typeC (v : Val) : List UInt8 := if listV v = [] then (typesL.find? (fun s => fitsS s v)).getD [] else []
theorem SlS : Try.prog.underlying 49 = some (.slice 9) := by kernel_rfl
theorem SS9 : sizeT Try.prog 9 = some 1 := by kernel_rfl
theorem SG9 : isAggT Try.prog 9 = some false := by kernel_rfl
theorem TB5 : vbuildSlice Try.prog 49 5 [(0, .str [105, 110, 116]), (1, .str [98, 111, 111, 108]), (2, .str [116, 101, 120, 116]), (3, .str [91, 105, 110, 116, 93]), (4, .str [123, 105, 110, 116, 58, 105, 110, 116, 125])] = some (.slice .exact 1 (typesL.map V.str) 5) := by kernel_rfl
theorem ofVal_t1 : ofVal (.string (ByteArray.mk #[105, 110, 116])) = some (.str [105, 110, 116]) := rfl
theorem ofVal_t2 : ofVal (.string (ByteArray.mk #[98, 111, 111, 108])) = some (.str [98, 111, 111, 108]) := rfl
theorem ofVal_t3 : ofVal (.string (ByteArray.mk #[116, 101, 120, 116])) = some (.str [116, 101, 120, 116]) := rfl
theorem ofVal_t4 : ofVal (.string (ByteArray.mk #[91, 105, 110, 116, 93])) = some (.str [91, 105, 110, 116, 93]) := rfl
theorem ofVal_t5 : ofVal (.string (ByteArray.mk #[123, 105, 110, 116, 58, 105, 110, 116, 125])) = some (.str [123, 105, 110, 116, 58, 105, 110, 116, 125]) := rfl
theorem ofVal_t0 : ofVal (.string (ByteArray.mk #[])) = some (.str []) := rfl
theorem typ_at {i : Nat} (h : i < 5) : vindexAddr Try.prog 49 (.slice .exact 1 (typesL.map V.str) 5) (.int .i64 (i : Int)) = some (.eptr (typesL.map V.str) i) := by
  have h' : (i : Int) < 5 := by omega
  simp [vindexAddr, SlS, SS9, h', typesL]
theorem typ_load {i : Nat} (h : i < 5) (objs : List Ob) : vload Try.prog objs 9 (.eptr (typesL.map V.str) i) = some (.str (typesL[i]'h)) := by
  simp [vload, vcellsAt, vpart, SG9, List.getElem?_eq_getElem (show i < typesL.length from h)]
  rfl
theorem typ_len {i : Nat} (h : i < 5) : (typesL[i]'h).length ≤ 100 ∧ typesL[i]'h ≠ [] := by
  have : ∀ m ∈ typesL, m.length ≤ 100 ∧ m ≠ [] := by decide
  exact this _ (List.getElem_mem _)
theorem VF3 (r o : Nat) : vfieldAddr Try.prog 29 (.optr r o) 3 = some (.optr r (o + 3)) := by kernel_rfl
theorem VGA : isAggT Try.prog 29 = some true := by kernel_rfl
theorem find_drop {p : List UInt8 → Bool} {l : List (List UInt8)} {i : Nat} (h : i < l.length) (hp : p l[i] = false) : (l.drop i).find? p = (l.drop (i + 1)).find? p := by
  rw [List.drop_eq_getElem_cons h, List.find?_cons_of_neg (by simp [hp])]
theorem ctype_does {σ : St} {v : Val} {c : List V} (hw : weight v ≤ 4294967296) (ha : ValC v c) : ∃ σ', Does Try.prog prims 10 [.agg c] σ (.ret (.str (typeC v))) σ' ∧ Keep σ σ' := by
  have key : ∃ q σ', Does Try.prog prims 10 [.agg c] σ q σ' ∧ q = .ret (.str (typeC v)) ∧ Keep σ σ' := by
    apply k10_is.does (by simp)
    obtain ⟨k, n, t, l, w, rfl, hc, hl, _⟩ := ha.inv
    obtain ⟨s1, hs1⟩ : ∃ s1 : St, s1 = ⟨σ.objs ++ [Ob.cells c], σ.toks⟩ := ⟨_, rfl⟩
    have k1 : Keep σ s1 := by rw [hs1]; exact (Keep.refl σ).push _
    have o1 : s1.objs[σ.objs.length]? = some (.cells c) := by rw [hs1]; exact push_new _ _
    simp only [k10_a, WK, vop, evAll, evOpt, evParts, vbuiltin, vun, vextract, Nat.reduceLT, Nat.reduceEqDiff, ↓reduceIte, reduceCtorEq, Nat.reduceAdd, Int.reduceLT, Int.reduceNeg, valloc_std, noSB, vhot, vbox, vcells, ← hs1, ofVal_t0, ofVal_t1, ofVal_t2, ofVal_t3, ofVal_t4, ofVal_t5, TB5, (show vlen Try.prog 49 (.slice .exact 1 (typesL.map V.str) 5) = some (.int .i64 5) from by simp [vlen, SlS])]
    refine Ev.loopF (fun (i : Nat) e σ' => e 7 = .int .i64 (i : Nat) ∧ i ≤ 5 ∧ Keep s1 σ' ∧ typeC (.mk k n t l) = if l = [] then ((typesL.drop i).find? (fun s => fitsS s (.mk k n t l))).getD [] else []) (fun i => 5 - i) 0 ⟨by simp [upd_some], Nat.zero_le _, Keep.refl _, rfl⟩ ?_
    rintro i e σ' ⟨h7, hi, hk, hT⟩ hf
    have h1 : e 1 = .optr σ.objs.length 0 := (hf 1 (by decide)).trans (by simp [upd_some])
    have h5 : e 5 = .slice .exact 1 (typesL.map V.str) 5 := (hf 5 (by decide)).trans (by simp [upd_some])
    have h6 : e 6 = .int .i64 5 := (hf 6 (by decide)).trans (by simp [upd_some])
    clear hf
    have o2 := hk.1 _ _ o1
    have ldl : vload Try.prog σ'.objs 22 (.optr σ.objs.length 3) = some w := by rw [vload_obj o2 VsG, hc]; rfl
    have ldv : vload Try.prog σ'.objs 29 (.optr σ.objs.length 0) = some (.agg c) := vload_agg o2 VGA (by rw [ha.len]; exact VS24)
    by_cases hlt : i < 5
    · have hlt' : (i : Int) < 5 := by omega
      have hwi : IntKind.i64.wrap ((i : Int) + 1) = ((i + 1 : Nat) : Int) := by rw [show ((i : Int) + 1) = ((i + 1 : Nat) : Int) from by omega]; exact wrap_nat (by omega)
      by_cases hnl : l = []
      · have hl0 : ((l.length : Nat) : Int) = 0 := by rw [hnl]; rfl
        have hl0' : (((l.length : Nat) : Int) = 0) = True := eq_true hl0
        obtain ⟨s2, d2, k2⟩ := vfits_does (s := typesL[i]'hlt) (by have := (typ_len hlt).1; omega) σ' hw ha
        simp only [k10_a, WK, vop, evAll, evOpt, evParts, vbuiltin, vun, vextract, Nat.reduceLT, Nat.reduceEqDiff, ↓reduceIte, reduceCtorEq, Nat.reduceAdd, Int.reduceLT, Int.reduceNeg, valloc_std, noSB, vhot, h1, h5, h6, h7, hlt', typ_at hlt, typ_load hlt, VF3, ldl, hl.len, hl0', ldv]
        refine KD.ret d2 ?_
        cases hb : fitsS (typesL[i]'hlt) (.mk k n t l) with
        | true =>
          simp only [k10_a, WK, vop, evAll, evOpt, evParts, vbuiltin, vun, vextract, Nat.reduceLT, Nat.reduceEqDiff, ↓reduceIte, reduceCtorEq, Nat.reduceAdd, Int.reduceLT, Int.reduceNeg, valloc_std, noSB, vhot]
          refine ⟨?_, (k1.trans hk).trans k2⟩
          rw [hT, if_pos hnl, List.drop_eq_getElem_cons (show i < typesL.length from hlt), List.find?_cons_of_pos (by exact hb)]
          rfl
        | false =>
          simp only [k10_a, WK, vop, evAll, evOpt, evParts, vbuiltin, vun, vextract, Nat.reduceLT, Nat.reduceEqDiff, ↓reduceIte, reduceCtorEq, Nat.reduceAdd, Int.reduceLT, Int.reduceNeg, valloc_std, noSB, vhot, h7, hwi]
          refine ⟨i + 1, ⟨by simp [upd_some], by omega, hk.trans k2, ?_⟩, by omega⟩
          rw [hT, find_drop (show i < typesL.length from hlt) hb]
      · have hl0' : (((l.length : Nat) : Int) = 0) = False := eq_false (fun h => hnl (List.length_eq_zero_iff.1 (by omega)))
        simp only [k10_a, WK, vop, evAll, evOpt, evParts, vbuiltin, vun, vextract, Nat.reduceLT, Nat.reduceEqDiff, ↓reduceIte, reduceCtorEq, Nat.reduceAdd, Int.reduceLT, Int.reduceNeg, valloc_std, noSB, vhot, h1, h5, h6, h7, hlt', typ_at hlt, typ_load hlt, VF3, ldl, hl.len, hl0', hwi]
        exact ⟨i + 1, ⟨by simp [upd_some], by omega, hk, by rw [hT, if_neg hnl, if_neg hnl]⟩, by omega⟩
    · have hlt' : ¬ (i : Int) < 5 := by omega
      simp only [k10_a, WK, vop, evAll, evOpt, evParts, vbuiltin, vun, vextract, Nat.reduceLT, Nat.reduceEqDiff, ↓reduceIte, reduceCtorEq, Nat.reduceAdd, Int.reduceLT, Int.reduceNeg, valloc_std, noSB, vhot, h6, h7, hlt', ofVal_t0]
      refine ⟨?_, k1.trans hk⟩
      rw [hT, show i = 5 by omega]
      split <;> rfl
  obtain ⟨q, σ', h1, rfl, h2⟩ := key
  exact ⟨σ', h1, h2⟩
end Go.Proofs.Ytplhelapcpcncaa.Q

set_option linter.unusedVariables false
set_option linter.unusedSimpArgs false
set_option maxRecDepth 100000
namespace Go.Proofs.Ytplhelapcpcncaa.Q
open Go Go.RowKit Go.Proofs
theorem A51 : Try.prog.underlying 51 = some (.array 5 9) := by kernel_rfl
theorem Z51 : zeroT Try.prog 51 = some (.agg [.str [], .str [], .str [], .str [], .str []]) := by kernel_rfl
theorem S51 : sizeT Try.prog 51 = some 5 := by kernel_rfl
theorem G51 : isAggT Try.prog 51 = some true := by kernel_rfl
theorem B51 : vbuild Try.prog 51 [(0, .str [105, 110, 116]), (1, .str [98, 111, 111, 108]), (2, .str [116, 101, 120, 116]), (3, .str [91, 105, 110, 116, 93]), (4, .str [123, 105, 110, 116, 58, 105, 110, 116, 125])] = some (.agg (typesL.map V.str)) := by kernel_rfl
theorem typ_idx {i : Nat} (h : i < 5) : vindex Try.prog 51 (.agg (typesL.map V.str)) (.int .i64 (i : Int)) = some (.str (typesL[i]'h)) := by
  have h' : (i : Int) < 5 := by omega
  simp [vindex, A51, SS9, h', vpart, SG9, List.getElem?_eq_getElem (show i < typesL.length from h)]
  rfl
theorem creftype_does {σ : St} {v : Val} {c : List V} (hw : weight v ≤ 4294967296) (ha : ValC v c) : ∃ σ', Does Try.prog prims 11 [.agg c] σ (.ret (.str (typeC v))) σ' ∧ Keep σ σ' := by
  have key : ∃ q σ', Does Try.prog prims 11 [.agg c] σ q σ' ∧ q = .ret (.str (typeC v)) ∧ Keep σ σ' := by
    apply k11_is.does (by simp)
    obtain ⟨k, n, t, l, w, rfl, hc, hl, _⟩ := ha.inv
    obtain ⟨s1, hs1⟩ : ∃ s1 : St, s1 = ⟨σ.objs ++ [Ob.cells c], σ.toks⟩ := ⟨_, rfl⟩
    have k1 : Keep σ s1 := by rw [hs1]; exact (Keep.refl σ).push _
    have o1 : s1.objs[σ.objs.length]? = some (.cells c) := by rw [hs1]; exact push_new _ _
    have ldl : vload Try.prog s1.objs 22 (.optr σ.objs.length 3) = some w := by rw [vload_obj o1 VsG, hc]; rfl
    by_cases hnl : l = []
    · have hl0 : ¬ (0 : Int) < ((l.length : Nat) : Int) := by rw [hnl]; decide
      obtain ⟨s2, hs2⟩ : ∃ s2 : St, s2 = ⟨s1.objs ++ [Ob.cells [.str [], .str [], .str [], .str [], .str []]], s1.toks⟩ := ⟨_, rfl⟩
      have k2 : Keep s1 s2 := by rw [hs2]; exact (Keep.refl s1).push _
      have o2 : s2.objs[s1.objs.length]? = some (.cells [.str [], .str [], .str [], .str [], .str []]) := by rw [hs2]; exact push_new _ _
      obtain ⟨s3, hs3⟩ : ∃ s3 : St, s3 = ⟨s2.objs.set s1.objs.length (.cells (typesL.map V.str)), s2.toks⟩ := ⟨_, rfl⟩
      obtain ⟨k3, o3⟩ := KeepX.set_eq o2 hs3
      have st3 : vstore Try.prog s2 51 (.optr s1.objs.length 0) (.agg (typesL.map V.str)) = some s3 := by rw [vstore_agg (cs' := typesL.map V.str) o2 S51 rfl rfl, hs3]
      have ld3 : vload Try.prog s3.objs 51 (.optr s1.objs.length 0) = some (.agg (typesL.map V.str)) := vload_agg o3 G51 S51
      have k13 : Keep s1 s3 := ⟨fun q o ho => k3.1 q o (by have := (List.getElem?_eq_some_iff.1 ho).1; omega) (k2.1 q o ho), Nat.le_trans k2.2.1 k3.2.1, fun j hj => k3.2.2 j (k2.2.2 j hj)⟩
      simp only [k11_a, WK, vop, evAll, evOpt, evParts, vbuiltin, vun, vextract, Nat.reduceLT, Nat.reduceEqDiff, ↓reduceIte, reduceCtorEq, Nat.reduceAdd, Int.reduceLT, Int.reduceNeg, valloc_std, noSB, vhot, vbox, vcells, ← hs1, ofVal_t0, ofVal_t1, ofVal_t2, ofVal_t3, ofVal_t4, ofVal_t5, VF3, ldl, hl.len, hl0, Z51, ← hs2, B51, st3, ld3]
      refine Ev.loopF (fun (i : Nat) e σ' => e 12 = .int .i64 (i : Nat) ∧ i ≤ 5 ∧ Keep s3 σ' ∧ typeC (.mk k n t l) = ((typesL.drop i).find? (fun s => fitsS s (.mk k n t l))).getD []) (fun i => 5 - i) 0 ⟨by simp [upd_some], Nat.zero_le _, Keep.refl _, by unfold typeC; rw [if_pos (show listV (.mk k n t l) = [] from hnl)]; rfl⟩ ?_
      rintro i e σ' ⟨h12, hi, hk, hT⟩ hf
      have h1 : e 1 = .optr σ.objs.length 0 := (hf 1 (by decide)).trans (by simp [upd_some])
      have h11 : e 11 = .agg (typesL.map V.str) := (hf 11 (by decide)).trans (by simp [upd_some])
      clear hf
      have o4 := hk.1 _ _ (k13.1 _ _ o1)
      have ldv : vload Try.prog σ'.objs 29 (.optr σ.objs.length 0) = some (.agg c) := vload_agg o4 VGA (by rw [ha.len]; exact VS24)
      by_cases hlt : i < 5
      · have hlt' : (i : Int) < 5 := by omega
        have hwi : IntKind.i64.wrap ((i : Int) + 1) = ((i + 1 : Nat) : Int) := by rw [show ((i : Int) + 1) = ((i + 1 : Nat) : Int) from by omega]; exact wrap_nat (by omega)
        obtain ⟨s5, d5, k5⟩ := reffits_does (s := typesL[i]'hlt) (by have := (typ_len hlt).1; omega) σ' hw ha
        simp only [k11_a, WK, vop, evAll, evOpt, evParts, vbuiltin, vun, vextract, Nat.reduceLT, Nat.reduceEqDiff, ↓reduceIte, reduceCtorEq, Nat.reduceAdd, Int.reduceLT, Int.reduceNeg, valloc_std, noSB, vhot, h1, h11, h12, hlt', typ_idx hlt, ldv]
        refine KD.ret d5 ?_
        cases hb : fitsS (typesL[i]'hlt) (.mk k n t l) with
        | true =>
          simp only [k11_a, WK, vop, evAll, evOpt, evParts, vbuiltin, vun, vextract, Nat.reduceLT, Nat.reduceEqDiff, ↓reduceIte, reduceCtorEq, Nat.reduceAdd, Int.reduceLT, Int.reduceNeg, valloc_std, noSB, vhot]
          refine ⟨?_, ((k1.trans k13).trans hk).trans k5⟩
          rw [hT, List.drop_eq_getElem_cons (show i < typesL.length from hlt), List.find?_cons_of_pos (by exact hb)]
          rfl
        | false =>
          simp only [k11_a, WK, vop, evAll, evOpt, evParts, vbuiltin, vun, vextract, Nat.reduceLT, Nat.reduceEqDiff, ↓reduceIte, reduceCtorEq, Nat.reduceAdd, Int.reduceLT, Int.reduceNeg, valloc_std, noSB, vhot, h12, hwi]
          refine ⟨i + 1, ⟨by simp [upd_some], by omega, hk.trans k5, ?_⟩, by omega⟩
          rw [hT, find_drop (show i < typesL.length from hlt) hb]
      · have hlt' : ¬ (i : Int) < 5 := by omega
        simp only [k11_a, WK, vop, evAll, evOpt, evParts, vbuiltin, vun, vextract, Nat.reduceLT, Nat.reduceEqDiff, ↓reduceIte, reduceCtorEq, Nat.reduceAdd, Int.reduceLT, Int.reduceNeg, valloc_std, noSB, vhot, h11, h12, hlt', ofVal_t0]
        refine ⟨?_, (k1.trans k13).trans hk⟩
        rw [hT, show i = 5 by omega]
        rfl
    · have hl0 : (0 : Int) < ((l.length : Nat) : Int) := by
        have : l.length ≠ 0 := fun h => hnl (List.length_eq_zero_iff.1 h)
        omega
      simp only [k11_a, WK, vop, evAll, evOpt, evParts, vbuiltin, vun, vextract, Nat.reduceLT, Nat.reduceEqDiff, ↓reduceIte, reduceCtorEq, Nat.reduceAdd, Int.reduceLT, Int.reduceNeg, valloc_std, noSB, vhot, vbox, vcells, ← hs1, ofVal_t0, VF3, ldl, hl.len, hl0]
      refine ⟨?_, k1⟩
      unfold typeC
      rw [if_neg (show ¬ listV (.mk k n t l) = [] from hnl)]
  obtain ⟨q, σ', h1, rfl, h2⟩ := key
  exact ⟨σ', h1, h2⟩
end Go.Proofs.Ytplhelapcpcncaa.Q

/- Written rows of numbers and of truths. -/
set_option linter.unusedVariables false
set_option linter.unusedSimpArgs false
set_option maxRecDepth 100000
namespace Go.Proofs.Ytplhelapcpcncaa.Q
open Go Go.RowKit Go.Proofs
/-- v is the front of object r, that has these numbers there. -/
def HI (σ : St) (v : V) (r : Nat) (xs : List Int) : Prop := v = .hslice r 0 1 xs.length ∧ ∃ cs, σ.objs[r]? = some (.cells cs) ∧ xs.length ≤ cs.length ∧ cs.take xs.length = xs.map i64V ∧ cs.all one = true
theorem HI.keepX {σ σ' : St} {v : V} {r q : Nat} {xs : List Int} (h : HI σ v r xs) (hk : KeepX q σ σ') (hne : r ≠ q) : HI σ' v r xs := let ⟨h1, cs, h2, h3⟩ := h; ⟨h1, cs, hk.1 _ _ hne h2, h3⟩
theorem HI.keep {σ σ' : St} {v : V} {r : Nat} {xs : List Int} (h : HI σ v r xs) (hk : Keep σ σ') : HI σ' v r xs := let ⟨h1, cs, h2, h3⟩ := h; ⟨h1, cs, hk.1 _ _ h2, h3⟩
theorem HI.lt {σ : St} {v : V} {r : Nat} {xs : List Int} (h : HI σ v r xs) : r < σ.objs.length := let ⟨_, cs, h2, _⟩ := h; (List.getElem?_eq_some_iff.1 h2).1
theorem IU : Try.prog.underlying 70 = some (.slice 3) := by kernel_rfl
theorem IB : (Try.prog.info? 3).map (·.bytes) = some 8 := by kernel_rfl
theorem IZ : zeroT Try.prog 3 = some (.int .i64 0) := by kernel_rfl
theorem HI.len {σ : St} {v : V} {r : Nat} {xs : List Int} (h : HI σ v r xs) : vlen Try.prog 70 v = some (.int .i64 (xs.length : Nat)) := by
  rw [h.1]; simp [vlen, IU]
theorem HI.addr {σ : St} {v : V} {r : Nat} {xs : List Int} (h : HI σ v r xs) {i : Nat} (hi : i < xs.length) : vindexAddr Try.prog 70 v (.int .i64 (i : Int)) = some (.optr r i) := by
  have hi' : (i : Int) < xs.length := by omega
  rw [h.1]; simp [vindexAddr, IU, S3, hi']
theorem HI.load {σ : St} {v : V} {r : Nat} {xs : List Int} (h : HI σ v r xs) {i : Nat} (hi : i < xs.length) : vload Try.prog σ.objs 3 (.optr r i) = some (.int .i64 xs[i]) := by
  obtain ⟨_, cs, h2, h3, h4, _⟩ := h
  rw [vload_obj h2 G3]
  have := congrArg (·[i]?) h4
  simp only [List.getElem?_take_of_lt hi, List.getElem?_map, List.getElem?_eq_getElem hi] at this
  simpa [i64V] using this
theorem HI.set {σ : St} {v : V} {r : Nat} {xs : List Int} (h : HI σ v r xs) {i : Nat} (hi : i < xs.length) (x : Int) : ∃ σ', vstore Try.prog σ 3 (.optr r i) (.int .i64 x) = some σ' ∧ HI σ' v r (xs.set i x) ∧ KeepX r σ σ' ∧ σ'.objs.length = σ.objs.length := by
  obtain ⟨h1, cs, h2, h3, h4, h5⟩ := h
  obtain ⟨σ', hs⟩ : ∃ σ' : St, σ' = ⟨σ.objs.set r (.cells (cs.set i (.int .i64 x))), σ.toks⟩ := ⟨_, rfl⟩
  obtain ⟨k, hk⟩ := KeepX.set_eq h2 hs
  refine ⟨σ', by rw [vstore_obj h2 S3 rfl (by omega), hs], ⟨by rw [List.length_set]; exact h1, _, hk, by rw [List.length_set, List.length_set]; exact h3, ?_, ?_⟩, k, by rw [hs]; simp⟩
  · rw [List.length_set, List.take_set, h4, List.map_set]; rfl
  · rw [List.all_eq_true] at h5 ⊢
    intro y hy
    rcases List.mem_or_eq_of_mem_set hy with h6 | rfl
    · exact h5 y h6
    · rfl
/-- Such a row is made. -/
theorem HI.make (σ : St) {n : Nat} (hn : n ≤ 1000000) : ∃ v σ', vmakeRow Try.prog σ 70 (.int .i64 (n : Int)) (.int .i64 (n : Int)) = some (v, σ') ∧ HI σ' v σ.objs.length (List.replicate n 0) ∧ Keep σ σ' ∧ σ'.objs.length = σ.objs.length + 1 := by
  have hz : zeroCellsV [V.int .i64 0] n = (List.replicate n (0 : Int)).map i64V := by
    apply List.ext_getElem?
    intro i
    simp only [zeroCellsV, List.getElem?_map, List.getElem?_range', List.getElem?_replicate]
    by_cases h : i < n
    · simp [h, i64V, Nat.mod_one]
    · simp [h]
  refine ⟨.hslice σ.objs.length 0 1 n, ⟨σ.objs ++ [.cells ((List.replicate n (0 : Int)).map i64V)], σ.toks⟩, ?_, ⟨by rw [List.length_replicate], _, push_new _ _, by simp, List.take_of_length_le (by simp), ?_⟩, (Keep.refl σ).push _, by simp⟩
  · have h1 : 8 * n ≤ 140737488355328 := by omega
    have h2 : (n : Int) ≤ 140737488355328 := by omega
    simp [vmakeRow, IU, IB, S3, IZ, vcells, h1, h2, hz]
  · rw [List.all_eq_true]
    intro y hy
    rw [List.mem_map] at hy
    obtain ⟨a, _, rfl⟩ := hy
    rfl
theorem HI.lit1 (σ : St) (x : Int) : ∃ σ', vbuildRow Try.prog σ 70 1 [(0, .int .i64 x)] = some (.hslice σ.objs.length 0 1 1, σ') ∧ HI σ' (.hslice σ.objs.length 0 1 1) σ.objs.length [x] ∧ Keep σ σ' ∧ σ'.objs.length = σ.objs.length + 1 := by
  refine ⟨⟨σ.objs ++ [.cells [.int .i64 x]], σ.toks⟩, ?_, ⟨rfl, _, push_new _ _, by simp, rfl, rfl⟩, (Keep.refl σ).push _, by simp⟩
  simp [vbuildRow, IU, S3, IZ, vcells, zeroCellsV, vfill, setAll]
theorem HI.front {σ : St} {v : V} {r : Nat} {xs : List Int} (h : HI σ v r xs) {n : Nat} (hn : n ≤ xs.length) (hl : xs.length ≤ 1000000000) : ∃ w, vslice Try.prog 70 v none (some (.int .i64 (n : Int))) none = some w ∧ HI σ w r (xs.take n) := by
  obtain ⟨h1, cs, h2, h3, h4, h5⟩ := h
  have hb : vbounds xs.length none (some (.int .i64 (n : Int))) none = some (0, n, none) := vbounds_hi (by omega) (by omega)
  refine ⟨.hslice r 0 1 n, by rw [h1]; simp [vslice, IU, S3, hb], by rw [List.length_take, Nat.min_eq_left hn], cs, h2, by rw [List.length_take]; omega, ?_, h5⟩
  rw [List.length_take, Nat.min_eq_left hn, List.map_take, ← h4, List.take_take, Nat.min_eq_left hn]
theorem HI.append {σ : St} {v y : V} {r q : Nat} {xs : List Int} {x : Int} (h : HI σ v r xs) (hy : HI σ y q [x]) (hl : xs.length ≤ 1000000000) :
    ∃ v' σ', vappendRow Try.prog σ 70 70 v y = some (v', σ') ∧ HI σ' v' σ.objs.length (xs ++ [x]) ∧ KeepX r σ σ' ∧ σ'.objs.length = σ.objs.length + 1 := by
  obtain ⟨h1, cs, h2, h3, h4, h5⟩ := h
  obtain ⟨g1, ds, g2, g3, g4, g5⟩ := hy
  have hn : vnewsO Try.prog σ.objs 70 y 1 = some ([.int .i64 x], 1) := by
    rw [g1]
    have g3' : 1 ≤ ds.length := g3
    have g4' : ds.take 1 = [.int .i64 x] := g4
    simp [vnewsO, vnews, IU, g2, g3', g4']
  refine ⟨.hslice σ.objs.length 0 1 (xs.length + 1), ⟨σ.objs.set r .dead ++ [.cells (xs.map i64V ++ [.int .i64 x])], σ.toks⟩, ?_, ⟨by simp, xs.map i64V ++ [.int .i64 x], ?_, by simp, ?_, ?_⟩, ⟨fun p o hp ho => ?_, Nat.le_refl _, fun _ h => h⟩, by simp⟩
  · rw [h1]
    have e1 : xs.length + 1 ≤ 140737488355328 := by omega
    have e2 : (xs.length + 1) * 8 ≤ 140737488355328 := by omega
    simp [vappendRow, IU, IB, S3, IZ, vcells, hn, h2, e1, e2, h3, h4, one]
  · have := push_new (σ.objs.set r .dead) (Ob.cells (xs.map i64V ++ [.int .i64 x]))
    rwa [List.length_set] at this
  · rw [List.take_of_length_le (by simp)]; simp [i64V]
  · rw [List.all_append, Bool.and_eq_true]
    refine ⟨?_, rfl⟩
    rw [List.all_eq_true]
    intro z hz
    rw [List.mem_map] at hz
    obtain ⟨a, _, rfl⟩ := hz
    rfl
  · have hql : p < σ.objs.length := (List.getElem?_eq_some_iff.1 ho).1
    simp only
    rw [List.getElem?_append_left (by rw [List.length_set]; exact hql), List.getElem?_set_ne (Ne.symm hp)]
    exact ho
end Go.Proofs.Ytplhelapcpcncaa.Q

