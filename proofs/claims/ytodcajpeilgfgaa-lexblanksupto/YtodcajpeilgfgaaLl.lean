/- What a list of tokens is, seen from the text: a chain; and how it bears other texts behind a token. -/
import Derived.Test.YtodcajpeilgfgaaLj
set_option linter.unusedVariables false
set_option linter.unusedSimpArgs false
namespace Go.Proofs.Ytodcajpeilgfgaa.Q
open Go Go.RowKit Go.Proofs

/-- Tokens from the place a on. -/
inductive Chain (s : List UInt8) : Nat → List Tok → Prop
  | done : Chain s s.length [⟨5, [], 0, s.length⟩]
  | step {a : Nat} {k : Int} {t : List UInt8} {n w : Nat} {ts : List Tok} : a < s.length → nextR (s.drop a) = .ok k t n w → Chain s (a + w + skipL (s.drop (a + w))) ts → Chain s a (⟨k, t, n, a⟩ :: ts)

theorem Chain.head {s : List UInt8} {a : Nat} {ts : List Tok} (h : Chain s a ts) : ∃ t r, ts = t :: r ∧ t.pos = a := by
  cases h with
  | done => exact ⟨_, _, rfl, rfl⟩
  | step h1 h2 h3 => exact ⟨_, _, rfl, rfl⟩

theorem lexGo_cases {s : List UInt8} : ∀ (f a : Nat) (toks : List Tok), a ≤ s.length → s.length < a + f → toks.length ≤ 4096 →
    (∃ n e, lexGo s f a toks = ([], n, e) ∧ e ≠ 0 ∧ n ≤ s.length) ∨ (∃ ts, lexGo s f a toks = (toks ++ ts, 0, 0) ∧ Chain s a ts ∧ toks.length + ts.length ≤ 4096)
  | 0, a, toks, h1, h2, _ => by omega
  | f + 1, a, toks, h1, h2, h3 => by
    by_cases hlt : a < s.length
    · obtain ⟨c, r, hcr⟩ : ∃ c r, s.drop a = c :: r := ⟨_, _, List.drop_eq_getElem_cons hlt⟩
      have hrl : r.length + 1 = s.length - a := by have := congrArg List.length hcr; rw [List.length_drop, List.length_cons] at this; omega
      cases hn : nextR (s.drop a) with
      | bad off e =>
        have hb := nextR_bad (by rw [← hcr]; exact hn)
        exact .inl ⟨_, _, lexGo_bad hlt hn, by omega, by omega⟩
      | ok k t n w =>
        have hw := nextR_w hn
        rw [List.length_drop] at hw
        have hsk := skipL_le (s.drop (a + w))
        rw [List.length_drop] at hsk
        rw [lexGo_ok hlt hn]
        by_cases h4 : 4096 ≤ toks.length
        · rw [if_pos h4]
          exact .inl ⟨_, _, rfl, by decide, h1⟩
        · rw [if_neg h4]
          rcases lexGo_cases (s := s) f (a + w + skipL (s.drop (a + w))) (toks ++ [⟨k, t, n, a⟩]) (by omega) (by omega) (by simp; omega) with h | ⟨ts, h5, h6, h7⟩
          · exact .inl h
          · refine .inr ⟨_, by rw [h5, List.append_assoc]; rfl, .step hlt hn h6, ?_⟩
            simp at h7 ⊢
            omega
    · rw [lexGo_end hlt]
      by_cases h4 : 4096 ≤ toks.length
      · rw [if_pos h4]
        exact .inl ⟨_, _, rfl, by decide, h1⟩
      · rw [if_neg h4]
        have ha : a = s.length := by omega
        subst ha
        refine .inr ⟨_, rfl, .done, ?_⟩
        simp
        omega
theorem lexGo_chain {s : List UInt8} : ∀ {ts : List Tok} {a f : Nat} {toks : List Tok}, Chain s a ts → ts.length ≤ f → toks.length + ts.length ≤ 4096 → lexGo s f a toks = (toks ++ ts, 0, 0) := by
  intro ts a f toks h
  induction h generalizing f toks with
  | done =>
    intro h1 h2
    simp at h1 h2
    cases f with
    | zero => omega
    | succ f => rw [lexGo_end (Nat.lt_irrefl _), if_neg (by omega)]
  | step h1 h2 h3 ih =>
    intro h4 h5
    simp at h4 h5
    cases f with
    | zero => omega
    | succ f =>
      rw [lexGo_ok h1 h2, if_neg (by omega), ih (by omega) (by simp; omega), List.append_assoc]
      rfl
theorem Chain.len {s : List UInt8} {a : Nat} {ts : List Tok} (h : Chain s a ts) : ts.length + a ≤ s.length + 1 := by
  induction h with
  | done => simp; omega
  | step h1 h2 h3 ih =>
    have hw := nextR_w h2
    simp
    omega
theorem Chain.le {s : List UInt8} {a : Nat} {ts : List Tok} (h : Chain s a ts) : a ≤ s.length := by
  cases h with
  | done => omega
  | step h1 h2 h3 => omega

theorem lexS_cases (s : List UInt8) : (∃ n e, lexS s = ([], n, e) ∧ e ≠ 0 ∧ n ≤ s.length) ∨ (∃ ts, lexS s = (ts, 0, 0) ∧ Chain s (skipL s) ts ∧ ts.length ≤ 4096 ∧ s.length ≤ 16384) := by
  unfold lexS
  by_cases h : 16384 < s.length
  · rw [if_pos h]
    exact .inl ⟨_, _, rfl, by decide, by omega⟩
  · rw [if_neg h]
    have hsk := skipL_le s
    rcases lexGo_cases (s.length + 1) (skipL s) [] hsk (by omega) (by simp) with h1 | ⟨ts, h1, h2, h3⟩
    · exact .inl h1
    · exact .inr ⟨ts, by rw [h1]; rfl, h2, by simpa using h3, by omega⟩
theorem lexS_chain {s : List UInt8} {ts : List Tok} (h : Chain s (skipL s) ts) (hl : ts.length ≤ 4096) (hs : s.length ≤ 16384) : lexS s = (ts, 0, 0) := by
  unfold lexS
  rw [if_neg (by omega)]
  have := h.len
  exact lexGo_chain h (by omega) (by simpa using hl)

theorem nextR_kind {l : List UInt8} {k : Int} {t : List UInt8} {n w : Nat} (h : nextR l = .ok k t n w) : k = 1 ∨ k = 2 ∨ k = 3 ∨ k = 4 := by
  have htx : ∀ (N : Nat) (l acc : List UInt8) (off : Nat), l.length ≤ N → txtR l acc off = .ok k t n w → k = 3 := by
    intro N
    induction N with
    | zero =>
      intro l acc off hN h
      cases l with
      | nil => rw [txtR_nil] at h; cases h
      | cons c l => simp at hN
    | succ N ih =>
      intro l acc off hN h
      cases l with
      | nil => rw [txtR_nil] at h; cases h
      | cons c l =>
        rw [txtR_cons] at h
        simp only [List.length_cons] at hN
        split at h
        · split at h
          · cases h
          · injection h with h1; exact h1.symm
        split at h
        · cases h
        split at h
        · cases l with
          | nil => cases h
          | cons d l' =>
            simp only at h
            split at h
            · cases h
            · exact ih l' _ _ (by simp at hN; omega) h
        · exact ih l _ _ (by omega) h
  cases l with
  | nil => cases h
  | cons c r =>
    simp only [nextR] at h
    split at h
    · unfold nameR at h
      split at h
      · cases h
      · injection h with h1; omega
    split at h
    · unfold numR at h
      split at h
      · cases h
      split at h
      · cases h
      · injection h with h1; omega
    split at h
    · have := htx _ _ _ _ (Nat.le_refl _) h
      omega
    · unfold markR at h
      split at h
      · injection h with h1; omega
      · simp only at h
        split at h
        · injection h with h1; omega
        · cases h

theorem nextR_head {c : UInt8} {r : List UInt8} {k : Int} {t : List UInt8} {n w : Nat} (h : nextR (c :: r) = .ok k t n w) : isBl c = false ∧ c ≠ 35 := by
  have key : ∀ c : UInt8, isBl c = true ∨ c = 35 → isLt c = false ∧ isDg c = false ∧ c ≠ 34 ∧ c ∉ sgl ∧ ∀ m ∈ dbl, m.head? ≠ some c := by
    intro c hc
    have := u8_all (p := fun c => !(isBl c || decide (c = 35)) || (!isLt c && !isDg c && decide (c ≠ 34) && decide (c ∉ sgl) && decide (∀ m ∈ dbl, m.head? ≠ some c))) (by decide +kernel) c
    simp only [Bool.or_eq_true, Bool.not_eq_true', Bool.or_eq_false_iff, Bool.and_eq_true, decide_eq_true_eq, decide_eq_false_iff_not] at this
    rcases this with h1 | h1
    · rcases hc with h2 | h2
      · rw [h1.1] at h2; cases h2
      · exact absurd h2 h1.2
    · exact ⟨h1.1.1.1.1, h1.1.1.1.2, h1.1.1.2, h1.1.2, h1.2⟩
  have hno : ¬ (isBl c = true ∨ c = 35) := by
    intro hc
    obtain ⟨h1, h2, h3, h4, h5⟩ := key c hc
    simp only [nextR, h1, h2, h3, if_false, Bool.false_eq_true] at h
    unfold markR at h
    split at h
    · rename_i hm
      exact h5 _ hm (by simp)
    · simp only [h4, if_false] at h
      cases h
  exact ⟨by simpa using fun h => hno (.inl h), fun h => hno (.inr h)⟩

/-! ### What stands behind a token -/
/-- The text behind may be another: it ends, or begins as the old one does, or with a blank or a note. -/
def Alike (u u' : List UInt8) : Prop := u' = [] ∨ u'.head? = u.head? ∨ u'.head? = some 32 ∨ u'.head? = some 10 ∨ u'.head? = some 35

theorem span_app {p : UInt8 → Bool} : ∀ {l u : List UInt8}, (∀ x ∈ l, p x = true) → spanL p (l ++ u) = l.length + spanL p u
  | [], u, _ => by simp
  | c :: l, u, h => by
    rw [List.cons_append, spanL_cons (h c (by simp)), span_app (fun x hx => h x (by simp [hx])), List.length_cons]
    omega
theorem span_alike {p : UInt8 → Bool} {T u u' : List UInt8} (h : spanL p (T ++ u) = T.length) (hp : p 32 = false ∧ p 10 = false ∧ p 35 = false) (ha : Alike u u') : spanL p (T ++ u') = T.length := by
  have hT : ∀ x ∈ T, p x = true := by
    intro x hx
    obtain ⟨i, hi, rfl⟩ := List.getElem_of_mem hx
    have := span_all (p := p) (l := T ++ u) (i := i) (by simp; omega) (by omega)
    rwa [List.getElem_append_left hi] at this
  rw [span_app hT] at h ⊢
  have hu : spanL p u = 0 := by omega
  have : spanL p u' = 0 := by
    cases u' with
    | nil => rfl
    | cons d v =>
      have hd : p d = false := by
        rcases ha with h1 | h1 | h1 | h1 | h1
        · cases h1
        · cases u with
          | nil => simp at h1
          | cons e v' =>
            simp at h1
            subst h1
            cases hpd : p d with
            | false => rfl
            | true => rw [spanL_cons hpd] at hu; omega
        · simp at h1; rw [h1]; exact hp.1
        · simp at h1; rw [h1]; exact hp.2.1
        · simp at h1; rw [h1]; exact hp.2.2
      exact spanL_stop hd
  omega
theorem txtR_alike (u u' : List UInt8) : ∀ (N : Nat) (T acc : List UInt8) (off : Nat), T.length ≤ N → ∀ {k t n}, txtR (T ++ u) acc off = .ok k t n (off + T.length) → txtR (T ++ u') acc off = .ok k t n (off + T.length) := by
  intro N
  induction N with
  | zero =>
    intro T acc off hN k t n h
    have : T = [] := List.length_eq_zero_iff.1 (by omega)
    subst this
    have := (txtR_w _ _ _ _ (Nat.le_refl _) h).1
    simp at this
  | succ N ih =>
    intro T acc off hN k t n h
    cases T with
    | nil =>
      have := (txtR_w _ _ _ _ (Nat.le_refl _) h).1
      simp at this
    | cons c T =>
      simp only [List.length_cons] at hN
      rw [List.cons_append, txtR_cons] at h ⊢
      by_cases h1 : c = 34
      · rw [if_pos h1] at h ⊢
        exact h
      rw [if_neg h1] at h ⊢
      by_cases h2 : c.toNat < 32 ∨ 126 < c.toNat
      · rw [if_pos h2] at h; cases h
      rw [if_neg h2] at h ⊢
      by_cases h3 : c = 92
      · rw [if_pos h3] at h ⊢
        cases T with
        | nil =>
          cases u with
          | nil => cases h
          | cons d v =>
            simp only [List.nil_append] at h
            split at h
            · cases h
            · have := (txtR_w _ _ _ _ (Nat.le_refl _) h).1
              simp at this
        | cons d T =>
          simp only [List.cons_append] at h ⊢
          by_cases h4 : d ≠ 34 ∧ d ≠ 92
          · rw [if_pos h4] at h; cases h
          · rw [if_neg h4] at h ⊢
            have e : off + (d :: T).length.succ = off + 2 + T.length := by simp; omega
            simp only [List.length_cons] at h ⊢ hN
            have e : off + (T.length + 1 + 1) = off + 2 + T.length := by omega
            rw [e] at h ⊢
            exact ih T _ _ (by omega) h
      · rw [if_neg h3] at h ⊢
        simp only [List.length_cons] at h ⊢
        have e : off + (T.length + 1) = off + 1 + T.length := by omega
        rw [e] at h ⊢
        exact ih T _ _ (by omega) h

theorem nextR_alike {T u u' : List UInt8} {k : Int} {t : List UInt8} {n : Nat} (h : nextR (T ++ u) = .ok k t n T.length) (ha : Alike u u') : nextR (T ++ u') = .ok k t n T.length := by
  have hw := nextR_w h
  cases T with
  | nil => simp at hw
  | cons c r =>
    rw [List.cons_append] at h ⊢
    simp only [nextR] at h ⊢
    by_cases h1 : isLt c = true
    · rw [if_pos h1] at h ⊢
      unfold nameR at h ⊢
      split at h
      · cases h
      · rename_i h3
        injection h with e1 e2 e3 e4
        have e4' : spanL isNm ((c :: r) ++ u) = (c :: r).length := by simpa using e4
        have e5 := span_alike e4' (by decide) ha
        rw [List.cons_append] at e5
        rw [e5]
        rw [e4] at h3
        rw [if_neg h3, ← e1, ← e2, ← e3, e4]
        congr 1
        rw [← List.cons_append, ← List.cons_append, List.take_left, List.take_left]
    rw [if_neg h1] at h ⊢
    by_cases h2 : isDg c = true
    · rw [if_pos h2] at h ⊢
      have hd0 : ∀ v : List UInt8, (c :: v).head? = some c := fun v => rfl
      unfold numR at h ⊢
      rw [hd0] at h ⊢
      split at h
      · cases h
      split at h
      · cases h
      · rename_i h3 h4
        injection h with e1 e2 e3 e4
        have e4' : spanL isDg ((c :: r) ++ u) = (c :: r).length := by simpa using e4
        have e5 := span_alike e4' (by decide) ha
        rw [List.cons_append] at e5
        have t1 : (c :: (r ++ u)).take (c :: r).length = c :: r := by rw [← List.cons_append, List.take_left]
        have t2 : (c :: (r ++ u')).take (c :: r).length = c :: r := by rw [← List.cons_append, List.take_left]
        rw [e5, t2]
        rw [e4] at h3 h4 e2 e3
        rw [t1] at h4 e2 e3
        rw [if_neg h3, if_neg h4, ← e1, ← e2, ← e3]
    rw [if_neg h2] at h ⊢
    by_cases h3 : c = 34
    · rw [if_pos h3] at h ⊢
      have e : (c :: r).length = 1 + r.length := by simp; omega
      rw [e] at h ⊢
      exact txtR_alike u u' r.length r [] 1 (Nat.le_refl _) h
    rw [if_neg h3] at h ⊢
    unfold markR at h ⊢
    have hd2 : ∀ m ∈ dbl, m.length = 2 ∧ m[1]? ≠ some 32 ∧ m[1]? ≠ some 10 ∧ m[1]? ≠ some 35 := by decide
    split at h
    · rename_i hm
      injection h with e1 e2 e3 e4
      cases r with
      | nil => simp at e4
      | cons d r2 =>
        have hr2 : r2 = [] := List.length_eq_zero_iff.1 (by simp only [List.length_cons] at e4; omega)
        subst hr2
        have t1 : ∀ v, (c :: ([d] ++ v)).take 2 = [c, d] := fun v => by simp
        rw [t1] at hm e2
        rw [t1, if_pos hm, ← e1, ← e2, ← e3, ← e4]
    · rename_i hm
      simp only at h ⊢
      split at h
      · rename_i hs
        injection h with e1 e2 e3 e4
        have hr : r = [] := List.length_eq_zero_iff.1 (by simp only [List.length_cons] at e4; omega)
        subst hr
        have hm' : ¬ (c :: ([] ++ u')).take 2 ∈ dbl := by
          intro hm2
          have h5 := hd2 _ hm2
          simp only [List.nil_append] at hm2 h5 hm
          rcases ha with h6 | h6 | h6 | h6 | h6
          · subst h6; simp at h5
          · apply hm
            cases u' with
            | nil => simp at h5
            | cons x y =>
              cases u with
              | nil => simp at h6
              | cons x' y' => simp at h6; subst h6; simpa using hm2
          · cases u' with
            | nil => simp at h6
            | cons x y => simp at h6; subst h6; simp at h5
          · cases u' with
            | nil => simp at h6
            | cons x y => simp at h6; subst h6; simp at h5
          · cases u' with
            | nil => simp at h6
            | cons x y => simp at h6; subst h6; simp at h5
        rw [if_neg hm', if_pos hs, ← e1, ← e2, ← e3, ← e4]
      · cases h

/-! ### Blanks -/
/-- Over blanks and notes; true: inside a note. -/
def run : Bool → List UInt8 → Option Bool
  | b, [] => some b
  | false, c :: l => if isBl c then run false l else if c = 35 then run true l else none
  | true, c :: l => if c = 10 then run false l else run true l
def skN (b : Bool) (l : List UInt8) : Nat := if b then noteL l else skipL l
theorem run_app : ∀ (X : List UInt8) (b b' : Bool) (Y : List UInt8), run b X = some b' → skN b (X ++ Y) = X.length + skN b' Y
  | [], b, b', Y, h => by simp [run] at h; subst h; simp
  | c :: X, false, b', Y, h => by
    rw [run] at h
    simp only [skN, Bool.false_eq_true, if_false, List.cons_append, skipL, List.length_cons]
    split at h
    · rename_i h1
      have := run_app X false b' Y h
      simp only [skN, Bool.false_eq_true, if_false] at this
      rw [if_pos h1, this]
      omega
    · rename_i h1
      split at h
      · rename_i h2
        have := run_app X true b' Y h
        simp only [skN, if_true] at this
        rw [if_neg h1, if_pos h2, this]
        omega
      · cases h
  | c :: X, true, b', Y, h => by
    rw [run] at h
    simp only [skN, if_true, List.cons_append, noteL, List.length_cons]
    split at h
    · rename_i h1
      have := run_app X false b' Y h
      simp only [skN, Bool.false_eq_true, if_false] at this
      rw [if_pos h1, this]
      omega
    · rename_i h1
      have := run_app X true b' Y h
      simp only [skN, if_true] at this
      rw [if_neg h1, this]
      omega
theorem run_take : ∀ (l : List UInt8) (b : Bool), ∃ b', run b (l.take (skN b l)) = some b' ∧ (b' = true → l.drop (skN b l) = [])
  | [], b => ⟨b, by simp [run], by simp⟩
  | c :: l, false => by
    simp only [skN, Bool.false_eq_true, if_false, skipL]
    by_cases h1 : isBl c = true
    · obtain ⟨b', h2, h3⟩ := run_take l false
      simp only [skN, Bool.false_eq_true, if_false] at h2 h3
      rw [if_pos h1, Nat.add_comm 1, List.take_succ_cons, List.drop_succ_cons, run, if_pos h1]
      exact ⟨b', h2, h3⟩
    · rw [if_neg h1]
      by_cases h4 : c = 35
      · obtain ⟨b', h2, h3⟩ := run_take l true
        simp only [skN, if_true] at h2 h3
        rw [if_pos h4, Nat.add_comm 1, List.take_succ_cons, List.drop_succ_cons, run, if_neg h1, if_pos h4]
        exact ⟨b', h2, h3⟩
      · rw [if_neg h4]
        exact ⟨false, rfl, fun h => by cases h⟩
  | c :: l, true => by
    simp only [skN, if_true, noteL]
    by_cases h1 : c = 10
    · obtain ⟨b', h2, h3⟩ := run_take l false
      simp only [skN, Bool.false_eq_true, if_false] at h2 h3
      rw [if_pos h1, Nat.add_comm 1, List.take_succ_cons, List.drop_succ_cons, run, if_pos h1]
      exact ⟨b', h2, h3⟩
    · obtain ⟨b', h2, h3⟩ := run_take l true
      simp only [skN, if_true] at h2 h3
      rw [if_neg h1, Nat.add_comm 1, List.take_succ_cons, List.drop_succ_cons, run, if_neg h1]
      exact ⟨b', h2, h3⟩
mutual
theorem skipL_take : ∀ (l : List UInt8) (m : Nat), skipL (l.take m) = min m (skipL l)
  | [], m => by simp [skipL]
  | c :: l, 0 => by simp [skipL]
  | c :: l, m + 1 => by
    rw [List.take_succ_cons, skipL, skipL, skipL_take l m, noteL_take l m]
    split
    · omega
    · split <;> omega
theorem noteL_take : ∀ (l : List UInt8) (m : Nat), noteL (l.take m) = min m (noteL l)
  | [], m => by simp [noteL]
  | c :: l, 0 => by simp [noteL]
  | c :: l, m + 1 => by
    rw [List.take_succ_cons, noteL, noteL, skipL_take l m, noteL_take l m]
    split <;> omega
end

/-! ### A text cut before a token -/
theorem Chain.cut {s : List UInt8} {a : Nat} {ts : List Tok} (h : Chain s a ts) : ∀ {n : Nat} {t : Tok}, ts[n + 1]? = some t → a ≤ t.pos ∧ t.pos ≤ s.length ∧ Chain (s.take t.pos) a (ts.take (n + 1) ++ [⟨5, [], 0, t.pos⟩]) := by
  induction h with
  | done => intro n t h; simp at h
  | @step a k tx nm w ts h1 h2 h3 ih =>
    intro n t ht
    rw [List.getElem?_cons_succ] at ht
    have hw := nextR_w h2
    rw [List.length_drop] at hw
    have base : ∀ b, a + w ≤ b → b ≤ s.length → nextR ((s.take b).drop a) = .ok k tx nm w := by
      intro b hb hbl
      have e1 : (s.drop a).take w ++ (s.drop a).drop w = s.drop a := List.take_append_drop _ _
      have e2 : (s.take b).drop a = (s.drop a).take w ++ ((s.drop a).drop w).take (b - a - w) := by
        rw [List.drop_take, show b - a = w + (b - a - w) by omega, List.take_add]
        congr 2
        omega
      have hTl : ((s.drop a).take w).length = w := by rw [List.length_take, List.length_drop]; omega
      rw [e2]
      have := nextR_alike (T := (s.drop a).take w) (u := (s.drop a).drop w) (u' := ((s.drop a).drop w).take (b - a - w)) (k := k) (t := tx) (n := nm) (by rw [e1, hTl]; exact h2) (by
        cases hx : (s.drop a).drop w with
        | nil => exact .inl (by simp)
        | cons x y =>
          cases hy : b - a - w with
          | zero => exact .inl (by simp)
          | succ z => exact .inr (.inl (by simp)))
      rwa [hTl] at this
    have sk : ∀ b, a + w + skipL (s.drop (a + w)) ≤ b → b ≤ s.length → skipL ((s.take b).drop (a + w)) = skipL (s.drop (a + w)) := by
      intro b hb hbl
      rw [List.drop_take, skipL_take]
      omega
    cases n with
    | zero =>
      obtain ⟨t', r, rfl, hp⟩ := h3.head
      simp at ht
      subst ht
      have hle := h3.le
      have hlen : (s.take t'.pos).length = t'.pos := by rw [List.length_take]; omega
      refine ⟨by omega, by omega, ?_⟩
      simp only [List.take_succ_cons, List.take_zero, List.cons_append, List.nil_append]
      refine .step (by omega) (base _ (by omega) (by omega)) ?_
      rw [sk _ (by omega) (by omega), ← hp]
      have := Chain.done (s := s.take t'.pos)
      rwa [hlen] at this
    | succ n =>
      obtain ⟨g1, g2, g3⟩ := ih ht
      have hlen : (s.take t.pos).length = t.pos := by rw [List.length_take]; omega
      refine ⟨by omega, g2, ?_⟩
      rw [List.take_succ_cons, List.cons_append]
      refine .step (by omega) (base _ (by omega) g2) ?_
      rw [sk _ g1 g2]
      exact g3
theorem lexS_cut {s : List UInt8} {ts : List Tok} (h : lexS s = (ts, 0, 0)) {n : Nat} {t : Tok} (ht : ts[n + 1]? = some t) : t.pos ≤ s.length ∧ lexS (s.take t.pos) = (ts.take (n + 1) ++ [⟨5, [], 0, t.pos⟩], 0, 0) := by
  rcases lexS_cases s with ⟨_, e, h1, h2, _⟩ | ⟨ts', h1, h2, h3, h4⟩
  · rw [h] at h1
    injection h1 with _ h1
    injection h1 with _ h1
    exact absurd h1.symm h2
  · rw [h] at h1
    injection h1 with h1 _
    subst h1
    obtain ⟨g1, g2, g3⟩ := h2.cut ht
    have hn : n + 1 < ts.length := (List.getElem?_eq_some_iff.1 ht).1
    refine ⟨g2, lexS_chain ?_ ?_ ?_⟩
    · rw [skipL_take, Nat.min_eq_right g1]
      exact g3
    · rw [List.length_append, List.length_take]
      simp
      omega
    · rw [List.length_take]; omega
end Go.Proofs.Ytodcajpeilgfgaa.Q
