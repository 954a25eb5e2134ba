import Derived.Test.YtodcajpeilgfgaaTa
set_option linter.unusedVariables false
set_option linter.unusedSimpArgs false
namespace Go.Proofs.Ytodcajpeilgfgaa.Q
open Go Go.RowKit Go.Proofs

/-! ### What tokens are -/
structure Tok where
  kind : Int
  text : List UInt8
  num : Nat
  pos : Nat
  deriving DecidableEq

def isBl (c : UInt8) : Bool := c == 32 || c == 10 || c == 9
def isLt (c : UInt8) : Bool := (decide (97 ≤ c.toNat) && decide (c.toNat ≤ 122)) || c == 95
def isDg (c : UInt8) : Bool := decide (48 ≤ c.toNat) && decide (c.toNat ≤ 57)
def lettersB : List UInt8 := [97, 98, 99, 100, 101, 102, 103, 104, 105, 106, 107, 108, 109, 110, 111, 112, 113, 114, 115, 116, 117, 118, 119, 120, 121, 122, 95]
def digitsB : List UInt8 := [48, 49, 50, 51, 52, 53, 54, 55, 56, 57]
def blanksB : List UInt8 := [32, 10, 9]
def sgl : List UInt8 := [40, 41, 123, 125, 91, 93, 58, 59, 44, 61, 60, 62, 43, 45, 42, 47, 37, 33, 46]
def dbl : List (List UInt8) := [[61, 61], [33, 61], [60, 61], [62, 61], [38, 38], [124, 124]]
def spanL (p : UInt8 → Bool) (l : List UInt8) : Nat := (l.takeWhile p).length
mutual
def skipL : List UInt8 → Nat
  | [] => 0
  | c :: l => if isBl c then 1 + skipL l else if c = 35 then 1 + noteL l else 0
def noteL : List UInt8 → Nat
  | [] => 0
  | c :: l => if c = 10 then 1 + skipL l else 1 + noteL l
end

/-- A token, or a fault and its place, seen from here. -/
inductive NR where
  | ok (k : Int) (t : List UInt8) (n w : Nat)
  | bad (off : Nat) (e : Int)

def decF (n : Nat) (c : UInt8) : Nat := n * 10 + (c.toNat - 48)
def decV (l : List UInt8) : Nat := l.foldl decF 0
def numR (l : List UInt8) : NR :=
  if 1 < spanL isDg l ∧ l.head? = some 48 then .bad 0 30 else if 9223372036854775808 ≤ decV (l.take (spanL isDg l)) then .bad 0 3 else .ok 2 (l.take (spanL isDg l)) (decV (l.take (spanL isDg l))) (spanL isDg l)
def isNm (c : UInt8) : Bool := isLt c || isDg c
def nameR (l : List UInt8) : NR := if 16 < spanL isNm l then .bad 0 3 else .ok 1 (l.take (spanL isNm l)) 0 (spanL isNm l)
def txtR : List UInt8 → List UInt8 → Nat → NR
  | [], _, _ => .bad 0 30
  | c :: l, acc, off => if c = 34 then (if 256 < acc.length then .bad 0 3 else .ok 3 acc 0 (off + 1))
    else if c.toNat < 32 ∨ 126 < c.toNat then .bad off 30
    else if c = 92 then match l with
      | [] => .bad off 30
      | d :: l' => if d ≠ 34 ∧ d ≠ 92 then .bad off 30 else txtR l' (acc ++ [d]) (off + 2)
    else txtR l (acc ++ [c]) (off + 1)
def markR (l : List UInt8) : NR := if l.take 2 ∈ dbl then .ok 4 (l.take 2) 0 2 else match l with
  | c :: _ => if c ∈ sgl then .ok 4 [c] 0 1 else .bad 0 30
  | [] => .bad 0 30
def nextR (l : List UInt8) : NR := match l with
  | [] => .bad 0 0
  | c :: r => if isLt c then nameR l else if isDg c then numR l else if c = 34 then txtR r [] 1 else markR l

def lexGo (s : List UInt8) : Nat → Nat → List Tok → List Tok × Nat × Int
  | 0, _, _ => ([], 0, 0)
  | f + 1, a, toks => if a < s.length then match nextR (s.drop a) with
      | .bad off e => ([], a + off, e)
      | .ok k t n w => if 4096 ≤ toks.length then ([], a, 36) else lexGo s f (a + w + skipL (s.drop (a + w))) (toks ++ [⟨k, t, n, a⟩])
    else if 4096 ≤ toks.length then ([], a, 36) else (toks ++ [⟨5, [], 0, a⟩], 0, 0)
def lexS (s : List UInt8) : List Tok × Nat × Int := if 16384 < s.length then ([], 16384, 3) else lexGo s (s.length + 1) (skipL s) []

/-! ### Sets of bytes -/
theorem u8_all {p : UInt8 → Bool} (h : ((List.range 256).all fun n => p (UInt8.ofNat n)) = true) (c : UInt8) : p c = true := by
  rw [List.all_eq_true] at h
  have := h c.toNat (List.mem_range.2 c.toNat_lt)
  rwa [UInt8.ofNat_toNat] at this
theorem in_blanks (c : UInt8) : decide (0 ≤ Lib.indexByte blanksB c) = isBl c := by
  have := u8_all (p := fun c => decide (0 ≤ Lib.indexByte blanksB c) == isBl c) (by decide +kernel) c
  simpa using this
theorem in_letters (c : UInt8) : decide (0 ≤ Lib.indexByte lettersB c) = isLt c := by
  have := u8_all (p := fun c => decide (0 ≤ Lib.indexByte lettersB c) == isLt c) (by decide +kernel) c
  simpa using this
theorem in_digits (c : UInt8) : decide (0 ≤ Lib.indexByte digitsB c) = isDg c := by
  have := u8_all (p := fun c => decide (0 ≤ Lib.indexByte digitsB c) == isDg c) (by decide +kernel) c
  simpa using this
theorem in_names (c : UInt8) : decide (0 ≤ Lib.indexByte (lettersB ++ digitsB) c) = isNm c := by
  have := u8_all (p := fun c => decide (0 ≤ Lib.indexByte (lettersB ++ digitsB) c) == isNm c) (by decide +kernel) c
  simpa using this
theorem in_singles (c : UInt8) : decide (0 ≤ Lib.indexByte sgl c) = decide (c ∈ sgl) := by
  have := u8_all (p := fun c => decide (0 ≤ Lib.indexByte sgl c) == decide (c ∈ sgl)) (by decide +kernel) c
  simpa using this
theorem sgl_str (c : UInt8) (h : c ∈ sgl) : (Utf8.encode (c.toNat : Int)).data.toList = [c] := by
  have := u8_all (p := fun c => !decide (c ∈ sgl) || decide ((Utf8.encode (c.toNat : Int)).data.toList = [c])) (by decide +kernel) c
  simp only [Bool.or_eq_true, Bool.not_eq_true', decide_eq_false_iff_not, decide_eq_true_eq] at this
  exact this.resolve_left fun h' => h' h
theorem idx_none {l : List UInt8} {c : UInt8} (h : Lib.indexByte l c < 0) : Lib.indexByte l c = -1 := by
  have := Lib.indexByte_ge l c
  omega

/-! ### How far -/
theorem spanL_le (p : UInt8 → Bool) : ∀ l, spanL p l ≤ l.length
  | [] => Nat.le_refl _
  | c :: l => by
    have := spanL_le p l
    unfold spanL at *
    rw [List.takeWhile_cons]
    split <;> simp <;> omega
theorem spanL_cons {p : UInt8 → Bool} {c : UInt8} {l : List UInt8} (h : p c = true) : spanL p (c :: l) = 1 + spanL p l := by
  unfold spanL; rw [List.takeWhile_cons, if_pos h, List.length_cons]; omega
theorem spanL_stop {p : UInt8 → Bool} {c : UInt8} {l : List UInt8} (h : p c = false) : spanL p (c :: l) = 0 := by
  unfold spanL; rw [List.takeWhile_cons, if_neg (by rw [h]; decide)]; rfl
theorem spanL_nil (p : UInt8 → Bool) : spanL p [] = 0 := rfl
mutual
theorem skipL_le : ∀ l, skipL l ≤ l.length
  | [] => by simp [skipL]
  | c :: l => by
    have h1 := skipL_le l
    have h2 := noteL_le l
    rw [skipL, List.length_cons]
    split
    · omega
    · split <;> omega
theorem noteL_le : ∀ l, noteL l ≤ l.length
  | [] => by simp [noteL]
  | c :: l => by
    have h1 := skipL_le l
    have h2 := noteL_le l
    rw [noteL, List.length_cons]
    split <;> omega
end
theorem skipL_span (l : List UInt8) : skipL l = spanL isBl l + skipL (l.drop (spanL isBl l)) := by
  induction l with
  | nil => rfl
  | cons c l ih =>
    by_cases h : isBl c = true
    · rw [spanL_cons h, skipL, if_pos h, ih, Nat.add_comm 1 (spanL isBl l), List.drop_succ_cons]
      omega
    · rw [Bool.not_eq_true] at h
      rw [spanL_stop h]
      simp
theorem span_stop {p : UInt8 → Bool} {l : List UInt8} {c : UInt8} {r : List UInt8} (h : l.drop (spanL p l) = c :: r) : p c = false := by
  induction l with
  | nil => simp at h
  | cons d l ih =>
    by_cases hd : p d = true
    · rw [spanL_cons hd, Nat.add_comm 1, List.drop_succ_cons] at h
      exact ih h
    · rw [Bool.not_eq_true] at hd
      rw [spanL_stop hd, List.drop_zero] at h
      injection h with h1 h2
      rw [← h1]; exact hd
theorem skipL_stop {l : List UInt8} {c : UInt8} {r : List UInt8} (h : l = c :: r) (hb : isBl c = false) (h35 : c ≠ 35) : skipL l = 0 := by
  rw [h, skipL, if_neg (by rw [hb]; decide), if_neg h35]
theorem noteL_idx : ∀ l : List UInt8, noteL l = if 0 ≤ Lib.indexByte l 10 then (Lib.indexByte l 10).toNat + skipL (l.drop (Lib.indexByte l 10).toNat) else l.length
  | [] => by simp [noteL, Lib.indexByte]
  | c :: l => by
    have ih := noteL_idx l
    have hge := Lib.indexByte_ge l 10
    rw [noteL, Lib.indexByte]
    by_cases h : c = 10
    · subst h
      rw [if_pos rfl]
      simp
      rw [skipL, if_pos (by rfl)]
    · have hne : (c == 10) = false := by simpa using h
      rw [if_neg h]
      simp only [hne, Bool.false_eq_true, if_false, beq_iff_eq]
      rw [ih]
      by_cases h1 : Lib.indexByte l 10 = -1
      · simp [h1]
        omega
      · simp only [if_neg h1]
        rw [if_pos (show (0 : Int) ≤ Lib.indexByte l 10 by omega), if_pos (show (0 : Int) ≤ Lib.indexByte l 10 + 1 by omega)]
        have : (Lib.indexByte l 10 + 1).toNat = (Lib.indexByte l 10).toNat + 1 := by omega
        rw [this, List.drop_succ_cons]
        omega
/-- A note. -/
theorem skipL_note {l r : List UInt8} (h : l = 35 :: r) : skipL l = if 0 ≤ Lib.indexByte l 10 then (Lib.indexByte l 10).toNat + skipL (l.drop (Lib.indexByte l 10).toNat) else l.length := by
  subst h
  have hb : isBl 35 = false := by decide
  rw [skipL, if_neg (by rw [hb]; decide), if_pos rfl]
  have := noteL_idx (35 :: r)
  rw [noteL, if_neg (by decide)] at this
  exact this
end Go.Proofs.Ytodcajpeilgfgaa.Q
