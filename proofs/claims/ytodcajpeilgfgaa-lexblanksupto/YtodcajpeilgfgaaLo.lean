/- Blanks and notes set between the tokens of a text leave them as they were. -/
import Derived.Test.YtodcajpeilgfgaaLl
set_option linter.unusedVariables false
set_option linter.unusedSimpArgs false
namespace Go.Proofs.Ytodcajpeilgfgaa.Q
open Go Go.RowKit Go.Proofs

def pads : List (List UInt8) := [[32], [10, 9], [35, 120, 32, 34, 10], [32, 35, 32, 49, 10, 35, 10]]
def padOf (bs : List UInt8) (i : Nat) : List UInt8 := match bs[i]? with
  | some c => pads.getD (c.toNat % 4) []
  | none => []
def endOf (s : List UInt8) (ts : List Tok) : Nat := match ts with
  | [] => s.length
  | t :: _ => t.pos
def build (s bs : List UInt8) : Nat → List Tok → List UInt8
  | _, [] => []
  | i, t :: ts => padOf bs i ++ (s.take (endOf s ts)).drop t.pos ++ build s bs (i + 1) ts

theorem padOf_in (bs : List UInt8) (i : Nat) : padOf bs i = [] ∨ padOf bs i ∈ pads := by
  unfold padOf
  split
  · rename_i c _
    have h : c.toNat % 4 < pads.length := Nat.mod_lt _ (by decide)
    rw [List.getD_eq_getElem?_getD, List.getElem?_eq_getElem h]
    exact .inr (List.getElem_mem _)
  · exact .inl rfl
theorem padOf_run (bs : List UInt8) (i : Nat) (b : Bool) : ∃ b', run b (padOf bs i) = some b' ∧ (b = false → b' = false) := by
  have hp : ∀ m ∈ pads, run false m = some false ∧ ∃ b', run true m = some b' := by
    intro m hm
    simp only [pads, List.mem_cons, List.not_mem_nil, or_false] at hm
    rcases hm with rfl | rfl | rfl | rfl
    · exact ⟨by decide, true, by decide⟩
    · exact ⟨by decide, false, by decide⟩
    · exact ⟨by decide, false, by decide⟩
    · exact ⟨by decide, false, by decide⟩
  rcases padOf_in bs i with h | h
  · rw [h]; exact ⟨b, by cases b <;> rfl, id⟩
  · cases b with
    | false => exact ⟨false, (hp _ h).1, id⟩
    | true => obtain ⟨b', hb'⟩ := (hp _ h).2; exact ⟨b', hb', fun h => by cases h⟩
theorem padOf_head (bs : List UInt8) (i : Nat) : padOf bs i = [] ∨ ∀ r, (padOf bs i ++ r).head? = some 32 ∨ (padOf bs i ++ r).head? = some 10 ∨ (padOf bs i ++ r).head? = some 35 := by
  rcases padOf_in bs i with h | h
  · exact .inl h
  · refine .inr fun r => ?_
    obtain ⟨m, hm⟩ : ∃ m, m = padOf bs i := ⟨_, rfl⟩
    rw [← hm] at h ⊢
    simp only [pads, List.mem_cons, List.not_mem_nil, or_false] at h
    rcases h with rfl | rfl | rfl | rfl
    · exact .inl rfl
    · exact .inr (.inl rfl)
    · exact .inr (.inr rfl)
    · exact .inl rfl

theorem Chain.endOf {s : List UInt8} {a : Nat} {ts : List Tok} (h : Chain s a ts) : endOf s ts = a := by
  obtain ⟨t, r, rfl, hp⟩ := h.head
  exact hp
/-- The rest begins behind its pad. -/
theorem build_rest {s bs : List UInt8} {a : Nat} {ts : List Tok} (h : Chain s a ts) (i : Nat) : ∃ rest, build s bs i ts = padOf bs i ++ rest ∧ (rest = [] ∨ ∃ c r r', s.drop a = c :: r ∧ rest = c :: r' ∧ isBl c = false ∧ c ≠ 35) := by
  cases h with
  | done => exact ⟨[], by simp [build, Q.endOf], .inl rfl⟩
  | @step _ k t n w ts h1 h2 h3 =>
    have hw := nextR_w h2
    rw [List.length_drop] at hw
    obtain ⟨c, r, hcr⟩ : ∃ c r, s.drop a = c :: r := ⟨_, _, List.drop_eq_getElem_cons h1⟩
    refine ⟨_, by rw [build, List.append_assoc], .inr ⟨c, r, ?_⟩⟩
    have hh := nextR_head (by rw [← hcr]; exact h2)
    rw [h3.endOf, List.drop_take, hcr]
    obtain ⟨d, hd⟩ : ∃ d, a + w + skipL (s.drop (a + w)) - a = d + 1 := ⟨a + w + skipL (s.drop (a + w)) - a - 1, by omega⟩
    rw [hd, List.take_succ_cons, List.cons_append]
    exact ⟨_, rfl, rfl, hh.1, hh.2⟩
/-- The blanks before a token, with its pad. -/
theorem skip_rest {s bs : List UInt8} {a : Nat} {ts : List Tok} (h : Chain s a ts) (i : Nat) {b : Bool} (hb : b = true → s.drop a = []) : skN b (build s bs i ts) = (padOf bs i).length := by
  obtain ⟨rest, h1, h2⟩ := build_rest (bs := bs) h i
  obtain ⟨b', h3, h4⟩ := padOf_run bs i b
  rw [h1, run_app _ _ _ _ h3]
  have : skN b' rest = 0 := by
    rcases h2 with rfl | ⟨c, r, r', h5, rfl, h6, h7⟩
    · cases b' <;> rfl
    · have hbf : b = false := by
        cases b with
        | false => rfl
        | true => rw [hb rfl] at h5; cases h5
      rw [h4 hbf]
      simp only [skN, Bool.false_eq_true, if_false]
      exact skipL_stop rfl h6 h7
  omega

def core (t : Tok) : Int × List UInt8 × Nat := (t.kind, t.text, t.num)
theorem chain_build {s : List UInt8} (bs : List UInt8) {a : Nat} {ts : List Tok} (h : Chain s a ts) : ∀ (i : Nat) (pre : List UInt8), ∃ ts', Chain (pre ++ build s bs i ts) (pre.length + (padOf bs i).length) ts' ∧ ts'.map core = ts.map core := by
  induction h with
  | done =>
    intro i pre
    have e : pre ++ build s bs i [⟨5, [], 0, s.length⟩] = pre ++ padOf bs i := by simp [build, Q.endOf]
    rw [e]
    have hd := Chain.done (s := pre ++ padOf bs i)
    rw [List.length_append] at hd
    exact ⟨_, hd, rfl⟩
  | @step a k t n w ts h1 h2 h3 ih =>
    intro i pre
    have hw := nextR_w h2
    rw [List.length_drop] at hw
    have hle := h3.le
    obtain ⟨sk, hsk⟩ : ∃ sk, sk = skipL (s.drop (a + w)) := ⟨_, rfl⟩
    rw [← hsk] at h3 hle
    obtain ⟨T, hT⟩ : ∃ T, T = (s.drop a).take w := ⟨_, rfl⟩
    obtain ⟨B, hB⟩ : ∃ B, B = (s.drop (a + w)).take sk := ⟨_, rfl⟩
    have hTl : T.length = w := by rw [hT, List.length_take, List.length_drop]; omega
    have hBl : B.length = sk := by rw [hB, List.length_take, List.length_drop]; omega
    have hseg : (s.take (endOf s ts)).drop a = T ++ B := by
      rw [h3.endOf, List.drop_take, show a + w + sk - a = w + sk by omega, List.take_add, ← hT, List.drop_drop, ← hB]
    have horig : s.drop a = T ++ s.drop (a + w) := by rw [hT, ← List.drop_drop, List.take_append_drop]
    obtain ⟨u2, hu2⟩ : ∃ u2, u2 = build s bs (i + 1) ts := ⟨_, rfl⟩
    have hbuild : build s bs i (⟨k, t, n, a⟩ :: ts) = padOf bs i ++ (T ++ B) ++ u2 := by rw [build, hseg, ← hu2]
    have hal : Alike (s.drop (a + w)) (B ++ u2) := by
      cases hBc : B with
      | cons x y =>
        refine .inr (.inl ?_)
        rw [hB] at hBc
        cases hsd : s.drop (a + w) with
        | nil => rw [hsd] at hBc; simp at hBc
        | cons x' y' =>
          rw [hsd] at hBc
          cases sk with
          | zero => simp at hBc
          | succ z => rw [List.take_succ_cons] at hBc; injection hBc with e1 e2; simp [e1]
      | nil =>
        have hs0 : sk = 0 := by rw [← hBl, hBc]; rfl
        rw [List.nil_append, hu2]
        obtain ⟨rest, h4, h5⟩ := build_rest (bs := bs) h3 (i + 1)
        rw [h4]
        rcases padOf_head bs (i + 1) with h6 | h6
        · rw [h6, List.nil_append]
          rcases h5 with rfl | ⟨c, r, r', h7, rfl, _, _⟩
          · exact .inl rfl
          · refine .inr (.inl ?_)
            rw [hs0, Nat.add_zero] at h7
            rw [h7]
            rfl
        · rcases h6 rest with h7 | h7 | h7
          · exact .inr (.inr (.inl h7))
          · exact .inr (.inr (.inr (.inl h7)))
          · exact .inr (.inr (.inr (.inr h7)))
    have hnx : nextR (T ++ (B ++ u2)) = .ok k t n w := by
      have := nextR_alike (T := T) (u := s.drop (a + w)) (u' := B ++ u2) (k := k) (t := t) (n := n) (by rw [← horig, hTl]; exact h2) hal
      rwa [hTl] at this
    have hskip : skipL (B ++ u2) = sk + (padOf bs (i + 1)).length := by
      obtain ⟨b', g1, g2⟩ := run_take (s.drop (a + w)) false
      simp only [skN, Bool.false_eq_true, if_false, ← hsk] at g1 g2
      rw [← hB] at g1
      have g3 := run_app B false b' u2 g1
      simp only [skN, Bool.false_eq_true, if_false] at g3
      have g4 := skip_rest (bs := bs) h3 (i + 1) (b := b') (by rw [← List.drop_drop]; exact g2)
      rw [← hu2] at g4
      simp only [skN] at g3 g4
      rw [g3, g4, hBl]
    obtain ⟨ts', g5, g6⟩ := ih (i + 1) (pre ++ (padOf bs i ++ (T ++ B)))
    have hS : pre ++ build s bs i (⟨k, t, n, a⟩ :: ts) = pre ++ (padOf bs i ++ (T ++ B)) ++ build s bs (i + 1) ts := by rw [hbuild, hu2]; simp only [List.append_assoc]
    have hS2 : pre ++ build s bs i (⟨k, t, n, a⟩ :: ts) = (pre ++ padOf bs i) ++ (T ++ (B ++ u2)) := by rw [hbuild]; simp only [List.append_assoc]
    have hP : pre.length + (padOf bs i).length = (pre ++ padOf bs i).length := by rw [List.length_append]
    have hd1 : (pre ++ build s bs i (⟨k, t, n, a⟩ :: ts)).drop (pre.length + (padOf bs i).length) = T ++ (B ++ u2) := by rw [hS2, hP, List.drop_left]
    have hd2 : (pre ++ build s bs i (⟨k, t, n, a⟩ :: ts)).drop (pre.length + (padOf bs i).length + w) = B ++ u2 := by rw [← List.drop_drop, hd1, ← hTl, List.drop_left]
    refine ⟨⟨k, t, n, pre.length + (padOf bs i).length⟩ :: ts', .step ?_ (by rw [hd1]; exact hnx) ?_, by rw [List.map_cons, g6]; rfl⟩
    · rw [hS2, List.length_append, List.length_append, List.length_append]; omega
    · rw [hd2, hskip, hS]
      have e : pre.length + (padOf bs i).length + w + (sk + (padOf bs (i + 1)).length) = (pre ++ (padOf bs i ++ (T ++ B))).length + (padOf bs (i + 1)).length := by
        simp only [List.length_append, hTl, hBl]; omega
      rw [e]
      exact g5
theorem lexS_build {s : List UInt8} {ts : List Tok} (bs : List UInt8) (h : Chain s (skipL s) ts) (hl : ts.length ≤ 4096) (hb : (build s bs 0 ts).length ≤ 16384) : ∃ ts', lexS (build s bs 0 ts) = (ts', 0, 0) ∧ ts'.map core = ts.map core := by
  obtain ⟨ts', h1, h2⟩ := chain_build bs h 0 []
  have hlen : ts'.length = ts.length := by have := congrArg List.length h2; simpa using this
  have h3 := skip_rest (bs := bs) h 0 (b := false) (fun h => by cases h)
  simp only [skN, Bool.false_eq_true, if_false] at h3
  simp only [List.nil_append, List.length_nil, Nat.zero_add] at h1
  rw [← h3] at h1
  exact ⟨ts', lexS_chain h1 (by omega) hb, h2⟩
end Go.Proofs.Ytodcajpeilgfgaa.Q
