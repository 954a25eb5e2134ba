import Derived.Test.YtmcadfejkcpblaaTa
set_option linter.unusedVariables false
set_option linter.unusedSimpArgs false
namespace Go.Proofs.Ytmcadfejkcpblaa.Q
open Go Go.RowKit Go.Proofs

def flatA (l : List (Int × Int)) : List V := l.flatMap fun a => [i64V a.1, i64V a.2]

theorem flatA_len (l : List (Int × Int)) : (flatA l).length = 2 * l.length := by
  induction l with
  | nil => rfl
  | cons a l ih => simp only [flatA, List.flatMap_cons, List.length_append, List.length_cons, List.length_nil] at ih ⊢; omega

theorem U43 : Try.prog.underlying 43 = some (.slice 48) := by kernel_rfl
theorem C48 : Try.prog.cellsOf 48 = 2 := by kernel_rfl
theorem C3 : Try.prog.cellsOf 3 = 1 := by kernel_rfl
theorem U48 : (Try.prog.underlying 48).map (fun d => match d with | .struct fs => fs.toList.map fun f => (f.offset, f.type) | _ => []) = some [(0, 3), (1, 3)] := by kernel_rfl

theorem len_two {α : Type} : ∀ {l : List α}, l.length = 2 → ∃ f g, l = [f, g]
  | [f, g], _ => ⟨f, g, rfl⟩
  | [], h => by simp at h
  | [_], h => by simp at h
  | _ :: _ :: _ :: _, h => by simp at h

theorem ask_cells {k : Nat} {cs : List V} (h : VT Try.prog k 48 cs) : ∃ a : Int × Int, cs = [i64V a.1, i64V a.2] := by
  cases k with
  | zero => exact h.elim
  | succ k =>
    have hu := U48
    cases hd : Try.prog.underlying 48 with
    | none => rw [hd] at hu; cases hu
    | some d =>
      rw [hd] at hu
      simp only [VT, hd] at h
      cases d with
      | struct fs =>
        simp only [Option.map_some, Option.some.injEq] at hu h
        obtain ⟨h1, h2⟩ := h
        rw [C48] at h1
        match cs, h1 with
        | [x, y], _ =>
          have hl := congrArg List.length hu
          rw [List.length_map] at hl
          obtain ⟨f, g, hfs⟩ := len_two (show fs.toList.length = 2 from hl)
          rw [hfs] at hu
          simp only [List.map_cons, List.map_nil, List.cons.injEq, Prod.mk.injEq, and_true] at hu
          obtain ⟨⟨e1, e2⟩, e3, e4⟩ := hu
          have q1 := h2 f (by rw [hfs]; simp)
          have q2 := h2 g (by rw [hfs]; simp)
          rw [e1, e2, C3] at q1
          rw [e3, e4, C3] at q2
          cases k with
          | zero => exact q1.elim
          | succ k =>
            simp only [VT, T3] at q1 q2
            obtain ⟨n, q1, _⟩ := q1
            obtain ⟨m, q2, _⟩ := q2
            simp at q1 q2
            exact ⟨(n, m), by rw [q1, q2]; rfl⟩
      | _ => simp at hu

theorem asks_of : ∀ (len : Nat) {vs : List V}, vs.length = len * 2 → (∀ i, i < len → ∃ a : Int × Int, (vs.drop (i * 2)).take 2 = [i64V a.1, i64V a.2]) → ∃ l, vs = flatA l ∧ l.length = len
  | 0, vs, h, _ => ⟨[], List.length_eq_zero_iff.1 (by omega), rfl⟩
  | n + 1, vs, h, hc => by
    obtain ⟨a, ha⟩ := hc 0 (by omega)
    obtain ⟨l, hl, hn⟩ := asks_of n (vs := vs.drop 2) (by rw [List.length_drop]; omega) fun i hi => by
      obtain ⟨b, hb⟩ := hc (i + 1) (by omega)
      exact ⟨b, by rw [List.drop_drop, ← hb, show 2 + i * 2 = (i + 1) * 2 from by omega]⟩
    refine ⟨a :: l, ?_, by simp [hn]⟩
    rw [← List.take_append_drop 2 vs, hl]
    rw [Nat.zero_mul, List.drop_zero] at ha
    rw [ha]
    rfl

/-- A script of calls. -/
theorem asks_arg {x : V} (h : ArgT Try.prog 43 x) : ∃ l, (x = .nils ∧ l = [] ∨ x = .slice .ro 2 (flatA l) l.length) ∧ l.length ≤ vbulk x := by
  unfold ArgT at h
  simp only [U43] at h
  obtain ⟨k, h⟩ := h
  cases k with
  | zero => exact h.elim
  | succ k =>
    simp only [VT, U43, C48] at h
    rcases h with h | ⟨vs, len, h, h1, h2, h3⟩
    · injection h with h
      exact ⟨[], .inl ⟨h, rfl⟩, Nat.zero_le _⟩
    · injection h with h
      obtain ⟨l, rfl, hn⟩ := asks_of len h1 fun i hi => ask_cells (h3 i hi)
      subst h hn
      refine ⟨l, .inr rfl, ?_⟩
      have := vbulks_len (flatA l)
      rw [flatA_len] at this
      simp only [vbulk]
      omega

theorem addrA {P : Program} {x : V} {l : List (Int × Int)} (hx : x = .nils ∧ l = [] ∨ x = .slice .ro 2 (flatA l) l.length) {t e : TypeId} (ht : P.underlying t = some (.slice e)) (hs : sizeT P e = some 2) {i : Nat} (hi : i < l.length) : vindexAddr P t x (.int .i64 i) = some (.eptr (flatA l) (i * 2)) := by
  rcases hx with ⟨rfl, rfl⟩ | rfl
  · simp at hi
  · cases l with
    | nil => simp at hi
    | cons a l =>
      have h1 : (i : Int) < ((a :: l).length : Int) := by omega
      simp [vindexAddr, ht, hs, flatA] at h1 ⊢
      omega

theorem loadA {P : Program} {objs : List Ob} {l : List (Int × Int)} {e : TypeId} (ha : isAggT P e = some true) (hs : sizeT P e = some 2) {i : Nat} (hi : i < l.length) : vload P objs e (.eptr (flatA l) (i * 2)) = some (.agg [i64V l[i].1, i64V l[i].2]) := by
  have hl := flatA_len l
  have h2 : i * 2 + 2 ≤ (flatA l).length := by omega
  simp only [vload, vcellsAt, vpart, ha, hs, h2, if_true]
  congr 2
  clear hl h2
  induction l generalizing i with
  | nil => simp at hi
  | cons a l ih =>
    cases i with
    | zero => simp [flatA]
    | succ i =>
      have := ih (i := i) (by simpa using hi)
      simp only [flatA, List.flatMap_cons, List.getElem_cons_succ] at this ⊢
      rw [show (i + 1) * 2 = i * 2 + 2 from by omega, ← this]
      rfl
end Go.Proofs.Ytmcadfejkcpblaa.Q
