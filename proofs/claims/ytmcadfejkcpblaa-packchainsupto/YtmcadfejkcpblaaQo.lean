/- Rows of bytes. -/
import Derived.Test.YtmcadfejkcpblaaQn
set_option linter.unusedVariables false
set_option linter.unusedSimpArgs false
namespace Go.Proofs.Ytmcadfejkcpblaa.Q
open Go Go.RowKit

/-- v is these bytes. -/
def BtsV (v : V) (bs : List UInt8) : Prop := (v = .nils ∧ bs = []) ∨ ∃ p, v = .slice p 1 (bs.map byteV) bs.length

section
variable {P : Program}

theorem BtsV.len {v : V} {bs : List UInt8} (h : BtsV v bs) {t e : TypeId} (ht : P.underlying t = some (.slice e)) : vlen P t v = some (.int .i64 bs.length) := by
  rcases h with ⟨rfl, rfl⟩ | ⟨p, rfl⟩ <;> simp [vlen, ht]

theorem BtsV.addr {v : V} {bs : List UInt8} (h : BtsV v bs) {t e : TypeId} (ht : P.underlying t = some (.slice e)) (hs : sizeT P e = some 1) {k : IntKind} {n : Int} (h0 : 0 ≤ n) (h1 : n < bs.length) : vindexAddr P t v (.int k n) = some (.eptr (bs.map byteV) n.toNat) := by
  rcases h with ⟨rfl, rfl⟩ | ⟨p, rfl⟩
  · simp at h1; omega
  · cases bs with
    | nil => simp at h1; omega
    | cons b bs => simp [vindexAddr, ht, hs, h0] at h1 ⊢; omega

theorem BtsV.load {bs : List UInt8} {e : TypeId} (ha : isAggT P e = some false) {objs : List Ob} {n : Nat} (h : n < bs.length) : vload P objs e (.eptr (bs.map byteV) n) = some (.int .u8 ((bs[n]'h).toNat : Int)) := by
  simp [vload, vcellsAt, vpart, ha, h, byteV]

theorem byteV_of {n : Int} (h : (Lit.int .u8 n).wf = true) : .int .u8 n = byteV (UInt8.ofNat n.toNat) := by
  have h1 : IntKind.u8.min = 0 := by simp [IntKind.min, IntKind.signed, IntKind.bits]
  have h2 : IntKind.u8.max = 255 := by simp [IntKind.max, IntKind.signed, IntKind.bits]
  simp only [Lit.wf, h1, h2, Bool.and_eq_true, decide_eq_true_eq] at h
  simp only [byteV]
  congr 1
  have : (UInt8.ofNat n.toNat).toNat = n.toNat := by
    rw [UInt8.toNat_ofNat']
    omega
  rw [this]
  omega

theorem bytes_of_cells : ∀ {vs : List V}, (∀ i, i < vs.length → ∃ n, (vs.drop i).take 1 = [.int .u8 n] ∧ (Lit.int .u8 n).wf = true) → ∃ bs : List UInt8, vs = bs.map byteV
  | [], _ => ⟨[], rfl⟩
  | v :: vs, h => by
    obtain ⟨n, h0, hw⟩ := h 0 (by simp)
    obtain ⟨bs, hbs⟩ := bytes_of_cells (vs := vs) fun i hi => by simpa using h (i + 1) (by simpa using hi)
    simp at h0
    exact ⟨UInt8.ofNat n.toNat :: bs, by rw [h0, byteV_of hw, hbs]; rfl⟩

theorem vbulks_len : ∀ (vs : List V), vs.length ≤ vbulks vs
  | [] => Nat.zero_le _
  | v :: vs => by
    have := vbulks_len vs
    have h1 : 1 ≤ vbulk v := by cases v <;> simp [vbulk]
    simp only [vbulks, List.length_cons]
    omega

/-- An argument of the type []byte. -/
theorem bytes_arg {t e : TypeId} (ht : P.underlying t = some (.slice e)) (he : P.underlying e = some (.int .u8)) (hc : P.cellsOf e = 1) {x : V} (h : ArgT P t x) : ∃ bs, BtsV x bs ∧ bs.length ≤ vbulk x := by
  unfold ArgT at h
  simp only [ht] at h
  obtain ⟨k, h⟩ := h
  cases k with
  | zero => exact h.elim
  | succ k =>
    simp only [VT, ht, hc, Nat.mul_one] at h
    rcases h with h | ⟨vs, len, h, h1, h2, h3⟩
    · injection h with h
      exact ⟨[], .inl ⟨h, rfl⟩, Nat.zero_le _⟩
    · injection h with h
      obtain ⟨bs, rfl⟩ := bytes_of_cells (vs := vs) fun i hi => by
        have := h3 i (by omega)
        cases k with
        | zero => exact this.elim
        | succ k => simpa [VT, he] using this
      subst h
      simp at h1
      refine ⟨bs, .inr ⟨.ro, by rw [h1]⟩, ?_⟩
      have := vbulks_len (bs.map byteV)
      simp at this
      simp only [vbulk]
      omega

def i64V (x : Int) : V := .int .i64 x
def InI64 (x : Int) : Prop := -9223372036854775808 ≤ x ∧ x ≤ 9223372036854775807
/-- v is these numbers. -/
def IntsV (v : V) (xs : List Int) : Prop := ((v = .nils ∧ xs = []) ∨ ∃ p, v = .slice p 1 (xs.map i64V) xs.length) ∧ ∀ x ∈ xs, InI64 x

theorem InI64_of {n : Int} (h : (Lit.int .i64 n).wf = true) : InI64 n := by
  have h1 : IntKind.i64.min = -9223372036854775808 := by simp [IntKind.min, IntKind.signed, IntKind.bits]
  have h2 : IntKind.i64.max = 9223372036854775807 := by simp [IntKind.max, IntKind.signed, IntKind.bits]
  simpa [Lit.wf, h1, h2, InI64] using h

theorem ints_of_cells : ∀ {vs : List V}, (∀ i, i < vs.length → ∃ n, (vs.drop i).take 1 = [.int .i64 n] ∧ (Lit.int .i64 n).wf = true) → ∃ xs : List Int, vs = xs.map i64V ∧ ∀ x ∈ xs, InI64 x
  | [], _ => ⟨[], rfl, by simp⟩
  | v :: vs, h => by
    obtain ⟨n, h0, hw⟩ := h 0 (by simp)
    obtain ⟨xs, hxs, hI⟩ := ints_of_cells (vs := vs) fun i hi => by simpa using h (i + 1) (by simpa using hi)
    simp at h0
    exact ⟨n :: xs, by rw [h0, hxs]; rfl, by simpa using ⟨InI64_of hw, hI⟩⟩

theorem ints_arg {t e : TypeId} (ht : P.underlying t = some (.slice e)) (he : P.underlying e = some (.int .i64)) (hc : P.cellsOf e = 1) {x : V} (h : ArgT P t x) : ∃ xs, IntsV x xs ∧ xs.length ≤ vbulk x := by
  unfold ArgT at h
  simp only [ht] at h
  obtain ⟨k, h⟩ := h
  cases k with
  | zero => exact h.elim
  | succ k =>
    simp only [VT, ht, hc, Nat.mul_one] at h
    rcases h with h | ⟨vs, len, h, h1, h2, h3⟩
    · injection h with h
      exact ⟨[], ⟨.inl ⟨h, rfl⟩, by simp⟩, Nat.zero_le _⟩
    · injection h with h
      obtain ⟨xs, rfl, hI⟩ := ints_of_cells (vs := vs) fun i hi => by
        have := h3 i (by omega)
        cases k with
        | zero => exact this.elim
        | succ k => simpa [VT, he] using this
      subst h
      simp at h1
      refine ⟨xs, ⟨.inr ⟨.ro, by rw [h1]⟩, hI⟩, ?_⟩
      have := vbulks_len (xs.map i64V)
      simp at this
      simp only [vbulk]
      omega

theorem int_arg {t : TypeId} (ht : P.underlying t = some (.int .i64)) {x : V} (h : ArgT P t x) : ∃ n, x = .int .i64 n ∧ InI64 n := by
  unfold ArgT at h
  simp only [ht] at h
  obtain ⟨k, h⟩ := h
  cases k with
  | zero => exact h.elim
  | succ k =>
    simp only [VT, ht] at h
    obtain ⟨n, h, hw⟩ := h
    injection h with h
    exact ⟨n, h, InI64_of hw⟩
end
end Go.Proofs.Ytmcadfejkcpblaa.Q
