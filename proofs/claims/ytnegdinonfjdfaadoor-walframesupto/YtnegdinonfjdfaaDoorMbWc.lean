/- WalFrames: the tied card: whatever the input of bulk at most 1048576: the law answers true, and the input reads as it did. -/
import Derived.Test.YtnegdinonfjdfaaDoorMb7
/- The waking of journals. -/
set_option linter.unusedVariables false
set_option linter.unusedSimpArgs false
set_option maxRecDepth 100000
namespace Go.Proofs.YtnegdinonfjdfaaDoor.Q
open Go Go.RowKit Go.Proofs
theorem wwakes_run : isTrue (vcall Tryd.prog prims 300 27 [] st0) = true := by kernel_rfl
theorem wwakes_does : ∃ σ, Does Tryd.prog prims 27 [] st0 (.ret (.bool true)) σ := by
  obtain ⟨σ, h⟩ := isTrue_eq wwakes_run
  exact ⟨σ, 300, h⟩
end Go.Proofs.YtnegdinonfjdfaaDoor.Q

/- Frames and records, of the program and of the document. -/
set_option linter.unusedVariables false
set_option linter.unusedSimpArgs false
set_option maxRecDepth 100000
namespace Go.Proofs.YtnegdinonfjdfaaDoor.Q
open Go Go.RowKit Go.Proofs
/-! ### Plainly -/
def frameB (r : List UInt8) : List UInt8 := fourB (BitVec.ofNat 32 r.length) ++ fourB (crcSum r) ++ r
def frameS (r : List UInt8) : List UInt8 × Nat := if 65536 < r.length then ([], 3) else (frameB r, 0)
theorem frameB_len (r : List UInt8) : (frameB r).length = 8 + r.length := by
  unfold frameB
  rw [List.length_append, List.length_append, fourB_len, fourB_len]
/-- The record that stands at this place: how long it is. -/
def recAt (b : List UInt8) (i : Nat) : Option Nat :=
  if b.length < i + 8 then none else
  if 65536 < (w4 b i).toNat ∨ b.length < i + 8 + (w4 b i).toNat then none else
  if crcSum ((b.drop (i + 8)).take (w4 b i).toNat) = w4 b (i + 4) then some (w4 b i).toNat else none
inductive Recs (b : List UInt8) : Nat → List (List UInt8) → Nat → Prop where
  | stop {i : Nat} (h : recAt b i = none) : Recs b i [] i
  | more {i n : Nat} {l : List (List UInt8)} {e : Nat} (h : recAt b i = some n) (r : Recs b (i + 8 + n) l e) : Recs b i ((b.drop (i + 8)).take n :: l) e
theorem recAt_some {b : List UInt8} {i n : Nat} (h : recAt b i = some n) : i + 8 + n ≤ b.length ∧ n ≤ 65536 ∧ n = (w4 b i).toNat ∧ crcSum ((b.drop (i + 8)).take n) = w4 b (i + 4) := by
  unfold recAt at h
  split at h
  · cases h
  split at h
  · cases h
  split at h
  · injection h with h
    subst h
    exact ⟨by omega, by omega, rfl, by assumption⟩
  · cases h
theorem recs_some (b : List UInt8) : ∀ k i, b.length - i ≤ k → ∃ l e, Recs b i l e := by
  intro k
  induction k with
  | zero =>
    intro i hi
    refine ⟨[], i, .stop ?_⟩
    unfold recAt
    rw [if_pos (by omega)]
  | succ k ih =>
    intro i hi
    cases h : recAt b i with
    | none => exact ⟨[], i, .stop h⟩
    | some n =>
      have := (recAt_some h).1
      obtain ⟨l, e, hr⟩ := ih (i + 8 + n) (by omega)
      exact ⟨_, e, .more h hr⟩
/-! ### Frame -/
theorem build8 (a b c d e f g h : UInt8) : vbuildSlice Tryd.prog 22 8 [(0, byteV a), (1, byteV b), (2, byteV c), (3, byteV d), (4, byteV e), (5, byteV f), (6, byteV g), (7, byteV h)] = some (.slice .exact 1 ([a, b, c, d, e, f, g, h].map byteV) 8) := by
  have r : List.range 8 = [0, 1, 2, 3, 4, 5, 6, 7] := by decide
  simp [vbuildSlice, T22, S5, BT.z, vcells, vfill, zeroCellsV, setAll, byteV, r]
theorem wfour_does {σ : St} (r : BitVec 32) : Does Tryd.prog prims 53 [.int .u32 ((r.toNat : Nat) : Int)] σ (.ret (.slice .exact 1 ((fourB r).map byteV) 4)) σ := by
  apply k53_is.ret (by simp)
  simp only [k53_a, WK, vop, evAll, evOpt, evParts, vbuiltin, vun, vextract, Nat.reduceLT, Nat.reduceEqDiff, ↓reduceIte, reduceCtorEq, Nat.reduceAdd, Int.reduceLT, Int.reduceNeg, valloc_std, noSB, vhot, List.getD_cons_zero, nilEP, conv8, shr8, shr16, shr24, build4]
  rfl
theorem frame_sees {σ : St} {x : V} {r : List UInt8} (hb : BtsV x r) (hl : r.length ≤ 100000000) :
    ∃ q σ', Does Tryd.prog prims 28 [x] σ q σ' ∧ ∃ v, q = .ret (.tuple [v, .int .i64 ((frameS r).2 : Nat)]) ∧ BtsV v (frameS r).1 ∧ Keep σ σ' := by
  apply k28_is.does (by simp)
  have hlen := hb.len T22
  by_cases hbig : 65536 < r.length
  · have hbig' : (65536 : Int) < ((r.length : Nat) : Int) := by omega
    have e : frameS r = ([], 3) := by unfold frameS; rw [if_pos hbig]
    simp only [k28_a, WK, vop, evAll, evOpt, evParts, vbuiltin, vun, vextract, Nat.reduceLT, Nat.reduceEqDiff, ↓reduceIte, reduceCtorEq, Nat.reduceAdd, Int.reduceLT, Int.reduceNeg, valloc_std, noSB, vhot, List.getD_cons_zero, List.getD_cons_succ, nilEP, hlen, hbig', decide_true, e]
    exact ⟨.nils, rfl, .inl ⟨rfl, rfl⟩, Keep.refl _⟩
  have hbig' : ¬ (65536 : Int) < ((r.length : Nat) : Int) := by omega
  have e : frameS r = (frameB r, 0) := by unfold frameS; rw [if_neg hbig]
  obtain ⟨B, hB⟩ : ∃ B, B = BitVec.ofNat 32 r.length := ⟨_, rfl⟩
  have hB' : BitVec.ofInt 32 ((r.length : Nat) : Int) = B := by rw [hB]; simp
  have c2 := conv32 ((r.length : Nat) : Int)
  rw [hB'] at c2
  obtain ⟨C, hC⟩ : ∃ C, C = crcSum r := ⟨_, rfl⟩
  have hs := crcsum_does (σ := σ) hb (by omega)
  rw [← hC] at hs
  have hbl := build8 (UInt8.ofNat B.toNat) (UInt8.ofNat (B >>> 8).toNat) (UInt8.ofNat (B >>> 16).toNat) (UInt8.ofNat (B >>> 24).toNat) (UInt8.ofNat C.toNat) (UInt8.ofNat (C >>> 8).toNat) (UInt8.ofNat (C >>> 16).toNat) (UInt8.ofNat (C >>> 24).toNat)
  rw [show [UInt8.ofNat B.toNat, UInt8.ofNat (B >>> 8).toNat, UInt8.ofNat (B >>> 16).toNat, UInt8.ofNat (B >>> 24).toNat, UInt8.ofNat C.toNat, UInt8.ofNat (C >>> 8).toNat, UInt8.ofNat (C >>> 16).toNat, UInt8.ofNat (C >>> 24).toNat] = fourB B ++ fourB C from rfl] at hbl
  obtain ⟨v1, s1, a1, a2, a3, a4⟩ := OwnV.append' (P := Tryd.prog) (t := 22) (t2 := 22) BT (σ := σ) (show OwnV 5 σ.toks.length σ (.slice .exact 1 ((fourB B ++ fourB C).map byteV) 8) (fourB B ++ fourB C) from .inr ⟨.exact, rfl, .inl rfl⟩) (σ0 := σ) rfl (Keep.refl σ) T22 hb (by rw [List.length_append, fourB_len, fourB_len]; omega)
  simp only [k28_a, WK, vop, evAll, evOpt, evParts, vbuiltin, vun, vextract, Nat.reduceLT, Nat.reduceEqDiff, ↓reduceIte, reduceCtorEq, Nat.reduceAdd, Int.reduceLT, Int.reduceNeg, valloc_std, noSB, vhot, List.getD_cons_zero, List.getD_cons_succ, nilEP, hlen, hbig', decide_false, c2]
  refine KD.ret hs ?_
  simp only [k28_a, WK, vop, evAll, evOpt, evParts, vbuiltin, vun, vextract, Nat.reduceLT, Nat.reduceEqDiff, ↓reduceIte, reduceCtorEq, Nat.reduceAdd, Int.reduceLT, Int.reduceNeg, valloc_std, noSB, vhot, List.getD_cons_zero, List.getD_cons_succ, uV, conv8, shr8, shr16, shr24, hbl, a1, e]
  refine ⟨v1, rfl, ?_, a3⟩
  have : frameB r = fourB B ++ fourB C ++ r := by rw [hB, hC]; rfl
  rw [this]
  exact a2.bts
theorem rframe_sees {σ : St} {x : V} {r : List UInt8} (hb : BtsV x r) (hl : r.length ≤ 100000000) :
    ∃ q σ', Does Tryd.prog prims 29 [x] σ q σ' ∧ ∃ v, q = .ret (.tuple [v, .int .i64 ((frameS r).2 : Nat)]) ∧ BtsV v (frameS r).1 ∧ Keep σ σ' := by
  apply k29_is.does (by simp)
  have hlen := hb.len T22
  by_cases hbig : 65536 < r.length
  · have hbig' : (65536 : Int) < ((r.length : Nat) : Int) := by omega
    have e : frameS r = ([], 3) := by unfold frameS; rw [if_pos hbig]
    simp only [k29_a, WK, vop, evAll, evOpt, evParts, vbuiltin, vun, vextract, Nat.reduceLT, Nat.reduceEqDiff, ↓reduceIte, reduceCtorEq, Nat.reduceAdd, Int.reduceLT, Int.reduceNeg, valloc_std, noSB, vhot, List.getD_cons_zero, List.getD_cons_succ, nilEP, hlen, hbig', decide_true, e]
    exact ⟨.nils, rfl, .inl ⟨rfl, rfl⟩, Keep.refl _⟩
  have hbig' : ¬ (65536 : Int) < ((r.length : Nat) : Int) := by omega
  have e : frameS r = (frameB r, 0) := by unfold frameS; rw [if_neg hbig]
  obtain ⟨B, hB⟩ : ∃ B, B = BitVec.ofNat 32 r.length := ⟨_, rfl⟩
  have hB' : BitVec.ofInt 32 ((r.length : Nat) : Int) = B := by rw [hB]; simp
  have c2 := conv32 ((r.length : Nat) : Int)
  rw [hB'] at c2
  obtain ⟨C, hC⟩ : ∃ C, C = crcSum r := ⟨_, rfl⟩
  have hs := rsum_does (σ := σ) hb (by omega)
  rw [← hC] at hs
  obtain ⟨v1, s1, a1, a2, a3, a4⟩ := OwnV.append' (P := Tryd.prog) (t := 22) (t2 := 22) BT (four_own (σ := σ) (m := σ.toks.length) B) (σ0 := σ) rfl (Keep.refl σ) T22 (four_bts C) (by rw [fourB_len, fourB_len]; omega)
  obtain ⟨v2, s2, b1, b2, b3, b4⟩ := a2.append' BT (σ0 := σ) rfl a3 T22 hb (by rw [List.length_append, fourB_len, fourB_len]; omega)
  simp only [k29_a, WK, vop, evAll, evOpt, evParts, vbuiltin, vun, vextract, Nat.reduceLT, Nat.reduceEqDiff, ↓reduceIte, reduceCtorEq, Nat.reduceAdd, Int.reduceLT, Int.reduceNeg, valloc_std, noSB, vhot, List.getD_cons_zero, List.getD_cons_succ, nilEP, hlen, hbig', decide_false, c2]
  refine KD.ret (wfour_does B) ?_
  simp only [k29_a, WK, vop, evAll, evOpt, evParts, vbuiltin, vun, vextract, Nat.reduceLT, Nat.reduceEqDiff, ↓reduceIte, reduceCtorEq, Nat.reduceAdd, Int.reduceLT, Int.reduceNeg, valloc_std, noSB, vhot, List.getD_cons_zero, List.getD_cons_succ]
  refine KD.ret hs ?_
  simp only [k29_a, WK, vop, evAll, evOpt, evParts, vbuiltin, vun, vextract, Nat.reduceLT, Nat.reduceEqDiff, ↓reduceIte, reduceCtorEq, Nat.reduceAdd, Int.reduceLT, Int.reduceNeg, valloc_std, noSB, vhot, List.getD_cons_zero, List.getD_cons_succ, uV]
  refine KD.ret (wfour_does C) ?_
  simp only [k29_a, WK, vop, evAll, evOpt, evParts, vbuiltin, vun, vextract, Nat.reduceLT, Nat.reduceEqDiff, ↓reduceIte, reduceCtorEq, Nat.reduceAdd, Int.reduceLT, Int.reduceNeg, valloc_std, noSB, vhot, List.getD_cons_zero, List.getD_cons_succ, a1, b1, e]
  refine ⟨v2, rfl, ?_, b3⟩
  have : frameB r = fourB B ++ fourB C ++ r := by rw [hB, hC]; rfl
  rw [this]
  exact b2.bts
/-! ### Numbers of 64 bits, put together out of bytes -/
theorem or64 (a y k : Nat) (ha : a < 2 ^ k) (hk : k ≤ 24) (hy : y < 256) : bitOp .or .i64 ((a : Nat) : Int) ((y * 2 ^ k : Nat) : Int) = some (((a + y * 2 ^ k : Nat)) : Int) := by
  have h2 : 2 ^ k ≤ 2 ^ 24 := Nat.pow_le_pow_right (by decide) hk
  have h3 : y * 2 ^ k ≤ 255 * 2 ^ 24 := Nat.mul_le_mul (by omega) h2
  have e24 : (2 : Nat) ^ 24 = 16777216 := by decide
  have ea : BitVec.ofInt 64 ((a : Nat) : Int) = BitVec.ofNat 64 a := by simp
  have ey : BitVec.ofInt 64 ((y * 2 ^ k : Nat) : Int) = BitVec.ofNat 64 (y * 2 ^ k) := by rw [BitVec.ofInt_natCast]
  have hor : (BitVec.ofNat 64 a ||| BitVec.ofNat 64 (y * 2 ^ k)).toNat = a + y * 2 ^ k := by
    have m1 : a % 2 ^ 64 = a := Nat.mod_eq_of_lt (by omega)
    have m2 : y * 2 ^ k % 2 ^ 64 = y * 2 ^ k := Nat.mod_eq_of_lt (by omega)
    rw [BitVec.toNat_or, BitVec.toNat_ofNat, BitVec.toNat_ofNat, m1, m2, Nat.or_comm, ← Nat.shiftLeft_eq, ← Nat.shiftLeft_add_eq_or_of_lt ha, Nat.shiftLeft_eq, Nat.add_comm]
  show some (IntKind.i64.wrap (((BitVec.ofInt 64 ((a : Nat) : Int) ||| BitVec.ofInt 64 ((y * 2 ^ k : Nat) : Int)).toNat : Nat) : Int)) = _
  rw [ea, ey, hor, wrap_i64 (by omega) (by omega)]
theorem size64 (p q r t : UInt8) : IntKind.i64.wrap (((q.toNat : Nat) : Int) * (2 : Int) ^ (min (8 : Int).toNat IntKind.i64.bits)) = ((q.toNat * 2 ^ 8 : Nat) : Int) ∧ IntKind.i64.wrap (((r.toNat : Nat) : Int) * (2 : Int) ^ (min (16 : Int).toNat IntKind.i64.bits)) = ((r.toNat * 2 ^ 16 : Nat) : Int) ∧ IntKind.i64.wrap (((t.toNat : Nat) : Int) * (2 : Int) ^ (min (24 : Int).toNat IntKind.i64.bits)) = ((t.toNat * 2 ^ 24 : Nat) : Int) ∧
    bitOp .or .i64 ((p.toNat : Nat) : Int) ((q.toNat * 2 ^ 8 : Nat) : Int) = some ((p.toNat + q.toNat * 2 ^ 8 : Nat) : Int) ∧ bitOp .or .i64 ((p.toNat + q.toNat * 2 ^ 8 : Nat) : Int) ((r.toNat * 2 ^ 16 : Nat) : Int) = some ((p.toNat + q.toNat * 2 ^ 8 + r.toNat * 2 ^ 16 : Nat) : Int) ∧
    bitOp .or .i64 ((p.toNat + q.toNat * 2 ^ 8 + r.toNat * 2 ^ 16 : Nat) : Int) ((t.toNat * 2 ^ 24 : Nat) : Int) = some ((p.toNat + q.toNat * 2 ^ 8 + r.toNat * 2 ^ 16 + t.toNat * 2 ^ 24 : Nat) : Int) := by
  have h0 := p.toNat_lt
  have h1 := q.toNat_lt
  have h2 := r.toNat_lt
  have h3 := t.toNat_lt
  have m8 : (2 : Int) ^ (min (8 : Int).toNat IntKind.i64.bits) = 256 := by decide
  have m16 : (2 : Int) ^ (min (16 : Int).toNat IntKind.i64.bits) = 65536 := by decide
  have m24 : (2 : Int) ^ (min (24 : Int).toNat IntKind.i64.bits) = 16777216 := by decide
  refine ⟨?_, ?_, ?_, or64 _ _ 8 (by omega) (by omega) (by omega), or64 _ _ 16 (by omega) (by omega) (by omega), or64 _ _ 24 (by omega) (by omega) (by omega)⟩
  · rw [m8, wrap_i64 (by omega) (by omega)]; omega
  · rw [m16, wrap_i64 (by omega) (by omega)]; omega
  · rw [m24, wrap_i64 (by omega) (by omega)]; omega
theorem w4_pow (b : List UInt8) (i : Nat) : (w4 b i).toNat = (b.getD i 0).toNat + (b.getD (i + 1) 0).toNat * 2 ^ 8 + (b.getD (i + 2) 0).toNat * 2 ^ 16 + (b.getD (i + 3) 0).toNat * 2 ^ 24 := w4_nat b i
theorem getD_drop {b : List UInt8} (i j : Nat) : (b.drop i).getD j 0 = b.getD (i + j) 0 := by
  rw [List.getD_eq_getElem?_getD, List.getD_eq_getElem?_getD, List.getElem?_drop]
end Go.Proofs.YtnegdinonfjdfaaDoor.Q

/- Records, of the program and of the document. -/
set_option linter.unusedVariables false
set_option linter.unusedSimpArgs false
set_option maxRecDepth 100000
namespace Go.Proofs.YtnegdinonfjdfaaDoor.Q
open Go Go.RowKit Go.Proofs
theorem BBR : RowT Tryd.prog 37 22 1 24 := ⟨TBB, SBs, ⟨_, (by kernel_rfl : zeroT Tryd.prog 22 = some .nils), rfl⟩, by kernel_rfl, by omega⟩
theorem mkRows1 (a : V) (h1 : one a = true) : vbuildSlice Tryd.prog 37 1 [(0, a)] = some (.slice .exact 1 [a] 1) := by
  have hz : zeroT Tryd.prog 22 = some .nils := by kernel_rfl
  have e : List.range 1 = [0] := by decide
  have hn : vcells V.nils = [V.nils] := rfl
  simp [vbuildSlice, TBB, SBB, hz, hn, zeroCellsV, vfill, setAll, e, vcells_one h1, h1]
/-- A row of rows of bytes of one's own. -/
structure OwnB (m : Nat) (s : St) (w : V) (ps : List BV) : Prop where
  o : OwnR 22 1 m s w (ps.map Prod.fst) ps.length
  b : ∀ p ∈ ps, BtsV p.1 p.2
theorem OwnB.nil {m : Nat} {s : St} : OwnB m s .nils [] := ⟨OwnR.nil, fun p hp => by cases hp⟩
theorem OwnB.app {m : Nat} {s0 s : St} {w v : V} {ps : List BV} {bs : List UInt8} (h : OwnB m s w ps) (hm : m = s0.toks.length) (hk : Keep s0 s) (hv : BtsV v bs) (hl : ps.length ≤ 1000000000) :
    ∃ w' s', vappend Tryd.prog s 37 37 w (.slice .exact 1 [v] 1) = some (w', s') ∧ OwnB m s' w' (ps ++ [(v, bs)]) ∧ Keep s0 s' ∧ s'.objs = s.objs := by
  obtain ⟨w', s', a1, a2, a3, a4⟩ := h.o.appendO BBR (σ0 := s0) hm hk (t2 := 37) (y := .slice .exact 1 [v] 1) (ys := [v]) (l := 1) (by simp [vnewsO, vnews, TBB]) rfl (by simp [hv.one]) (by omega) (by omega)
  refine ⟨w', s', a1, ⟨by simpa using a2, fun p hp => ?_⟩, a3, a4⟩
  rcases List.mem_append.1 hp with hp | hp
  · exact h.b p hp
  · rw [List.mem_singleton] at hp; subst hp; exact hv
theorem OwnB.keep {m : Nat} {s s' : St} {w : V} {ps : List BV} (h : OwnB m s w ps) (hk : ∀ k, tokLive s.toks k = true → tokLive s'.toks k = true) : OwnB m s' w ps := ⟨h.o.keep hk, h.b⟩
theorem OwnB.pts {m : Nat} {s : St} {w : V} {ps : List BV} (h : OwnB m s w ps) : PtsV w ps := h.o.row
theorem hdr_get {b : List UInt8} {i j : Nat} (hj : j < 8) (h : i + 8 ≤ b.length) : ((b.drop i).take 8).getD j 0 = b.getD (i + j) 0 := by
  rw [List.getD_eq_getElem?_getD, List.getElem?_take_of_lt hj, List.getElem?_drop, ← List.getD_eq_getElem?_getD]
theorem records_sees {σ : St} {x : V} {b : List UInt8} {l : List (List UInt8)} {en : Nat} (hb : BtsV x b) (hl : b.length ≤ 100000000) (hR : Recs b 0 l en) :
    ∃ q σ', Does Tryd.prog prims 30 [x] σ q σ' ∧ ∃ w ps, q = .ret (.tuple [w, .int .i64 (en : Nat)]) ∧ OwnB σ.toks.length σ' w ps ∧ ps.map Prod.snd = l ∧ Keep σ σ' := by
  apply k30_is.does (by simp)
  have hlen := hb.len T22
  simp only [k30_a, WK, vop, evAll, evOpt, evParts, vbuiltin, vun, vextract, Nat.reduceLT, Nat.reduceEqDiff, ↓reduceIte, reduceCtorEq, Nat.reduceAdd, Int.reduceLT, Int.reduceNeg, valloc_std, noSB, vhot, List.getD_cons_zero, List.getD_cons_succ, nilEP]
  refine Ev.loopF (fun (i : Nat) e s => e 5 = .int .i64 (i : Nat) ∧ i ≤ b.length ∧ ∃ ps rest, OwnB σ.toks.length s (e 4) ps ∧ Recs b i rest en ∧ l = ps.map Prod.snd ++ rest ∧ ps.length ≤ i ∧ Keep σ s) (fun i => b.length - i) 0 ?_ ?_
  · exact ⟨by simp [upd_some], Nat.zero_le _, [], l, by simpa [upd_some] using OwnB.nil, hR, rfl, Nat.le_refl _, Keep.refl _⟩
  rintro i e s ⟨h5, hi, ps, rest, hO, hr, hll, hpl, hk⟩ hf
  have g0 : e 0 = x := (hf 0 (by decide)).trans (by simp [upd_some])
  clear hf
  have w1 : IntKind.i64.wrap (((b.length : Nat) : Int) - (i : Nat)) = ((b.length - i : Nat) : Int) := by rw [wrap_i64 (by omega) (by omega)]; omega
  by_cases h8 : b.length < i + 8
  · have h8' : ¬ (8 : Int) ≤ ((b.length - i : Nat) : Int) := by omega
    have hn : recAt b i = none := by unfold recAt; rw [if_pos h8]
    cases hr with
    | more h _ => rw [hn] at h; cases h
    | stop h =>
      simp only [k30_a, WK, vop, evAll, evOpt, evParts, vbuiltin, vun, vextract, Nat.reduceLT, Nat.reduceEqDiff, ↓reduceIte, reduceCtorEq, Nat.reduceAdd, Int.reduceLT, Int.reduceNeg, valloc_std, noSB, vhot, g0, h5, hlen, w1, h8', decide_false]
      exact ⟨_, ps, rfl, hO, by rw [hll, List.append_nil], hk⟩
  have h8' : (8 : Int) ≤ ((b.length - i : Nat) : Int) := by omega
  have w2 : IntKind.i64.wrap ((i : Int) + 8) = ((i + 8 : Nat) : Int) := by rw [wrap_i64 (by omega) (by omega)]; omega
  obtain ⟨vh, hh, bh⟩ := hb.slice (t := 22) T22 S5 (vbounds_lohi (k := .i64) (k' := .i64) (n := (i : Int)) (m := ((i + 8 : Nat) : Int)) (len := b.length) (by omega) (by omega) (by omega)) (by omega) (by omega)
  rw [Int.toNat_natCast, Int.toNat_natCast, show i + 8 - i = 8 from by omega] at bh
  have hhl : ((b.drop i).take 8).length = 8 := by rw [List.length_take, List.length_drop]; omega
  obtain ⟨m1, m2, m3, o1, o2, o3⟩ := size64 (b.getD i 0) (b.getD (i + 1) 0) (b.getD (i + 2) 0) (b.getD (i + 3) 0)
  have hw := w4_pow b i
  rw [← hw] at o3
  clear hw
  generalize hS : (w4 b i).toNat = S at o3
  have t0 : vindexAddr Tryd.prog 22 vh (.int .i64 0) = some (.eptr (((b.drop i).take 8).map byteV) 0) := bh.at' (i := 0) (by omega)
  have t1 : vindexAddr Tryd.prog 22 vh (.int .i64 1) = some (.eptr (((b.drop i).take 8).map byteV) 1) := bh.at' (i := 1) (by omega)
  have t2 : vindexAddr Tryd.prog 22 vh (.int .i64 2) = some (.eptr (((b.drop i).take 8).map byteV) 2) := bh.at' (i := 2) (by omega)
  have t3 : vindexAddr Tryd.prog 22 vh (.int .i64 3) = some (.eptr (((b.drop i).take 8).map byteV) 3) := bh.at' (i := 3) (by omega)
  have t4 : vindexAddr Tryd.prog 22 vh (.int .i64 4) = some (.eptr (((b.drop i).take 8).map byteV) 4) := bh.at' (i := 4) (by omega)
  have t5 : vindexAddr Tryd.prog 22 vh (.int .i64 5) = some (.eptr (((b.drop i).take 8).map byteV) 5) := bh.at' (i := 5) (by omega)
  have t6 : vindexAddr Tryd.prog 22 vh (.int .i64 6) = some (.eptr (((b.drop i).take 8).map byteV) 6) := bh.at' (i := 6) (by omega)
  have t7 : vindexAddr Tryd.prog 22 vh (.int .i64 7) = some (.eptr (((b.drop i).take 8).map byteV) 7) := bh.at' (i := 7) (by omega)
  have ld : ∀ (objs : List Ob) (j : Nat) (hj : j < 8), vload Tryd.prog objs 5 (.eptr (((b.drop i).take 8).map byteV) j) = some (.int .u8 ((b.getD (i + j) 0).toNat : Nat)) := fun objs j hj => by
    rw [byte_ld (by omega), hdr_get hj (by omega)]
  have l0 := fun objs => ld objs 0 (by omega)
  rw [Nat.add_zero] at l0
  have l1 := fun objs => ld objs 1 (by omega)
  have l2 := fun objs => ld objs 2 (by omega)
  have l3 := fun objs => ld objs 3 (by omega)
  have l4 := fun objs => ld objs 4 (by omega)
  have l5 := fun objs => ld objs 5 (by omega)
  have l6 := fun objs => ld objs 6 (by omega)
  have l7 := fun objs => ld objs 7 (by omega)
  simp only [k30_a, WK, vop, evAll, evOpt, evParts, vbuiltin, vun, vextract, Nat.reduceLT, Nat.reduceEqDiff, ↓reduceIte, reduceCtorEq, Nat.reduceAdd, Int.reduceLT, Int.reduceNeg, valloc_std, noSB, vhot, g0, h5, hlen, w1, h8', decide_true, w2, T22, hh, t0, t1, t2, t3, l0, l1, l2, l3, conv83, m1, m2, m3, o1, o2, o3]
  clear m1 m2 m3 o1 o2 o3 l0 l1 l2 l3 t0 t1 t2 t3
  by_cases hbig : 65536 < S
  · have hbig' : (65536 : Int) < (S : Nat) := Int.ofNat_lt.2 hbig
    have hn : recAt b i = none := by unfold recAt; rw [if_neg h8, hS, if_pos (.inl hbig)]
    cases hr with
    | more h _ => rw [hn] at h; cases h
    | stop h =>
      simp only [k30_a, WK, vop, evAll, evOpt, evParts, vbuiltin, vun, vextract, Nat.reduceLT, Nat.reduceEqDiff, ↓reduceIte, reduceCtorEq, Nat.reduceAdd, Int.reduceLT, Int.reduceNeg, valloc_std, noSB, vhot, g0, h5, hbig', decide_true]
      exact ⟨_, ps, rfl, hO, by rw [hll, List.append_nil], hk⟩
  have hbig' : ¬ (65536 : Int) < (S : Nat) := fun h => hbig (Int.ofNat_lt.1 h)
  have w3 : IntKind.i64.wrap (((b.length - i : Nat) : Int) - 8) = ((b.length - i - 8 : Nat) : Int) := by rw [wrap_i64 (by omega) (by omega)]; omega
  by_cases hlong : b.length < i + 8 + S
  · have hlong' : ((b.length - i - 8 : Nat) : Int) < (S : Nat) := by omega
    have hn : recAt b i = none := by unfold recAt; rw [if_neg h8, hS, if_pos (.inr hlong)]
    cases hr with
    | more h _ => rw [hn] at h; cases h
    | stop h =>
      simp only [k30_a, WK, vop, evAll, evOpt, evParts, vbuiltin, vun, vextract, Nat.reduceLT, Nat.reduceEqDiff, ↓reduceIte, reduceCtorEq, Nat.reduceAdd, Int.reduceLT, Int.reduceNeg, valloc_std, noSB, vhot, g0, h5, hlen, w1, w3, hbig', hlong', decide_true, decide_false]
      exact ⟨_, ps, rfl, hO, by rw [hll, List.append_nil], hk⟩
  have hlong' : ¬ ((b.length - i - 8 : Nat) : Int) < (S : Nat) := by omega
  have w4' : IntKind.i64.wrap (((i + 8 : Nat) : Int) + (S : Nat)) = ((i + 8 + S : Nat) : Int) := by rw [wrap_i64 (by omega) (by omega)]; omega
  obtain ⟨vr, hvr, br⟩ := hb.slice (t := 22) T22 S5 (vbounds_lohi (k := .i64) (k' := .i64) (n := ((i + 8 : Nat) : Int)) (m := ((i + 8 + S : Nat) : Int)) (len := b.length) (by omega) (by omega) (by omega)) (by omega) (by omega)
  rw [Int.toNat_natCast, Int.toNat_natCast, show i + 8 + S - (i + 8) = S from by omega] at br
  have hrl : ((b.drop (i + 8)).take S).length = S := by rw [List.length_take, List.length_drop]; omega
  have hs := crcsum_does (σ := s) br (by omega)
  simp only [k30_a, WK, vop, evAll, evOpt, evParts, vbuiltin, vun, vextract, Nat.reduceLT, Nat.reduceEqDiff, ↓reduceIte, reduceCtorEq, Nat.reduceAdd, Int.reduceLT, Int.reduceNeg, valloc_std, noSB, vhot, g0, h5, hlen, w1, w2, w3, w4', hbig', hlong', decide_false, T22, hvr]
  refine KD.ret hs ?_
  have hwe : BitVec.ofNat 32 (b.getD (i + 4) 0).toNat ||| BitVec.ofNat 32 (b.getD (i + 5) 0).toNat <<< 8 ||| BitVec.ofNat 32 (b.getD (i + 6) 0).toNat <<< 16 ||| BitVec.ofNat 32 (b.getD (i + 7) 0).toNat <<< 24 = w4 b (i + 4) := rfl
  by_cases hc : crcSum ((b.drop (i + 8)).take S) = w4 b (i + 4)
  · have hn : recAt b i = some S := by unfold recAt; rw [if_neg h8, hS, if_neg (by omega), if_pos hc]
    have hc' : (((crcSum ((b.drop (i + 8)).take S)).toNat : Nat) : Int) = (((w4 b (i + 4)).toNat : Nat) : Int) := by rw [hc]
    cases hr with
    | stop h => rw [hn] at h; cases h
    | more h hr' =>
      rw [hn] at h
      injection h with h
      subst h
      rename_i rest'
      obtain ⟨v5, s5, a1, a2, a3, a4⟩ := OwnV.append' (P := Tryd.prog) (t := 22) (t2 := 22) BT (σ := s) (show OwnV 5 s.toks.length s (.slice .exact 1 [] 0) [] from .inr ⟨.exact, rfl, .inl rfl⟩) (σ0 := s) rfl (Keep.refl s) T22 br (by simp; omega)
      rw [List.nil_append] at a2
      obtain ⟨v6, s6, b1, b2, b3, b4⟩ := (hO.keep a3.2.2).app (s0 := σ) rfl (hk.trans a3) a2.bts (by omega)
      have w5 : IntKind.i64.wrap (8 + ((S : Nat) : Int)) = ((8 + S : Nat) : Int) := by rw [wrap_i64 (by omega) (by omega)]; omega
      have w6 : IntKind.i64.wrap (((i : Nat) : Int) + ((8 + S : Nat) : Int)) = ((i + 8 + S : Nat) : Int) := by rw [wrap_i64 (by omega) (by omega)]; omega
      simp only [k30_a, WK, vop, evAll, evOpt, evParts, vbuiltin, vun, vextract, Nat.reduceLT, Nat.reduceEqDiff, ↓reduceIte, reduceCtorEq, Nat.reduceAdd, Int.reduceLT, Int.reduceNeg, valloc_std, noSB, vhot, uV, t4, t5, t6, t7, l4, l5, l6, l7, conv832, shl8, shl16, shl24, bit_or, hwe, hc', eq_self, decide_true, Bool.not_true, build0 BT, a1, mkRows1 v5 a2.bts.one, b1, h5, w5, w6]
      refine ⟨i + 8 + S, ⟨by simp [upd_some], by omega, _, rest', by simpa [upd_some] using b2, hr', ?_, by simp; omega, b3⟩, by omega⟩
      rw [hll]
      simp
  · have hn : recAt b i = none := by unfold recAt; rw [if_neg h8, hS, if_neg (by omega), if_neg hc]
    have hc' : ¬ (((crcSum ((b.drop (i + 8)).take S)).toNat : Nat) : Int) = (((w4 b (i + 4)).toNat : Nat) : Int) := fun h => hc ((toNat_eq _ _).1 h)
    cases hr with
    | more h _ => rw [hn] at h; cases h
    | stop h =>
      simp only [k30_a, WK, vop, evAll, evOpt, evParts, vbuiltin, vun, vextract, Nat.reduceLT, Nat.reduceEqDiff, ↓reduceIte, reduceCtorEq, Nat.reduceAdd, Int.reduceLT, Int.reduceNeg, valloc_std, noSB, vhot, uV, t4, t5, t6, t7, l4, l5, l6, l7, conv832, shl8, shl16, shl24, bit_or, hwe, hc', decide_false, Bool.not_false, h5]
      exact ⟨_, ps, rfl, hO, by rw [hll, List.append_nil], hk⟩
end Go.Proofs.YtnegdinonfjdfaaDoor.Q

/- Records of the document; WalFrames. -/
set_option linter.unusedVariables false
set_option linter.unusedSimpArgs false
set_option maxRecDepth 100000
namespace Go.Proofs.YtnegdinonfjdfaaDoor.Q
open Go Go.RowKit Go.Proofs
theorem take_parts {b : List UInt8} {i n : Nat} (h : i + 8 + n ≤ b.length) : (b.drop i).take (8 + n) = fourB (w4 b i) ++ fourB (w4 b (i + 4)) ++ (b.drop (i + 8)).take n := by
  rw [four_at (by omega), four_at (by omega)]
  have h1 : (b.drop i).take (8 + n) = (b.drop i).take 8 ++ ((b.drop i).drop 8).take n := List.take_add (i := 8) (j := n)
  have h2 : (b.drop i).take 8 = (b.drop i).take 4 ++ ((b.drop i).drop 4).take 4 := List.take_add (i := 4) (j := 4)
  rw [h1, h2, List.drop_drop, List.drop_drop]
theorem frame_eq {b : List UInt8} {i n : Nat} (h : i + 8 + n ≤ b.length) (hn : (w4 b i).toNat = n) : frameB ((b.drop (i + 8)).take n) = (b.drop i).take (8 + n) ↔ crcSum ((b.drop (i + 8)).take n) = w4 b (i + 4) := by
  have hl : ((b.drop (i + 8)).take n).length = n := by rw [List.length_take, List.length_drop]; omega
  have hw : BitVec.ofNat 32 n = w4 b i := by
    apply BitVec.eq_of_toNat_eq
    have := (w4 b i).isLt
    rw [BitVec.toNat_ofNat, Nat.mod_eq_of_lt (by omega), hn]
  rw [take_parts h]
  unfold frameB
  rw [hl, hw]
  constructor
  · intro he
    have h2 := congrArg (fun l => (l.drop 4).take 4) he
    simp only [List.append_assoc] at h2
    rw [List.drop_left' (fourB_len _), List.drop_left' (fourB_len _), List.take_left' (fourB_len _), List.take_left' (fourB_len _)] at h2
    exact fourB_inj h2
  · intro he
    rw [he]
theorem rrecords_sees {σ : St} {x : V} {b : List UInt8} {l : List (List UInt8)} {en : Nat} (hb : BtsV x b) (hl : b.length ≤ 100000000) (hR : Recs b 0 l en) :
    ∃ q σ', Does Tryd.prog prims 31 [x] σ q σ' ∧ ∃ w ps, q = .ret (.tuple [w, .int .i64 (en : Nat)]) ∧ OwnB σ.toks.length σ' w ps ∧ ps.map Prod.snd = l ∧ Keep σ σ' := by
  apply k31_is.does (by simp)
  simp only [k31_a, WK, vop, evAll, evOpt, evParts, vbuiltin, vun, vextract, Nat.reduceLT, Nat.reduceEqDiff, ↓reduceIte, reduceCtorEq, Nat.reduceAdd, Int.reduceLT, Int.reduceNeg, valloc_std, noSB, vhot, List.getD_cons_zero, List.getD_cons_succ, nilEP]
  refine Ev.loopF (fun (i : Nat) e s => e 5 = .int .i64 (i : Nat) ∧ i ≤ b.length ∧ ∃ ps rest, OwnB σ.toks.length s (e 4) ps ∧ Recs b i rest en ∧ l = ps.map Prod.snd ++ rest ∧ ps.length ≤ i ∧ Keep σ s) (fun i => b.length - i) 0 ?_ ?_
  · exact ⟨by simp [upd_some], Nat.zero_le _, [], l, by simpa [upd_some] using OwnB.nil, hR, rfl, Nat.le_refl _, Keep.refl _⟩
  rintro i e s ⟨h5, hi, ps, rest, hO, hr, hll, hpl, hk⟩ hf
  have g0 : e 0 = x := (hf 0 (by decide)).trans (by simp [upd_some])
  clear hf
  obtain ⟨v6, hv6, b6⟩ := hb.slice (t := 22) T22 S5 (vbounds_lo (k := .i64) (n := (i : Int)) (len := b.length) (by omega) (by omega)) (by omega) (by omega)
  rw [Int.toNat_natCast, List.take_of_length_le (by rw [List.length_drop]; omega)] at b6
  have hdl : (b.drop i).length = b.length - i := List.length_drop
  have hl6 := b6.len T22
  rw [hdl] at hl6
  by_cases h8 : b.length < i + 8
  · have h8' : ((b.length - i : Nat) : Int) < 8 := by omega
    have hn : recAt b i = none := by unfold recAt; rw [if_pos h8]
    cases hr with
    | more h _ => rw [hn] at h; cases h
    | stop h =>
      simp only [k31_a, WK, vop, evAll, evOpt, evParts, vbuiltin, vun, vextract, Nat.reduceLT, Nat.reduceEqDiff, ↓reduceIte, reduceCtorEq, Nat.reduceAdd, Int.reduceLT, Int.reduceNeg, valloc_std, noSB, vhot, g0, h5, T22, hv6, hl6, h8', decide_true]
      exact ⟨_, ps, rfl, hO, by rw [hll, List.append_nil], hk⟩
  have h8' : ¬ ((b.length - i : Nat) : Int) < 8 := by omega
  obtain ⟨m5, m6, m7, a5, a6, a7⟩ := rsize (b.getD i 0) (b.getD (i + 1) 0) (b.getD (i + 2) 0) (b.getD (i + 3) 0)
  rw [← w4_nat b i] at a7
  generalize hS : (w4 b i).toNat = S at a7
  have t0 : vindexAddr Tryd.prog 22 v6 (.int .i64 0) = some (.eptr ((b.drop i).map byteV) 0) := b6.at' (i := 0) (by omega)
  have t1 : vindexAddr Tryd.prog 22 v6 (.int .i64 1) = some (.eptr ((b.drop i).map byteV) 1) := b6.at' (i := 1) (by omega)
  have t2 : vindexAddr Tryd.prog 22 v6 (.int .i64 2) = some (.eptr ((b.drop i).map byteV) 2) := b6.at' (i := 2) (by omega)
  have t3 : vindexAddr Tryd.prog 22 v6 (.int .i64 3) = some (.eptr ((b.drop i).map byteV) 3) := b6.at' (i := 3) (by omega)
  have ld : ∀ (objs : List Ob) (j : Nat) (hj : j < 8), vload Tryd.prog objs 5 (.eptr ((b.drop i).map byteV) j) = some (.int .u8 ((b.getD (i + j) 0).toNat : Nat)) := fun objs j hj => by
    rw [byte_ld (by omega), getD_drop]
  have l0 := fun objs => ld objs 0 (by omega)
  rw [Nat.add_zero] at l0
  have l1 := fun objs => ld objs 1 (by omega)
  have l2 := fun objs => ld objs 2 (by omega)
  have l3 := fun objs => ld objs 3 (by omega)
  simp only [k31_a, WK, vop, evAll, evOpt, evParts, vbuiltin, vun, vextract, Nat.reduceLT, Nat.reduceEqDiff, ↓reduceIte, reduceCtorEq, Nat.reduceAdd, Int.reduceLT, Int.reduceNeg, valloc_std, noSB, vhot, g0, h5, T22, hv6, hl6, h8', decide_false, t0, t1, t2, t3, l0, l1, l2, l3, conv83, m5, m6, m7, a5, a6, a7]
  clear m5 m6 m7 a5 a6 a7 t0 t1 t2 t3 l0 l1 l2 l3 ld
  by_cases hbig : 65536 < S
  · have hbig' : (65536 : Int) < (S : Nat) := Int.ofNat_lt.2 hbig
    have hn : recAt b i = none := by unfold recAt; rw [if_neg h8, hS, if_pos (.inl hbig)]
    cases hr with
    | more h _ => rw [hn] at h; cases h
    | stop h =>
      simp only [k31_a, WK, vop, evAll, evOpt, evParts, vbuiltin, vun, vextract, Nat.reduceLT, Nat.reduceEqDiff, ↓reduceIte, reduceCtorEq, Nat.reduceAdd, Int.reduceLT, Int.reduceNeg, valloc_std, noSB, vhot, h5, hbig', decide_true]
      exact ⟨_, ps, rfl, hO, by rw [hll, List.append_nil], hk⟩
  have hbig' : ¬ (65536 : Int) < (S : Nat) := fun h => hbig (Int.ofNat_lt.1 h)
  have w5 : IntKind.i64.wrap (8 + ((S : Nat) : Int)) = ((8 + S : Nat) : Int) := by rw [wrap_i64 (by omega) (by omega)]; omega
  by_cases hlong : b.length < i + 8 + S
  · have hlong' : ((b.length - i : Nat) : Int) < ((8 + S : Nat) : Int) := by omega
    have hn : recAt b i = none := by unfold recAt; rw [if_neg h8, hS, if_pos (.inr hlong)]
    cases hr with
    | more h _ => rw [hn] at h; cases h
    | stop h =>
      simp only [k31_a, WK, vop, evAll, evOpt, evParts, vbuiltin, vun, vextract, Nat.reduceLT, Nat.reduceEqDiff, ↓reduceIte, reduceCtorEq, Nat.reduceAdd, Int.reduceLT, Int.reduceNeg, valloc_std, noSB, vhot, h5, hl6, w5, hbig', hlong', decide_true, decide_false]
      exact ⟨_, ps, rfl, hO, by rw [hll, List.append_nil], hk⟩
  have hlong' : ¬ ((b.length - i : Nat) : Int) < ((8 + S : Nat) : Int) := by omega
  obtain ⟨vr, hvr, br⟩ := b6.slice (t := 22) T22 S5 (vbounds_lohi (k := .i64) (k' := .i64) (n := 8) (m := ((8 + S : Nat) : Int)) (len := (b.drop i).length) (by omega) (by omega) (by omega)) (by omega) (by omega)
  rw [Int.toNat_natCast, show (8 : Int).toNat = 8 from rfl, show 8 + S - 8 = S from by omega, List.drop_drop] at br
  have hrl : ((b.drop (i + 8)).take S).length = S := by rw [List.length_take, List.length_drop]; omega
  obtain ⟨v5, s5, a1, a2, a3, a4⟩ := OwnV.append' (P := Tryd.prog) (t := 22) (t2 := 22) BT (σ := s) (show OwnV 5 s.toks.length s (.slice .exact 1 [] 0) [] from .inr ⟨.exact, rfl, .inl rfl⟩) (σ0 := s) rfl (Keep.refl s) T22 br (by simp; omega)
  rw [List.nil_append] at a2
  obtain ⟨q7, s7, d7, v7, rfl, b7, k7⟩ := rframe_sees (σ := s5) a2.bts (by omega)
  have hfr : frameS ((b.drop (i + 8)).take S) = (frameB ((b.drop (i + 8)).take S), 0) := by unfold frameS; rw [if_neg (by omega)]
  rw [hfr] at d7 b7
  obtain ⟨vw, hvw, bw⟩ := b6.slice (t := 22) T22 S5 (vbounds_hi (k := .i64) (n := ((8 + S : Nat) : Int)) (len := (b.drop i).length) (by omega) (by omega)) (by omega) (by omega)
  rw [Int.toNat_natCast, List.drop_zero, Nat.sub_zero] at bw
  have hfe := frame_eq (b := b) (i := i) (n := S) (by omega) hS
  simp only [k31_a, WK, vop, evAll, evOpt, evParts, vbuiltin, vun, vextract, Nat.reduceLT, Nat.reduceEqDiff, ↓reduceIte, reduceCtorEq, Nat.reduceAdd, Int.reduceLT, Int.reduceNeg, valloc_std, noSB, vhot, h5, hl6, w5, hbig', hlong', decide_false, T22, hvr, build0 BT, a1]
  refine KD.ret d7 ?_
  by_cases hc : crcSum ((b.drop (i + 8)).take S) = w4 b (i + 4)
  · have hn : recAt b i = some S := by unfold recAt; rw [if_neg h8, hS, if_neg (by omega), if_pos hc]
    have hc' := hfe.2 hc
    cases hr with
    | stop h => rw [hn] at h; cases h
    | more h hr' =>
      rw [hn] at h
      injection h with h
      subst h
      rename_i rest'
      have kt := a3.trans k7
      obtain ⟨v8, s8, b1, b2, b3, b4⟩ := (hO.keep kt.2.2).app (s0 := σ) rfl (hk.trans kt) a2.bts (by omega)
      have w6 : IntKind.i64.wrap (((i : Nat) : Int) + 8) = ((i + 8 : Nat) : Int) := by rw [wrap_i64 (by omega) (by omega)]; omega
      have w7 : IntKind.i64.wrap (((i + 8 : Nat) : Int) + ((S : Nat) : Int)) = ((i + 8 + S : Nat) : Int) := by rw [wrap_i64 (by omega) (by omega)]; omega
      have cs := conv_str b7
      rw [hc'] at cs
      simp only [k31_a, WK, vop, evAll, evOpt, evParts, vbuiltin, vun, vextract, Nat.reduceLT, Nat.reduceEqDiff, ↓reduceIte, reduceCtorEq, Nat.reduceAdd, Int.reduceLT, Int.reduceNeg, valloc_std, noSB, vhot, cs, w5, T22, hvw, conv_str bw, sbN, eq_self, decide_true, Bool.not_true, mkRows1 v5 a2.bts.one, b1, h5, w6, w7]
      refine ⟨i + 8 + S, ⟨by simp [upd_some], by omega, _, rest', by simpa [upd_some] using b2, hr', ?_, by simp; omega, b3⟩, by omega⟩
      rw [hll]
      simp
  · have hn : recAt b i = none := by unfold recAt; rw [if_neg h8, hS, if_neg (by omega), if_neg hc]
    have hc' : ¬ frameB ((b.drop (i + 8)).take S) = (b.drop i).take (8 + S) := fun h => hc (hfe.1 h)
    cases hr with
    | more h _ => rw [hn] at h; cases h
    | stop h =>
      have kt := a3.trans k7
      simp only [k31_a, WK, vop, evAll, evOpt, evParts, vbuiltin, vun, vextract, Nat.reduceLT, Nat.reduceEqDiff, ↓reduceIte, reduceCtorEq, Nat.reduceAdd, Int.reduceLT, Int.reduceNeg, valloc_std, noSB, vhot, conv_str b7, w5, T22, hvw, conv_str bw, sbN, hc', decide_false, Bool.not_false, h5]
      exact ⟨_, ps, rfl, hO.keep kt.2.2, by rw [hll, List.append_nil], hk.trans kt⟩
theorem alike4_does {σ : St} {v w : V} {ps qs : List BV} (hv : PtsV v ps) (hw : PtsV w qs) (hp : ∀ p ∈ ps, BtsV p.1 p.2) (hq : ∀ p ∈ qs, BtsV p.1 p.2) (he : ps.map Prod.snd = qs.map Prod.snd) (hl : ps.length ≤ 1000000000) (hs : ∀ p ∈ ps, p.2.length ≤ 1000000000) :
    Does Tryd.prog prims 35 [v, w] σ (.ret (.bool true)) σ := by
  apply k35_is.ret (by simp)
  have hll : qs.length = ps.length := by
    have := congrArg List.length he
    simpa using this.symm
  have hlv := hv.len
  have hlw := hw.len
  rw [hll] at hlw
  simp only [k35_a, WK, vop, evAll, evOpt, evParts, vbuiltin, vun, vextract, Nat.reduceLT, Nat.reduceEqDiff, ↓reduceIte, reduceCtorEq, Nat.reduceAdd, Int.reduceLT, Int.reduceNeg, valloc_std, noSB, vhot, List.getD_cons_zero, List.getD_cons_succ, hlv, hlw, eq_self, decide_true, Bool.not_true]
  refine Ev.loopF (fun (i : Nat) e s => e 13 = .int .i64 (i : Nat) ∧ i ≤ ps.length ∧ s = σ) (fun i => ps.length - i) 0 ⟨by simp [upd_some], Nat.zero_le _, rfl⟩ ?_
  rintro i e s ⟨h13, hi, rfl⟩ hf
  have g0 : e 0 = v := (hf 0 (by decide)).trans (by simp [upd_some])
  have g1 : e 1 = w := (hf 1 (by decide)).trans (by simp [upd_some])
  have g12 : e 12 = .int .i64 (ps.length : Nat) := (hf 12 (by decide)).trans (by simp [upd_some])
  clear hf
  by_cases hlt : i < ps.length
  · have hlt' : (i : Int) < (ps.length : Nat) := by omega
    have hlq : i < qs.length := by omega
    have hwi : IntKind.i64.wrap ((i : Int) + 1) = ((i + 1 : Nat) : Int) := by rw [wrap_i64 (by omega) (by omega)]; omega
    have hee : ps[i].2 = qs[i].2 := by
      have : (ps.map Prod.snd)[i]? = (qs.map Prod.snd)[i]? := by rw [he]
      rw [List.getElem?_map, List.getElem?_map, List.getElem?_eq_getElem hlt, List.getElem?_eq_getElem hlq] at this
      simpa using this
    have sm := same4_does (.inl (hp _ (List.getElem_mem hlt)) : RB s ps[i].1 ps[i].2) (.inl (hq _ (List.getElem_mem hlq)) : RB s qs[i].1 qs[i].2) (by have := hs _ (List.getElem_mem hlt); omega)
    rw [decide_eq_true hee] at sm
    simp only [k35_a, WK, vop, evAll, evOpt, evParts, vbuiltin, vun, vextract, Nat.reduceLT, Nat.reduceEqDiff, ↓reduceIte, reduceCtorEq, Nat.reduceAdd, Int.reduceLT, Int.reduceNeg, valloc_std, noSB, vhot, h13, g12, g0, g1, hlt', decide_true, hv.addr hlt, PtsV.load hlt, hw.addr hlq, PtsV.load hlq]
    refine KD.ret sm ?_
    simp only [k35_a, WK, vop, evAll, evOpt, evParts, vbuiltin, vun, vextract, Nat.reduceLT, Nat.reduceEqDiff, ↓reduceIte, reduceCtorEq, Nat.reduceAdd, Int.reduceLT, Int.reduceNeg, valloc_std, noSB, vhot, h13, g12, g0, g1, hlt', decide_true, Bool.not_true, hwi]
    exact ⟨i + 1, ⟨by simp [upd_some], by omega⟩, by omega⟩
  · have hlt' : ¬ (i : Int) < (ps.length : Nat) := by omega
    simp only [k35_a, WK, vop, evAll, evOpt, evParts, vbuiltin, vun, vextract, Nat.reduceLT, Nat.reduceEqDiff, ↓reduceIte, reduceCtorEq, Nat.reduceAdd, Int.reduceLT, Int.reduceNeg, valloc_std, noSB, vhot, h13, g12, hlt', decide_false]
theorem recs_le {b : List UInt8} {i e : Nat} {l : List (List UInt8)} (h : Recs b i l e) : (∀ r ∈ l, r.length ≤ b.length) ∧ l.length + i ≤ max b.length i := by
  induction h with
  | stop h => exact ⟨fun r hr => absurd hr List.not_mem_nil, by simp only [List.length_nil]; omega⟩
  | more h r ih =>
    have := recAt_some h
    refine ⟨fun r hr => ?_, by have := ih.2; simp only [List.length_cons]; omega⟩
    rcases List.mem_cons.1 hr with rfl | hr
    · rw [List.length_take, List.length_drop]; omega
    · exact ih.1 r hr
theorem walframes_true : LawTrue Tryd.prog prims 7 [3, 22] := by
  intro args hA hb
  match args, hA with
  | [vn, x], ⟨hx, hx2, _⟩ =>
    obtain ⟨n, rfl, hn⟩ : ∃ n : Int, vn = .int .i64 n ∧ InI64 n := int_arg T3 hx
    obtain ⟨b, hB, hl⟩ := bytes_arg (P := Tryd.prog) T22 T5 C5 hx2
    simp only [vbulks] at hb
    have hbl : b.length ≤ 2000000 := by omega
    have key : ∃ r σ', Does Tryd.prog prims 7 [.int .i64 n, x] st0 r σ' ∧ r = .ret (.bool true) := by
      apply k7_is.does (by simp)
      obtain ⟨s1, hwk⟩ := wwakes_does
      obtain ⟨l, en, hR⟩ := recs_some b b.length 0 (by omega)
      have hle := recs_le hR
      obtain ⟨q2, s2, d2, v2, rfl, o2, k2⟩ := frame_sees (σ := s1) hB (by omega)
      obtain ⟨q3, s3, d3, v3, rfl, o3, k3⟩ := rframe_sees (σ := s2) hB (by omega)
      obtain ⟨q4, s4, d4, v4, ps, rfl, o4, e4, k4⟩ := records_sees (σ := s3) hB (by omega) hR
      obtain ⟨q5, s5, d5, v5, qs, rfl, o5, e5, k5⟩ := rrecords_sees (σ := s4) hB (by omega) hR
      have hfl : (frameS b).1.length ≤ 140737488355328 := by
        unfold frameS
        split
        · simp
        · simp only [frameB_len]; omega
      have sm1 := same4_does (.inl o2 : RB s5 v2 _) (.inl o3 : RB s5 v3 _) hfl
      rw [decide_eq_true rfl] at sm1
      have hpl : ps.length = l.length := by rw [← e4]; simp
      have al := alike4_does (σ := s5) o4.pts o5.pts o4.b o5.b (e4.trans e5.symm) (by omega) (fun p hp => by
        have := hle.1 p.2 (by rw [← e4]; exact List.mem_map_of_mem hp)
        omega)
      simp only [k7_a, WK, vop, evAll, evOpt, evParts, vbuiltin, vun, vextract, Nat.reduceLT, Nat.reduceEqDiff, ↓reduceIte, reduceCtorEq, Nat.reduceAdd, Int.reduceLT, Int.reduceNeg, valloc_std, noSB, vhot, List.getD_cons_zero, List.getD_cons_succ]
      refine KD.ret hwk ?_
      simp only [k7_a, WK, vop, evAll, evOpt, evParts, vbuiltin, vun, vextract, Nat.reduceLT, Nat.reduceEqDiff, ↓reduceIte, reduceCtorEq, Nat.reduceAdd, Int.reduceLT, Int.reduceNeg, valloc_std, noSB, vhot, List.getD_cons_zero, List.getD_cons_succ, Bool.not_true]
      refine KD.ret d2 ?_
      simp only [k7_a, WK, vop, evAll, evOpt, evParts, vbuiltin, vun, vextract, Nat.reduceLT, Nat.reduceEqDiff, ↓reduceIte, reduceCtorEq, Nat.reduceAdd, Int.reduceLT, Int.reduceNeg, valloc_std, noSB, vhot, List.getD_cons_zero, List.getD_cons_succ]
      refine KD.ret d3 ?_
      simp only [k7_a, WK, vop, evAll, evOpt, evParts, vbuiltin, vun, vextract, Nat.reduceLT, Nat.reduceEqDiff, ↓reduceIte, reduceCtorEq, Nat.reduceAdd, Int.reduceLT, Int.reduceNeg, valloc_std, noSB, vhot, List.getD_cons_zero, List.getD_cons_succ]
      refine KD.ret d4 ?_
      simp only [k7_a, WK, vop, evAll, evOpt, evParts, vbuiltin, vun, vextract, Nat.reduceLT, Nat.reduceEqDiff, ↓reduceIte, reduceCtorEq, Nat.reduceAdd, Int.reduceLT, Int.reduceNeg, valloc_std, noSB, vhot, List.getD_cons_zero, List.getD_cons_succ]
      refine KD.ret d5 ?_
      simp only [k7_a, WK, vop, evAll, evOpt, evParts, vbuiltin, vun, vextract, Nat.reduceLT, Nat.reduceEqDiff, ↓reduceIte, reduceCtorEq, Nat.reduceAdd, Int.reduceLT, Int.reduceNeg, valloc_std, noSB, vhot, List.getD_cons_zero, List.getD_cons_succ]
      refine KD.ret (wname_does n) ?_
      simp only [k7_a, WK, vop, evAll, evOpt, evParts, vbuiltin, vun, vextract, Nat.reduceLT, Nat.reduceEqDiff, ↓reduceIte, reduceCtorEq, Nat.reduceAdd, Int.reduceLT, Int.reduceNeg, valloc_std, noSB, vhot, List.getD_cons_zero, List.getD_cons_succ]
      refine KD.ret (rwname_does n) ?_
      simp only [k7_a, WK, vop, evAll, evOpt, evParts, vbuiltin, vun, vextract, Nat.reduceLT, Nat.reduceEqDiff, ↓reduceIte, reduceCtorEq, Nat.reduceAdd, Int.reduceLT, Int.reduceNeg, valloc_std, noSB, vhot, List.getD_cons_zero, List.getD_cons_succ, sbE, eq_self, decide_true]
      refine KD.ret sm1 ?_
      simp only [k7_a, WK, vop, evAll, evOpt, evParts, vbuiltin, vun, vextract, Nat.reduceLT, Nat.reduceEqDiff, ↓reduceIte, reduceCtorEq, Nat.reduceAdd, Int.reduceLT, Int.reduceNeg, valloc_std, noSB, vhot, List.getD_cons_zero, List.getD_cons_succ]
      refine KD.ret al ?_
      simp only [k7_a, WK, vop, evAll, evOpt, evParts, vbuiltin, vun, vextract, Nat.reduceLT, Nat.reduceEqDiff, ↓reduceIte, reduceCtorEq, Nat.reduceAdd, Int.reduceLT, Int.reduceNeg, valloc_std, noSB, vhot, List.getD_cons_zero, List.getD_cons_succ, eq_self, decide_true]
    obtain ⟨r, σ', ⟨m, h⟩, rfl⟩ := key
    exact ⟨m, σ', h⟩
end Go.Proofs.YtnegdinonfjdfaaDoor.Q

set_option linter.unusedVariables false
namespace Go.Proofs.YtnegdinonfjdfaaDoor.rowWalFrames
open Go Go.ChangeShapes Go.WideShapes Go.ChangeAt Go.RowKit Go.Proofs Go.Proofs.YtnegdinonfjdfaaDoor.Q
theorem own : ownKnob Tryd.prog.godebug = none := by kernel_rfl
set_option maxRecDepth 100000 in
theorem contract (H : Type) (enc : TypeId × Value → H) (W : World) (base : Nat) (args : Array Value) (ds gs : List (DataW H)) (before : List MemPlace)
    (hval : ∀ (j : Nat) t v, Tryd.f7.params[j]? = some t → args[j]? = some v → Value.okWide Tryd.prog W .any base t v)
    (hW : DataW.Whole enc Tryd.prog Tryd.f7.params.toList Rows.walFramesSpec.vars false W args.toList ds gs before) (hk : Rows.uptoSmall H (ds ++ gs) = true) (hL : laidMetH Tryd.prog listL W) :
    Calls Tryd.prog 7 args W fun e W' => ∃ v, e = .returned v ∧ Rows.walFramesSpec.post enc Tryd.prog Tryd.f7 false true false false W args v W' := by
  have hl : laidOutB Tryd.prog = true := by kernel_rfl
  have hS : plainS Tryd.prog [3, 22, 5] = true := by kernel_rfl
  have hpar : Tryd.f7.params.toList = [3, 22] := rfl
  have hW' := hW
  obtain ⟨p, q, hA, hV, rfl, hfz, hnd⟩ := hW
  obtain ⟨rfl, rfl⟩ := trodVars_none hV
  rw [List.append_nil] at hk
  have hk2 : Rows.uptoBulkAll ds ≤ 1048576 := of_decide_eq_true hk
  rw [hpar] at hA
  refine (law_callsW (prims_ok W.heap.size W (lays_of hL)) hl hS (ts := [3, 22]) (by decide) (by decide) walframes_true (fun j t v h1 h2 => hval j t v (by rw [← Array.getElem?_toList, hpar]; exact h1) (by rw [← Array.getElem?_toList]; exact h2)) hA hk2).mono fun e W' h => ?_
  obtain ⟨rfl, hb⟩ := h
  exact law_post (tb := 4) hl rfl (by kernel_rfl) (by kernel_rfl) rfl hW' (by
    have hgs : ds.length = 2 := by rw [trodAll_len hA]; rfl
    match ds, hgs with
    | [d0, d1], _ => exact ⟨rfl, rfl, rfl⟩) hb
theorem reads (os : Os) {H : Type} (enc : TypeId × Value → H) : ∃ places, DataW.whole enc Tryd.prog ((laidWorld os).forCall (fun _ _ => 0) ⟨#[], #[.int .i64 0, .slice none 0 0], []⟩).memory Tryd.f7.params.toList Rows.walFramesSpec.vars false (#[.int .i64 0, .slice none 0 0] : Array Value).toList 8 = some ([.lit (.int .i64 0), .nil], [], places) :=
  ⟨[], by kernel_rfl⟩
set_option maxRecDepth 100000 in
theorem lifted (os : Os) (started : os.Started) (H : Type) (enc : TypeId × Value → H) (F : Stop.Interp) :
    ReturnsInHanded {} Tryd.checked os 7 .any ((Rows.OpenSpec.upto Rows.walFramesSpec).preRow enc Tryd.prog Tryd.f7 Rows.walFramesUptoRow.domain false Rows.walFramesUptoRow.laid) (((Rows.OpenSpec.upto Rows.walFramesSpec).at F).post enc Tryd.prog Tryd.f7 false true false false) := by
  obtain ⟨places, hx⟩ := reads os enc
  refine returnsInHanded_of_row (C := Tryd.checked) (s := Rows.OpenSpec.upto Rows.walFramesSpec) own started (by kernel_rfl) Tryd.func7
    (witness_row_atRef (enc := enc) (C := Tryd.checked) false (laidWorld os) #[.int .i64 0, .slice none 0 0] rfl (by kernel_rfl) (by kernel_rfl) (by kernel_rfl)
      (OpenSpec.preRow_of_cond 8 hx (by kernel_rfl) (fun k hk => by cases hk; kernel_rfl) (by kernel_rfl) (laid_met os _))) ?_
  intro W base args ds gs before hval hW _ hcond _ hL _ _
  exact contract H enc W base args ds gs before hval hW (hcond _ rfl) hL
theorem said : Rows.WalFramesUptoSaid :=
  OpenClaim.holds_of_cond 7 Tryd.f7 rfl rfl rfl rfl rfl rfl rfl ⟨rfl, rfl, rfl, rfl, rfl⟩ rfl rfl rfl rfl rfl (by kernel_rfl) Tryd.func7 (by kernel_rfl)
    (of_decide_eq_true (by kernel_rfl)) (by unfold Func.isWrapper; first | (rw [if_pos (by decide +kernel)]; kernel_rfl) | (rw [if_neg (by decide +kernel)]; exact ⟨rfl, rfl⟩))
    (fun os started H enc _ F => by rw [OpenClaim.pre_eq_preRow]; exact lifted os started H enc F)
theorem plain (f : FuncId) (fn : Func) (hf : Tryd.pinned.checked.prog.funcNamed "quern/quernlaw04.WalFrames" = some f) (hfn : Tryd.pinned.checked.prog.funcs[f]? = some fn) :
    true = Tryd.pinned.checked.prog.looks [] ∧ ∀ (j : Nat) t, fn.params[j]? = some t → Tryd.pinned.checked.prog.wantsStandIn t = false := by
  obtain rfl : f = 7 := Option.some.inj ((show Tryd.prog.funcNamed "quern/quernlaw04.WalFrames" = some 7 by kernel_rfl).symm.trans hf) |>.symm
  obtain rfl : fn = Tryd.f7 := (Option.some.inj (Tryd.func7.symm.trans hfn)).symm
  refine ⟨by kernel_rfl, fun j t ht => ?_⟩
  have hall : (Tryd.f7.params.toList.all fun t => Tryd.prog.wantsStandIn t == false) = true := by kernel_rfl
  have hm : t ∈ Tryd.f7.params.toList := by rw [Array.mem_toList_iff]; exact Array.mem_of_getElem? ht
  have := List.all_eq_true.1 hall t hm
  have h3 : Tryd.prog.wantsStandIn t = false := by simpa using this
  exact h3
theorem proved : Rows.WalFramesUptoCardSaid :=
  Claim7.holds_tied_plain_at .later [] _ _ _ _ said (fun _ h => by cases h) (by kernel_rfl) (fun _ h => by cases h) walFramesUpto_row_tie rfl ⟨rfl, rfl⟩ (by kernel_rfl) rfl plain (by kernel_rfl)
end Go.Proofs.YtnegdinonfjdfaaDoor.rowWalFrames

