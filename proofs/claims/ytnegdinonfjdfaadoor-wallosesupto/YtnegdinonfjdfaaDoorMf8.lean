/- A part of the proof: Vb, Vc, Vd, Ua, Ub, Ve, Vf, Vg, Vh, Vi, Uc, Vj, Vk, Vl. -/
import Derived.Test.YtnegdinonfjdfaaDoorMf7
/- Frames and records, of the program and of the document. -/
set_option linter.unusedVariables false
set_option linter.unusedSimpArgs false
set_option maxRecDepth 100000
namespace Go.Proofs.YtnegdinonfjdfaaDoor.Q
open Go Go.RowKit Go.Proofs
/-! ### Plainly -/
def frameB (r : List UInt8) : List UInt8 := fourB (BitVec.ofNat 32 r.length) ++ fourB (crcSum r) ++ r
def frameS (r : List UInt8) : List UInt8 × Nat := if 65536 < r.length then ([], 3) else (frameB r, 0)
theorem frameB_len (r : List UInt8) : (frameB r).length = 8 + r.length := by
  unfold frameB
  rw [List.length_append, List.length_append, fourB_len, fourB_len]
/-- The record that stands at this place: how long it is. -/
def recAt (b : List UInt8) (i : Nat) : Option Nat :=
  if b.length < i + 8 then none else
  if 65536 < (w4 b i).toNat ∨ b.length < i + 8 + (w4 b i).toNat then none else
  if crcSum ((b.drop (i + 8)).take (w4 b i).toNat) = w4 b (i + 4) then some (w4 b i).toNat else none
inductive Recs (b : List UInt8) : Nat → List (List UInt8) → Nat → Prop where
  | stop {i : Nat} (h : recAt b i = none) : Recs b i [] i
  | more {i n : Nat} {l : List (List UInt8)} {e : Nat} (h : recAt b i = some n) (r : Recs b (i + 8 + n) l e) : Recs b i ((b.drop (i + 8)).take n :: l) e
theorem recAt_some {b : List UInt8} {i n : Nat} (h : recAt b i = some n) : i + 8 + n ≤ b.length ∧ n ≤ 65536 ∧ n = (w4 b i).toNat ∧ crcSum ((b.drop (i + 8)).take n) = w4 b (i + 4) := by
  unfold recAt at h
  split at h
  · cases h
  split at h
  · cases h
  split at h
  · injection h with h
    subst h
    exact ⟨by omega, by omega, rfl, by assumption⟩
  · cases h
/-! ### Frame -/
theorem build8 (a b c d e f g h : UInt8) : vbuildSlice Tryd.prog 22 8 [(0, byteV a), (1, byteV b), (2, byteV c), (3, byteV d), (4, byteV e), (5, byteV f), (6, byteV g), (7, byteV h)] = some (.slice .exact 1 ([a, b, c, d, e, f, g, h].map byteV) 8) := by
  have r : List.range 8 = [0, 1, 2, 3, 4, 5, 6, 7] := by decide
  simp [vbuildSlice, T22, S5, BT.z, vcells, vfill, zeroCellsV, setAll, byteV, r]
theorem frame_sees {σ : St} {x : V} {r : List UInt8} (hb : BtsV x r) (hl : r.length ≤ 100000000) :
    ∃ q σ', Does Tryd.prog prims 28 [x] σ q σ' ∧ ∃ v, q = .ret (.tuple [v, .int .i64 ((frameS r).2 : Nat)]) ∧ BtsV v (frameS r).1 ∧ Keep σ σ' := by
  apply k28_is.does (by simp)
  have hlen := hb.len T22
  by_cases hbig : 65536 < r.length
  · have hbig' : (65536 : Int) < ((r.length : Nat) : Int) := by omega
    have e : frameS r = ([], 3) := by unfold frameS; rw [if_pos hbig]
    simp only [k28_a, WK, vop, evAll, evOpt, evParts, vbuiltin, vun, vextract, Nat.reduceLT, Nat.reduceEqDiff, ↓reduceIte, reduceCtorEq, Nat.reduceAdd, Int.reduceLT, Int.reduceNeg, valloc_std, noSB, vhot, List.getD_cons_zero, List.getD_cons_succ, nilEP, hlen, hbig', decide_true, e]
    exact ⟨.nils, rfl, .inl ⟨rfl, rfl⟩, Keep.refl _⟩
  have hbig' : ¬ (65536 : Int) < ((r.length : Nat) : Int) := by omega
  have e : frameS r = (frameB r, 0) := by unfold frameS; rw [if_neg hbig]
  obtain ⟨B, hB⟩ : ∃ B, B = BitVec.ofNat 32 r.length := ⟨_, rfl⟩
  have hB' : BitVec.ofInt 32 ((r.length : Nat) : Int) = B := by rw [hB]; simp
  have c2 := conv32 ((r.length : Nat) : Int)
  rw [hB'] at c2
  obtain ⟨C, hC⟩ : ∃ C, C = crcSum r := ⟨_, rfl⟩
  have hs := crcsum_does (σ := σ) hb (by omega)
  rw [← hC] at hs
  have hbl := build8 (UInt8.ofNat B.toNat) (UInt8.ofNat (B >>> 8).toNat) (UInt8.ofNat (B >>> 16).toNat) (UInt8.ofNat (B >>> 24).toNat) (UInt8.ofNat C.toNat) (UInt8.ofNat (C >>> 8).toNat) (UInt8.ofNat (C >>> 16).toNat) (UInt8.ofNat (C >>> 24).toNat)
  rw [show [UInt8.ofNat B.toNat, UInt8.ofNat (B >>> 8).toNat, UInt8.ofNat (B >>> 16).toNat, UInt8.ofNat (B >>> 24).toNat, UInt8.ofNat C.toNat, UInt8.ofNat (C >>> 8).toNat, UInt8.ofNat (C >>> 16).toNat, UInt8.ofNat (C >>> 24).toNat] = fourB B ++ fourB C from rfl] at hbl
  obtain ⟨v1, s1, a1, a2, a3, a4⟩ := OwnV.append' (P := Tryd.prog) (t := 22) (t2 := 22) BT (σ := σ) (show OwnV 5 σ.toks.length σ (.slice .exact 1 ((fourB B ++ fourB C).map byteV) 8) (fourB B ++ fourB C) from .inr ⟨.exact, rfl, .inl rfl⟩) (σ0 := σ) rfl (Keep.refl σ) T22 hb (by rw [List.length_append, fourB_len, fourB_len]; omega)
  simp only [k28_a, WK, vop, evAll, evOpt, evParts, vbuiltin, vun, vextract, Nat.reduceLT, Nat.reduceEqDiff, ↓reduceIte, reduceCtorEq, Nat.reduceAdd, Int.reduceLT, Int.reduceNeg, valloc_std, noSB, vhot, List.getD_cons_zero, List.getD_cons_succ, nilEP, hlen, hbig', decide_false, c2]
  refine KD.ret hs ?_
  simp only [k28_a, WK, vop, evAll, evOpt, evParts, vbuiltin, vun, vextract, Nat.reduceLT, Nat.reduceEqDiff, ↓reduceIte, reduceCtorEq, Nat.reduceAdd, Int.reduceLT, Int.reduceNeg, valloc_std, noSB, vhot, List.getD_cons_zero, List.getD_cons_succ, uV, conv8, shr8, shr16, shr24, hbl, a1, e]
  refine ⟨v1, rfl, ?_, a3⟩
  have : frameB r = fourB B ++ fourB C ++ r := by rw [hB, hC]; rfl
  rw [this]
  exact a2.bts
/-! ### Numbers of 64 bits, put together out of bytes -/
theorem or64 (a y k : Nat) (ha : a < 2 ^ k) (hk : k ≤ 24) (hy : y < 256) : bitOp .or .i64 ((a : Nat) : Int) ((y * 2 ^ k : Nat) : Int) = some (((a + y * 2 ^ k : Nat)) : Int) := by
  have h2 : 2 ^ k ≤ 2 ^ 24 := Nat.pow_le_pow_right (by decide) hk
  have h3 : y * 2 ^ k ≤ 255 * 2 ^ 24 := Nat.mul_le_mul (by omega) h2
  have e24 : (2 : Nat) ^ 24 = 16777216 := by decide
  have ea : BitVec.ofInt 64 ((a : Nat) : Int) = BitVec.ofNat 64 a := by simp
  have ey : BitVec.ofInt 64 ((y * 2 ^ k : Nat) : Int) = BitVec.ofNat 64 (y * 2 ^ k) := by rw [BitVec.ofInt_natCast]
  have hor : (BitVec.ofNat 64 a ||| BitVec.ofNat 64 (y * 2 ^ k)).toNat = a + y * 2 ^ k := by
    have m1 : a % 2 ^ 64 = a := Nat.mod_eq_of_lt (by omega)
    have m2 : y * 2 ^ k % 2 ^ 64 = y * 2 ^ k := Nat.mod_eq_of_lt (by omega)
    rw [BitVec.toNat_or, BitVec.toNat_ofNat, BitVec.toNat_ofNat, m1, m2, Nat.or_comm, ← Nat.shiftLeft_eq, ← Nat.shiftLeft_add_eq_or_of_lt ha, Nat.shiftLeft_eq, Nat.add_comm]
  show some (IntKind.i64.wrap (((BitVec.ofInt 64 ((a : Nat) : Int) ||| BitVec.ofInt 64 ((y * 2 ^ k : Nat) : Int)).toNat : Nat) : Int)) = _
  rw [ea, ey, hor, wrap_i64 (by omega) (by omega)]
theorem size64 (p q r t : UInt8) : IntKind.i64.wrap (((q.toNat : Nat) : Int) * (2 : Int) ^ (min (8 : Int).toNat IntKind.i64.bits)) = ((q.toNat * 2 ^ 8 : Nat) : Int) ∧ IntKind.i64.wrap (((r.toNat : Nat) : Int) * (2 : Int) ^ (min (16 : Int).toNat IntKind.i64.bits)) = ((r.toNat * 2 ^ 16 : Nat) : Int) ∧ IntKind.i64.wrap (((t.toNat : Nat) : Int) * (2 : Int) ^ (min (24 : Int).toNat IntKind.i64.bits)) = ((t.toNat * 2 ^ 24 : Nat) : Int) ∧
    bitOp .or .i64 ((p.toNat : Nat) : Int) ((q.toNat * 2 ^ 8 : Nat) : Int) = some ((p.toNat + q.toNat * 2 ^ 8 : Nat) : Int) ∧ bitOp .or .i64 ((p.toNat + q.toNat * 2 ^ 8 : Nat) : Int) ((r.toNat * 2 ^ 16 : Nat) : Int) = some ((p.toNat + q.toNat * 2 ^ 8 + r.toNat * 2 ^ 16 : Nat) : Int) ∧
    bitOp .or .i64 ((p.toNat + q.toNat * 2 ^ 8 + r.toNat * 2 ^ 16 : Nat) : Int) ((t.toNat * 2 ^ 24 : Nat) : Int) = some ((p.toNat + q.toNat * 2 ^ 8 + r.toNat * 2 ^ 16 + t.toNat * 2 ^ 24 : Nat) : Int) := by
  have h0 := p.toNat_lt
  have h1 := q.toNat_lt
  have h2 := r.toNat_lt
  have h3 := t.toNat_lt
  have m8 : (2 : Int) ^ (min (8 : Int).toNat IntKind.i64.bits) = 256 := by decide
  have m16 : (2 : Int) ^ (min (16 : Int).toNat IntKind.i64.bits) = 65536 := by decide
  have m24 : (2 : Int) ^ (min (24 : Int).toNat IntKind.i64.bits) = 16777216 := by decide
  refine ⟨?_, ?_, ?_, or64 _ _ 8 (by omega) (by omega) (by omega), or64 _ _ 16 (by omega) (by omega) (by omega), or64 _ _ 24 (by omega) (by omega) (by omega)⟩
  · rw [m8, wrap_i64 (by omega) (by omega)]; omega
  · rw [m16, wrap_i64 (by omega) (by omega)]; omega
  · rw [m24, wrap_i64 (by omega) (by omega)]; omega
theorem w4_pow (b : List UInt8) (i : Nat) : (w4 b i).toNat = (b.getD i 0).toNat + (b.getD (i + 1) 0).toNat * 2 ^ 8 + (b.getD (i + 2) 0).toNat * 2 ^ 16 + (b.getD (i + 3) 0).toNat * 2 ^ 24 := w4_nat b i
end Go.Proofs.YtnegdinonfjdfaaDoor.Q

/- Records, of the program and of the document. -/
set_option linter.unusedVariables false
set_option linter.unusedSimpArgs false
set_option maxRecDepth 100000
namespace Go.Proofs.YtnegdinonfjdfaaDoor.Q
open Go Go.RowKit Go.Proofs
theorem BBR : RowT Tryd.prog 37 22 1 24 := ⟨TBB, SBs, ⟨_, (by kernel_rfl : zeroT Tryd.prog 22 = some .nils), rfl⟩, by kernel_rfl, by omega⟩
theorem mkRows1 (a : V) (h1 : one a = true) : vbuildSlice Tryd.prog 37 1 [(0, a)] = some (.slice .exact 1 [a] 1) := by
  have hz : zeroT Tryd.prog 22 = some .nils := by kernel_rfl
  have e : List.range 1 = [0] := by decide
  have hn : vcells V.nils = [V.nils] := rfl
  simp [vbuildSlice, TBB, SBB, hz, hn, zeroCellsV, vfill, setAll, e, vcells_one h1, h1]
/-- A row of rows of bytes of one's own. -/
structure OwnB (m : Nat) (s : St) (w : V) (ps : List BV) : Prop where
  o : OwnR 22 1 m s w (ps.map Prod.fst) ps.length
  b : ∀ p ∈ ps, BtsV p.1 p.2
theorem OwnB.nil {m : Nat} {s : St} : OwnB m s .nils [] := ⟨OwnR.nil, fun p hp => by cases hp⟩
theorem OwnB.app {m : Nat} {s0 s : St} {w v : V} {ps : List BV} {bs : List UInt8} (h : OwnB m s w ps) (hm : m = s0.toks.length) (hk : Keep s0 s) (hv : BtsV v bs) (hl : ps.length ≤ 1000000000) :
    ∃ w' s', vappend Tryd.prog s 37 37 w (.slice .exact 1 [v] 1) = some (w', s') ∧ OwnB m s' w' (ps ++ [(v, bs)]) ∧ Keep s0 s' ∧ s'.objs = s.objs := by
  obtain ⟨w', s', a1, a2, a3, a4⟩ := h.o.appendO BBR (σ0 := s0) hm hk (t2 := 37) (y := .slice .exact 1 [v] 1) (ys := [v]) (l := 1) (by simp [vnewsO, vnews, TBB]) rfl (by simp [hv.one]) (by omega) (by omega)
  refine ⟨w', s', a1, ⟨by simpa using a2, fun p hp => ?_⟩, a3, a4⟩
  rcases List.mem_append.1 hp with hp | hp
  · exact h.b p hp
  · rw [List.mem_singleton] at hp; subst hp; exact hv
theorem OwnB.keep {m : Nat} {s s' : St} {w : V} {ps : List BV} (h : OwnB m s w ps) (hk : ∀ k, tokLive s.toks k = true → tokLive s'.toks k = true) : OwnB m s' w ps := ⟨h.o.keep hk, h.b⟩
theorem OwnB.pts {m : Nat} {s : St} {w : V} {ps : List BV} (h : OwnB m s w ps) : PtsV w ps := h.o.row
theorem hdr_get {b : List UInt8} {i j : Nat} (hj : j < 8) (h : i + 8 ≤ b.length) : ((b.drop i).take 8).getD j 0 = b.getD (i + j) 0 := by
  rw [List.getD_eq_getElem?_getD, List.getElem?_take_of_lt hj, List.getElem?_drop, ← List.getD_eq_getElem?_getD]
theorem records_sees {σ : St} {x : V} {b : List UInt8} {l : List (List UInt8)} {en : Nat} (hb : BtsV x b) (hl : b.length ≤ 100000000) (hR : Recs b 0 l en) :
    ∃ q σ', Does Tryd.prog prims 30 [x] σ q σ' ∧ ∃ w ps, q = .ret (.tuple [w, .int .i64 (en : Nat)]) ∧ OwnB σ.toks.length σ' w ps ∧ ps.map Prod.snd = l ∧ Keep σ σ' := by
  apply k30_is.does (by simp)
  have hlen := hb.len T22
  simp only [k30_a, WK, vop, evAll, evOpt, evParts, vbuiltin, vun, vextract, Nat.reduceLT, Nat.reduceEqDiff, ↓reduceIte, reduceCtorEq, Nat.reduceAdd, Int.reduceLT, Int.reduceNeg, valloc_std, noSB, vhot, List.getD_cons_zero, List.getD_cons_succ, nilEP]
  refine Ev.loopF (fun (i : Nat) e s => e 5 = .int .i64 (i : Nat) ∧ i ≤ b.length ∧ ∃ ps rest, OwnB σ.toks.length s (e 4) ps ∧ Recs b i rest en ∧ l = ps.map Prod.snd ++ rest ∧ ps.length ≤ i ∧ Keep σ s) (fun i => b.length - i) 0 ?_ ?_
  · exact ⟨by simp [upd_some], Nat.zero_le _, [], l, by simpa [upd_some] using OwnB.nil, hR, rfl, Nat.le_refl _, Keep.refl _⟩
  rintro i e s ⟨h5, hi, ps, rest, hO, hr, hll, hpl, hk⟩ hf
  have g0 : e 0 = x := (hf 0 (by decide)).trans (by simp [upd_some])
  clear hf
  have w1 : IntKind.i64.wrap (((b.length : Nat) : Int) - (i : Nat)) = ((b.length - i : Nat) : Int) := by rw [wrap_i64 (by omega) (by omega)]; omega
  by_cases h8 : b.length < i + 8
  · have h8' : ¬ (8 : Int) ≤ ((b.length - i : Nat) : Int) := by omega
    have hn : recAt b i = none := by unfold recAt; rw [if_pos h8]
    cases hr with
    | more h _ => rw [hn] at h; cases h
    | stop h =>
      simp only [k30_a, WK, vop, evAll, evOpt, evParts, vbuiltin, vun, vextract, Nat.reduceLT, Nat.reduceEqDiff, ↓reduceIte, reduceCtorEq, Nat.reduceAdd, Int.reduceLT, Int.reduceNeg, valloc_std, noSB, vhot, g0, h5, hlen, w1, h8', decide_false]
      exact ⟨_, ps, rfl, hO, by rw [hll, List.append_nil], hk⟩
  have h8' : (8 : Int) ≤ ((b.length - i : Nat) : Int) := by omega
  have w2 : IntKind.i64.wrap ((i : Int) + 8) = ((i + 8 : Nat) : Int) := by rw [wrap_i64 (by omega) (by omega)]; omega
  obtain ⟨vh, hh, bh⟩ := hb.slice (t := 22) T22 S5 (vbounds_lohi (k := .i64) (k' := .i64) (n := (i : Int)) (m := ((i + 8 : Nat) : Int)) (len := b.length) (by omega) (by omega) (by omega)) (by omega) (by omega)
  rw [Int.toNat_natCast, Int.toNat_natCast, show i + 8 - i = 8 from by omega] at bh
  have hhl : ((b.drop i).take 8).length = 8 := by rw [List.length_take, List.length_drop]; omega
  obtain ⟨m1, m2, m3, o1, o2, o3⟩ := size64 (b.getD i 0) (b.getD (i + 1) 0) (b.getD (i + 2) 0) (b.getD (i + 3) 0)
  have hw := w4_pow b i
  rw [← hw] at o3
  clear hw
  generalize hS : (w4 b i).toNat = S at o3
  have t0 : vindexAddr Tryd.prog 22 vh (.int .i64 0) = some (.eptr (((b.drop i).take 8).map byteV) 0) := bh.at' (i := 0) (by omega)
  have t1 : vindexAddr Tryd.prog 22 vh (.int .i64 1) = some (.eptr (((b.drop i).take 8).map byteV) 1) := bh.at' (i := 1) (by omega)
  have t2 : vindexAddr Tryd.prog 22 vh (.int .i64 2) = some (.eptr (((b.drop i).take 8).map byteV) 2) := bh.at' (i := 2) (by omega)
  have t3 : vindexAddr Tryd.prog 22 vh (.int .i64 3) = some (.eptr (((b.drop i).take 8).map byteV) 3) := bh.at' (i := 3) (by omega)
  have t4 : vindexAddr Tryd.prog 22 vh (.int .i64 4) = some (.eptr (((b.drop i).take 8).map byteV) 4) := bh.at' (i := 4) (by omega)
  have t5 : vindexAddr Tryd.prog 22 vh (.int .i64 5) = some (.eptr (((b.drop i).take 8).map byteV) 5) := bh.at' (i := 5) (by omega)
  have t6 : vindexAddr Tryd.prog 22 vh (.int .i64 6) = some (.eptr (((b.drop i).take 8).map byteV) 6) := bh.at' (i := 6) (by omega)
  have t7 : vindexAddr Tryd.prog 22 vh (.int .i64 7) = some (.eptr (((b.drop i).take 8).map byteV) 7) := bh.at' (i := 7) (by omega)
  have ld : ∀ (objs : List Ob) (j : Nat) (hj : j < 8), vload Tryd.prog objs 5 (.eptr (((b.drop i).take 8).map byteV) j) = some (.int .u8 ((b.getD (i + j) 0).toNat : Nat)) := fun objs j hj => by
    rw [byte_ld (by omega), hdr_get hj (by omega)]
  have l0 := fun objs => ld objs 0 (by omega)
  rw [Nat.add_zero] at l0
  have l1 := fun objs => ld objs 1 (by omega)
  have l2 := fun objs => ld objs 2 (by omega)
  have l3 := fun objs => ld objs 3 (by omega)
  have l4 := fun objs => ld objs 4 (by omega)
  have l5 := fun objs => ld objs 5 (by omega)
  have l6 := fun objs => ld objs 6 (by omega)
  have l7 := fun objs => ld objs 7 (by omega)
  simp only [k30_a, WK, vop, evAll, evOpt, evParts, vbuiltin, vun, vextract, Nat.reduceLT, Nat.reduceEqDiff, ↓reduceIte, reduceCtorEq, Nat.reduceAdd, Int.reduceLT, Int.reduceNeg, valloc_std, noSB, vhot, g0, h5, hlen, w1, h8', decide_true, w2, T22, hh, t0, t1, t2, t3, l0, l1, l2, l3, conv83, m1, m2, m3, o1, o2, o3]
  clear m1 m2 m3 o1 o2 o3 l0 l1 l2 l3 t0 t1 t2 t3
  by_cases hbig : 65536 < S
  · have hbig' : (65536 : Int) < (S : Nat) := Int.ofNat_lt.2 hbig
    have hn : recAt b i = none := by unfold recAt; rw [if_neg h8, hS, if_pos (.inl hbig)]
    cases hr with
    | more h _ => rw [hn] at h; cases h
    | stop h =>
      simp only [k30_a, WK, vop, evAll, evOpt, evParts, vbuiltin, vun, vextract, Nat.reduceLT, Nat.reduceEqDiff, ↓reduceIte, reduceCtorEq, Nat.reduceAdd, Int.reduceLT, Int.reduceNeg, valloc_std, noSB, vhot, g0, h5, hbig', decide_true]
      exact ⟨_, ps, rfl, hO, by rw [hll, List.append_nil], hk⟩
  have hbig' : ¬ (65536 : Int) < (S : Nat) := fun h => hbig (Int.ofNat_lt.1 h)
  have w3 : IntKind.i64.wrap (((b.length - i : Nat) : Int) - 8) = ((b.length - i - 8 : Nat) : Int) := by rw [wrap_i64 (by omega) (by omega)]; omega
  by_cases hlong : b.length < i + 8 + S
  · have hlong' : ((b.length - i - 8 : Nat) : Int) < (S : Nat) := by omega
    have hn : recAt b i = none := by unfold recAt; rw [if_neg h8, hS, if_pos (.inr hlong)]
    cases hr with
    | more h _ => rw [hn] at h; cases h
    | stop h =>
      simp only [k30_a, WK, vop, evAll, evOpt, evParts, vbuiltin, vun, vextract, Nat.reduceLT, Nat.reduceEqDiff, ↓reduceIte, reduceCtorEq, Nat.reduceAdd, Int.reduceLT, Int.reduceNeg, valloc_std, noSB, vhot, g0, h5, hlen, w1, w3, hbig', hlong', decide_true, decide_false]
      exact ⟨_, ps, rfl, hO, by rw [hll, List.append_nil], hk⟩
  have hlong' : ¬ ((b.length - i - 8 : Nat) : Int) < (S : Nat) := by omega
  have w4' : IntKind.i64.wrap (((i + 8 : Nat) : Int) + (S : Nat)) = ((i + 8 + S : Nat) : Int) := by rw [wrap_i64 (by omega) (by omega)]; omega
  obtain ⟨vr, hvr, br⟩ := hb.slice (t := 22) T22 S5 (vbounds_lohi (k := .i64) (k' := .i64) (n := ((i + 8 : Nat) : Int)) (m := ((i + 8 + S : Nat) : Int)) (len := b.length) (by omega) (by omega) (by omega)) (by omega) (by omega)
  rw [Int.toNat_natCast, Int.toNat_natCast, show i + 8 + S - (i + 8) = S from by omega] at br
  have hrl : ((b.drop (i + 8)).take S).length = S := by rw [List.length_take, List.length_drop]; omega
  have hs := crcsum_does (σ := s) br (by omega)
  simp only [k30_a, WK, vop, evAll, evOpt, evParts, vbuiltin, vun, vextract, Nat.reduceLT, Nat.reduceEqDiff, ↓reduceIte, reduceCtorEq, Nat.reduceAdd, Int.reduceLT, Int.reduceNeg, valloc_std, noSB, vhot, g0, h5, hlen, w1, w2, w3, w4', hbig', hlong', decide_false, T22, hvr]
  refine KD.ret hs ?_
  have hwe : BitVec.ofNat 32 (b.getD (i + 4) 0).toNat ||| BitVec.ofNat 32 (b.getD (i + 5) 0).toNat <<< 8 ||| BitVec.ofNat 32 (b.getD (i + 6) 0).toNat <<< 16 ||| BitVec.ofNat 32 (b.getD (i + 7) 0).toNat <<< 24 = w4 b (i + 4) := rfl
  by_cases hc : crcSum ((b.drop (i + 8)).take S) = w4 b (i + 4)
  · have hn : recAt b i = some S := by unfold recAt; rw [if_neg h8, hS, if_neg (by omega), if_pos hc]
    have hc' : (((crcSum ((b.drop (i + 8)).take S)).toNat : Nat) : Int) = (((w4 b (i + 4)).toNat : Nat) : Int) := by rw [hc]
    cases hr with
    | stop h => rw [hn] at h; cases h
    | more h hr' =>
      rw [hn] at h
      injection h with h
      subst h
      rename_i rest'
      obtain ⟨v5, s5, a1, a2, a3, a4⟩ := OwnV.append' (P := Tryd.prog) (t := 22) (t2 := 22) BT (σ := s) (show OwnV 5 s.toks.length s (.slice .exact 1 [] 0) [] from .inr ⟨.exact, rfl, .inl rfl⟩) (σ0 := s) rfl (Keep.refl s) T22 br (by simp; omega)
      rw [List.nil_append] at a2
      obtain ⟨v6, s6, b1, b2, b3, b4⟩ := (hO.keep a3.2.2).app (s0 := σ) rfl (hk.trans a3) a2.bts (by omega)
      have w5 : IntKind.i64.wrap (8 + ((S : Nat) : Int)) = ((8 + S : Nat) : Int) := by rw [wrap_i64 (by omega) (by omega)]; omega
      have w6 : IntKind.i64.wrap (((i : Nat) : Int) + ((8 + S : Nat) : Int)) = ((i + 8 + S : Nat) : Int) := by rw [wrap_i64 (by omega) (by omega)]; omega
      simp only [k30_a, WK, vop, evAll, evOpt, evParts, vbuiltin, vun, vextract, Nat.reduceLT, Nat.reduceEqDiff, ↓reduceIte, reduceCtorEq, Nat.reduceAdd, Int.reduceLT, Int.reduceNeg, valloc_std, noSB, vhot, uV, t4, t5, t6, t7, l4, l5, l6, l7, conv832, shl8, shl16, shl24, bit_or, hwe, hc', eq_self, decide_true, Bool.not_true, build0 BT, a1, mkRows1 v5 a2.bts.one, b1, h5, w5, w6]
      refine ⟨i + 8 + S, ⟨by simp [upd_some], by omega, _, rest', by simpa [upd_some] using b2, hr', ?_, by simp; omega, b3⟩, by omega⟩
      rw [hll]
      simp
  · have hn : recAt b i = none := by unfold recAt; rw [if_neg h8, hS, if_neg (by omega), if_neg hc]
    have hc' : ¬ (((crcSum ((b.drop (i + 8)).take S)).toNat : Nat) : Int) = (((w4 b (i + 4)).toNat : Nat) : Int) := fun h => hc ((toNat_eq _ _).1 h)
    cases hr with
    | more h _ => rw [hn] at h; cases h
    | stop h =>
      simp only [k30_a, WK, vop, evAll, evOpt, evParts, vbuiltin, vun, vextract, Nat.reduceLT, Nat.reduceEqDiff, ↓reduceIte, reduceCtorEq, Nat.reduceAdd, Int.reduceLT, Int.reduceNeg, valloc_std, noSB, vhot, uV, t4, t5, t6, t7, l4, l5, l6, l7, conv832, shl8, shl16, shl24, bit_or, hwe, hc', decide_false, Bool.not_false, h5]
      exact ⟨_, ps, rfl, hO, by rw [hll, List.append_nil], hk⟩
end Go.Proofs.YtnegdinonfjdfaaDoor.Q

/- Records of the document; WalFrames. -/
set_option linter.unusedVariables false
set_option linter.unusedSimpArgs false
set_option maxRecDepth 100000
namespace Go.Proofs.YtnegdinonfjdfaaDoor.Q
open Go Go.RowKit Go.Proofs
theorem alike4_does {σ : St} {v w : V} {ps qs : List BV} (hv : PtsV v ps) (hw : PtsV w qs) (hp : ∀ p ∈ ps, BtsV p.1 p.2) (hq : ∀ p ∈ qs, BtsV p.1 p.2) (he : ps.map Prod.snd = qs.map Prod.snd) (hl : ps.length ≤ 1000000000) (hs : ∀ p ∈ ps, p.2.length ≤ 1000000000) :
    Does Tryd.prog prims 35 [v, w] σ (.ret (.bool true)) σ := by
  apply k35_is.ret (by simp)
  have hll : qs.length = ps.length := by
    have := congrArg List.length he
    simpa using this.symm
  have hlv := hv.len
  have hlw := hw.len
  rw [hll] at hlw
  simp only [k35_a, WK, vop, evAll, evOpt, evParts, vbuiltin, vun, vextract, Nat.reduceLT, Nat.reduceEqDiff, ↓reduceIte, reduceCtorEq, Nat.reduceAdd, Int.reduceLT, Int.reduceNeg, valloc_std, noSB, vhot, List.getD_cons_zero, List.getD_cons_succ, hlv, hlw, eq_self, decide_true, Bool.not_true]
  refine Ev.loopF (fun (i : Nat) e s => e 13 = .int .i64 (i : Nat) ∧ i ≤ ps.length ∧ s = σ) (fun i => ps.length - i) 0 ⟨by simp [upd_some], Nat.zero_le _, rfl⟩ ?_
  rintro i e s ⟨h13, hi, rfl⟩ hf
  have g0 : e 0 = v := (hf 0 (by decide)).trans (by simp [upd_some])
  have g1 : e 1 = w := (hf 1 (by decide)).trans (by simp [upd_some])
  have g12 : e 12 = .int .i64 (ps.length : Nat) := (hf 12 (by decide)).trans (by simp [upd_some])
  clear hf
  by_cases hlt : i < ps.length
  · have hlt' : (i : Int) < (ps.length : Nat) := by omega
    have hlq : i < qs.length := by omega
    have hwi : IntKind.i64.wrap ((i : Int) + 1) = ((i + 1 : Nat) : Int) := by rw [wrap_i64 (by omega) (by omega)]; omega
    have hee : ps[i].2 = qs[i].2 := by
      have : (ps.map Prod.snd)[i]? = (qs.map Prod.snd)[i]? := by rw [he]
      rw [List.getElem?_map, List.getElem?_map, List.getElem?_eq_getElem hlt, List.getElem?_eq_getElem hlq] at this
      simpa using this
    have sm := same4_does (.inl (hp _ (List.getElem_mem hlt)) : RB s ps[i].1 ps[i].2) (.inl (hq _ (List.getElem_mem hlq)) : RB s qs[i].1 qs[i].2) (by have := hs _ (List.getElem_mem hlt); omega)
    rw [decide_eq_true hee] at sm
    simp only [k35_a, WK, vop, evAll, evOpt, evParts, vbuiltin, vun, vextract, Nat.reduceLT, Nat.reduceEqDiff, ↓reduceIte, reduceCtorEq, Nat.reduceAdd, Int.reduceLT, Int.reduceNeg, valloc_std, noSB, vhot, h13, g12, g0, g1, hlt', decide_true, hv.addr hlt, PtsV.load hlt, hw.addr hlq, PtsV.load hlq]
    refine KD.ret sm ?_
    simp only [k35_a, WK, vop, evAll, evOpt, evParts, vbuiltin, vun, vextract, Nat.reduceLT, Nat.reduceEqDiff, ↓reduceIte, reduceCtorEq, Nat.reduceAdd, Int.reduceLT, Int.reduceNeg, valloc_std, noSB, vhot, h13, g12, g0, g1, hlt', decide_true, Bool.not_true, hwi]
    exact ⟨i + 1, ⟨by simp [upd_some], by omega⟩, by omega⟩
  · have hlt' : ¬ (i : Int) < (ps.length : Nat) := by omega
    simp only [k35_a, WK, vop, evAll, evOpt, evParts, vbuiltin, vun, vextract, Nat.reduceLT, Nat.reduceEqDiff, ↓reduceIte, reduceCtorEq, Nat.reduceAdd, Int.reduceLT, Int.reduceNeg, valloc_std, noSB, vhot, h13, g12, hlt', decide_false]
theorem recs_le {b : List UInt8} {i e : Nat} {l : List (List UInt8)} (h : Recs b i l e) : (∀ r ∈ l, r.length ≤ b.length) ∧ l.length + i ≤ max b.length i := by
  induction h with
  | stop h => exact ⟨fun r hr => absurd hr List.not_mem_nil, by simp only [List.length_nil]; omega⟩
  | more h r ih =>
    have := recAt_some h
    refine ⟨fun r hr => ?_, by have := ih.2; simp only [List.length_cons]; omega⟩
    rcases List.mem_cons.1 hr with rfl | hr
    · rw [List.length_take, List.length_drop]; omega
    · exact ih.1 r hr
end Go.Proofs.YtnegdinonfjdfaaDoor.Q

/- Save. -/
set_option linter.unusedVariables false
set_option linter.unusedSimpArgs false
set_option maxRecDepth 100000
namespace Go.Proofs.YtnegdinonfjdfaaDoor.Q
open Go Go.RowKit Go.Proofs
def numZ (name : List UInt8) : Int := match numP 115 name with
  | some m => (m : Int)
  | none => -1
/-! ### Plainly -/
def dr : List UInt8 := [100, 114, 97, 102, 116]
def thenD (r : Nat × Dk) (f : Dk → Nat × Dk) : Nat × Dk := if r.1 ≠ 0 then r else f r.2
def rmDraft (d : Dk) : Nat × Dk := if (readD dr d).1 = 0 then removeD dr d else (0, d)
def purgeD (n : Int) : List (List UInt8) → Dk → Nat × Dk
  | [], d => (0, d)
  | x :: l, d => if numZ x < 0 ∨ numZ x = n then purgeD n l d else thenD (removeD x d) (purgeD n l)
def saveRest3 (n : Int) (d3 : Dk) : Nat × Dk := thenD (renameD dr (nameP 115 0 n) d3) fun d4 => purgeD n (namesD d4) d4
def saveRest2 (n : Int) (d2 : Dk) : Nat × Dk := thenD (syncD dr d2) (saveRest3 n)
def saveRest (n : Int) (body : List UInt8) (d1 : Dk) : Nat × Dk := thenD (appendD dr (encS n body) d1) (saveRest2 n)
def saveD (n : Int) (body : List UInt8) (d : Dk) : Nat × Dk :=
  if nameP 115 0 n = [] then (1, d) else
  if 1048564 < body.length then (3, d) else
  if d.on = false then (20, d) else
  thenD (rmDraft d) fun d1 => thenD (appendD dr (encS n body) d1) fun d2 => thenD (syncD dr d2) fun d3 => thenD (renameD dr (nameP 115 0 n) d3) fun d4 => purgeD n (namesD d4) d4
end Go.Proofs.YtnegdinonfjdfaaDoor.Q

/- Load. -/
set_option linter.unusedVariables false
set_option linter.unusedSimpArgs false
set_option maxRecDepth 100000
namespace Go.Proofs.YtnegdinonfjdfaaDoor.Q
open Go Go.RowKit Go.Proofs
def loadN (d : Dk) : List (List UInt8) → Int × List UInt8 → Int × List UInt8
  | [], a => a
  | x :: l, a => if numZ x < 0 then loadN d l a else if (decS (numZ x) (readD x d).2).2 = 0 then loadN d l (numZ x, (decS (numZ x) (readD x d).2).1) else loadN d l a
def loadD (d : Dk) : (Int × List UInt8) × Nat := if d.on = false then ((0, []), 20) else (loadN d (namesD d) (-1, []), 0)
theorem vice_int (σ : St) (k : IntKind) (n : Int) : vice σ (.int k n) = none := rfl
/-- What was read is not written any more. -/
theorem iced {σ : St} {v : V} {q : Option Nat} {bs : List UInt8} (h : rowOf σ.objs v = some (q, bs.map byteV)) : ∃ v' σ', (vice σ v = some (v', σ') ∨ (vice σ v = none ∧ v' = v ∧ σ' = σ)) ∧ BtsV v' bs ∧ KS q.toList σ σ' := by
  rcases rowOf_spec h with ⟨rfl, rfl, e⟩ | ⟨r, full, rfl, rfl, hr, hl, hc⟩
  · have : bs = [] := by simpa using e
    subst this
    exact ⟨.nils, σ, .inr ⟨rfl, rfl, rfl⟩, .inl ⟨rfl, rfl⟩, KS.refl _ _⟩
  · refine ⟨.slice .ro 1 (bs.map byteV) bs.length, ⟨σ.objs.set r .dead, σ.toks⟩, .inl ?_, .inr ⟨.ro, rfl⟩, KS.set (.inl (by simp)) _⟩
    simp only [List.length_map] at hl hc ⊢
    simp only [vice, hr, Nat.zero_add]
    rw [if_pos hl, List.drop_zero, ← hc]
end Go.Proofs.YtnegdinonfjdfaaDoor.Q

/- A segment's number; giving up; a segment. -/
set_option linter.unusedVariables false
set_option linter.unusedSimpArgs false
set_option maxRecDepth 100000
namespace Go.Proofs.YtnegdinonfjdfaaDoor.Q
open Go Go.RowKit Go.Proofs
/-! ### Numbers -/
def numW (name : List UInt8) : Nat := (numP 106 name).getD 0
theorem wnumber_sees {σ : St} (name : List UInt8) : ∃ q σ', Does Tryd.prog prims 56 [.str name] σ q σ' ∧ q = .ret (.int .i64 (numW name : Nat)) ∧ KS [] σ σ' := by
  apply k56_is.does (by simp)
  have hl := vlenS name
  by_cases h10 : name.length = 10
  · obtain ⟨b, t, rfl⟩ : ∃ b t, name = b :: t := by
      cases name with
      | nil => simp at h10
      | cons b t => exact ⟨b, t, rfl⟩
    have ht9 : t.length = 9 := by simpa using h10
    have h10' : (((b :: t).length : Nat) : Int) = 10 := by omega
    have hix : vindex Tryd.prog 9 (.str (b :: t)) (.int .i64 0) = some (.int .u8 ((b.toNat : Nat) : Int)) := by simp [vindex, T9]
    by_cases hb : b = 106
    · subst hb
      have hb' : (((106 : UInt8).toNat : Nat) : Int) = 106 := by decide
      have hsl : vslice Tryd.prog 9 (.str (106 :: t)) (some (.int .i64 1)) none none = some (.str t) := by
        have hv := vbounds_lo (k := .i64) (n := 1) (len := (106 :: t : List UInt8).length) (by omega) (by simp only [List.length_cons]; omega)
        simp only [vslice, T9, hv]
        simp only [show (1 : Int).toNat = 1 from rfl, List.drop_succ_cons, List.drop_zero, List.length_cons]
        rw [List.take_of_length_le (by omega)]
      cases ha : Lib.atoi t with
      | none =>
        have hn := num_none (pre := 106) ht9 ha
        have hz : numW (106 :: t) = 0 := by unfold numW; rw [hn]; rfl
        have hnm : ¬ nameP 106 1 0 = 106 :: t := by unfold nameP; rw [if_pos (by omega)]; intro h; cases h
        simp only [k56_a, WK, vop, evAll, evOpt, evParts, vbuiltin, vun, vextract, Nat.reduceLT, Nat.reduceEqDiff, ↓reduceIte, reduceCtorEq, Nat.reduceAdd, Int.reduceLT, Int.reduceNeg, valloc_std, noSB, vhot, List.getD_cons_zero, List.getD_cons_succ, hl, h10', eq_self, decide_true, Bool.not_true, hix, hb', hsl, T9]
        refine KD.ret (atoi_none (by omega) ha) ?_
        simp only [k56_a, WK, vop, evAll, evOpt, evParts, vbuiltin, vun, vextract, Nat.reduceLT, Nat.reduceEqDiff, ↓reduceIte, reduceCtorEq, Nat.reduceAdd, Int.reduceLT, Int.reduceNeg, valloc_std, noSB, vhot, List.getD_cons_zero, List.getD_cons_succ]
        refine KD.ret (wname_does 0) ?_
        simp only [k56_a, WK, vop, evAll, evOpt, evParts, vbuiltin, vun, vextract, Nat.reduceLT, Nat.reduceEqDiff, ↓reduceIte, reduceCtorEq, Nat.reduceAdd, Int.reduceLT, Int.reduceNeg, valloc_std, noSB, vhot, List.getD_cons_zero, List.getD_cons_succ, sbN, hnm, decide_false, Bool.not_false, hz, Int.natCast_zero]
        first | exact ⟨trivial, KS.push _ _ _⟩ | exact KS.push _ _ _
      | some m =>
        obtain ⟨n1, n2⟩ := num_some (pre := 106) ht9 ha
        simp only [k56_a, WK, vop, evAll, evOpt, evParts, vbuiltin, vun, vextract, Nat.reduceLT, Nat.reduceEqDiff, ↓reduceIte, reduceCtorEq, Nat.reduceAdd, Int.reduceLT, Int.reduceNeg, valloc_std, noSB, vhot, List.getD_cons_zero, List.getD_cons_succ, hl, h10', eq_self, decide_true, Bool.not_true, hix, hb', hsl, T9]
        refine KD.ret (atoi_some (by omega) ha) ?_
        simp only [k56_a, WK, vop, evAll, evOpt, evParts, vbuiltin, vun, vextract, Nat.reduceLT, Nat.reduceEqDiff, ↓reduceIte, reduceCtorEq, Nat.reduceAdd, Int.reduceLT, Int.reduceNeg, valloc_std, noSB, vhot, List.getD_cons_zero, List.getD_cons_succ]
        refine KD.ret (wname_does m) ?_
        by_cases hnm : nameP 106 1 m = 106 :: t
        · have hm1 : 1 ≤ m := by
            unfold nameP at hnm
            split at hnm
            · cases hnm
            · omega
          have h0 : nameP 106 0 m = 106 :: t := by
            unfold nameP at hnm ⊢
            split at hnm
            · cases hnm
            · rw [if_neg (by omega)]; exact hnm
          obtain ⟨g1, g2, g3⟩ := n1 h0.symm
          have hz : ((numW (106 :: t) : Nat) : Int) = m := by unfold numW; rw [g3]; simp only [Option.getD_some]; omega
          simp only [k56_a, WK, vop, evAll, evOpt, evParts, vbuiltin, vun, vextract, Nat.reduceLT, Nat.reduceEqDiff, ↓reduceIte, reduceCtorEq, Nat.reduceAdd, Int.reduceLT, Int.reduceNeg, valloc_std, noSB, vhot, List.getD_cons_zero, List.getD_cons_succ, sbN, hnm, eq_self, decide_true, Bool.not_true, hz]
          first | exact ⟨trivial, KS.refl _ _⟩ | exact KS.refl _ _
        · have hz : numW (106 :: t) = 0 := by
            by_cases h0 : nameP 106 0 m = 106 :: t
            · obtain ⟨g1, g2, g3⟩ := n1 h0.symm
              have : m = 0 := by
                refine Classical.byContradiction fun hm => hnm ?_
                unfold nameP at h0 ⊢
                rw [if_neg (by omega)] at h0 ⊢
                exact h0
              unfold numW
              rw [g3, this]
              rfl
            · unfold numW; rw [n2 (fun h => h0 h.symm)]; rfl
          simp only [k56_a, WK, vop, evAll, evOpt, evParts, vbuiltin, vun, vextract, Nat.reduceLT, Nat.reduceEqDiff, ↓reduceIte, reduceCtorEq, Nat.reduceAdd, Int.reduceLT, Int.reduceNeg, valloc_std, noSB, vhot, List.getD_cons_zero, List.getD_cons_succ, sbN, hnm, decide_false, Bool.not_false, hz, Int.natCast_zero]
          first | exact ⟨trivial, KS.refl _ _⟩ | exact KS.refl _ _
    · have hb' : ¬ ((b.toNat : Nat) : Int) = 106 := fun h => hb (by apply UInt8.toNat_inj.1; have : (106 : UInt8).toNat = 106 := rfl; omega)
      have hz : numW (b :: t) = 0 := by
        unfold numW numP
        simp only
        rw [if_neg (fun h => hb h.1)]
        rfl
      simp only [k56_a, WK, vop, evAll, evOpt, evParts, vbuiltin, vun, vextract, Nat.reduceLT, Nat.reduceEqDiff, ↓reduceIte, reduceCtorEq, Nat.reduceAdd, Int.reduceLT, Int.reduceNeg, valloc_std, noSB, vhot, List.getD_cons_zero, List.getD_cons_succ, hl, h10', eq_self, decide_true, decide_false, Bool.not_true, Bool.not_false, hix, hb', hz, Int.natCast_zero]
      first | exact ⟨trivial, KS.refl _ _⟩ | exact KS.refl _ _
  · have h10' : ¬ ((name.length : Nat) : Int) = 10 := by omega
    have hz : numW name = 0 := by
      unfold numW numP
      cases name with
      | nil => rfl
      | cons b t => simp only; rw [if_neg (fun h => h10 (by simp [h.2.1]))]; rfl
    simp only [k56_a, WK, vop, evAll, evOpt, evParts, vbuiltin, vun, vextract, Nat.reduceLT, Nat.reduceEqDiff, ↓reduceIte, reduceCtorEq, Nat.reduceAdd, Int.reduceLT, Int.reduceNeg, valloc_std, noSB, vhot, List.getD_cons_zero, List.getD_cons_succ, hl, h10', decide_false, Bool.not_false, hz, Int.natCast_zero]
    first | exact ⟨trivial, KS.refl _ _⟩ | exact KS.refl _ _
/-! ### Giving up -/
def stopV (e : Nat) : V := .iface 102 (.agg [.int .i64 (e : Nat)])
theorem bldS (e : Int) : vbuild Tryd.prog 102 [(0, .int .i64 e)] = some (.agg [.int .i64 e]) := by kernel_rfl
theorem mkS (v : V) : vmakeIface Tryd.prog 102 v = some (.iface 102 v) := by kernel_rfl
theorem must_ok {σ : St} {e : Nat} (he : e = 0) : Does Tryd.prog prims 57 [.int .i64 (e : Nat)] σ (.ret (.tuple [])) σ := by
  subst he
  apply k57_is.ret (by simp)
  simp only [k57_a, WK, vop, evAll, evOpt, evParts, vbuiltin, vun, vextract, Nat.reduceLT, Nat.reduceEqDiff, ↓reduceIte, reduceCtorEq, Nat.reduceAdd, Int.reduceLT, Int.reduceNeg, valloc_std, noSB, vhot, List.getD_cons_zero, List.getD_cons_succ, Int.natCast_zero, eq_self, decide_true, Bool.not_true]
theorem must_pan {σ : St} {e : Nat} (he : e ≠ 0) : Does Tryd.prog prims 57 [.int .i64 (e : Nat)] σ (.pan (stopV e)) σ := by
  have key : ∃ q σ', Does Tryd.prog prims 57 [.int .i64 (e : Nat)] σ q σ' ∧ q = .pan (stopV e) ∧ σ' = σ := by
    apply k57_is.does (by simp)
    have he' : ¬ ((e : Nat) : Int) = 0 := by omega
    simp only [k57_a, WK, vop, evAll, evOpt, evParts, vbuiltin, vun, vextract, Nat.reduceLT, Nat.reduceEqDiff, ↓reduceIte, reduceCtorEq, Nat.reduceAdd, Int.reduceLT, Int.reduceNeg, valloc_std, noSB, vhot, List.getD_cons_zero, List.getD_cons_succ, he', decide_false, Bool.not_false, bldS, mkS]
    first | rfl | exact ⟨rfl, rfl⟩
  obtain ⟨q, σ', h, rfl, rfl⟩ := key
  exact h
/-! ### A segment -/
def recsK (b : List UInt8) : Nat → Nat → List (List UInt8) × Nat
  | 0, i => ([], i)
  | k + 1, i => match recAt b i with
    | none => ([], i)
    | some n => ((b.drop (i + 8)).take n :: (recsK b k (i + 8 + n)).1, (recsK b k (i + 8 + n)).2)
def recsB (b : List UInt8) : List (List UInt8) × Nat := recsK b (b.length + 1) 0
theorem recsK_is (b : List UInt8) : ∀ k i, b.length < i + k → Recs b i (recsK b k i).1 (recsK b k i).2
  | 0, i, h => by
    refine .stop ?_
    unfold recAt
    rw [if_pos (by omega)]
  | k + 1, i, h => by
    rw [recsK]
    cases hr : recAt b i with
    | none => exact .stop hr
    | some n => exact .more hr (recsK_is b k _ (by omega))
theorem recsB_is (b : List UInt8) : Recs b 0 (recsB b).1 (recsB b).2 := recsK_is b _ 0 (by omega)
def segD (n : List UInt8) (d : Dk) : (Nat × List (List UInt8)) × Dk :=
  if (readD n d).1 ≠ 0 then (((readD n d).1, []), d) else
  let t : Nat × Dk := if (recsB (readD n d).2).2 < (readD n d).2.length then truncD n ((recsB (readD n d).2).2 : Nat) d else (0, d)
  if t.1 ≠ 0 then ((t.1, []), t.2) else
  if (syncD n t.2).1 ≠ 0 then (((syncD n t.2).1, []), (syncD n t.2).2) else ((0, (recsB (readD n d).2).1), (syncD n t.2).2)
theorem segment_sees {σ : St} {r rm : Nat} {d : Dk} {fs : List Ent} (n : List UInt8) (h : DiskAt σ r d rm fs) (hok : d.Ok) (hw : d.writes ≤ 1000000000) :
    ∃ q σ', Does Tryd.prog prims 58 [.optr r 0, .str n] σ q σ' ∧ (Next σ r rm fs σ' (segD n d).2 ∧ (((segD n d).1.1 = 0 ∧ ∃ w ps, q = .ret w ∧ PtsV w ps ∧ (∀ p ∈ ps, BtsV p.1 p.2) ∧ ps.map Prod.snd = (segD n d).1.2) ∨ ((segD n d).1.1 ≠ 0 ∧ q = .pan (stopV (segD n d).1.1)))) := by
  suffices key : ∀ P : VRes → St → Prop, (∀ q σ', (Next σ r rm fs σ' (segD n d).2 ∧ (((segD n d).1.1 = 0 ∧ ∃ w ps, q = .ret w ∧ PtsV w ps ∧ (∀ p ∈ ps, BtsV p.1 p.2) ∧ ps.map Prod.snd = (segD n d).1.2) ∨ ((segD n d).1.1 ≠ 0 ∧ q = .pan (stopV (segD n d).1.1)))) → P q σ') → ∃ q σ', Does Tryd.prog prims 58 [.optr r 0, .str n] σ q σ' ∧ P q σ' from key _ fun _ _ h => h
  intro P hP
  apply k58_is.does (by simp)
  obtain ⟨q1, s1, c1, v1, o1, rfl, n1, K1, I1⟩ := read_sees (n := n) h hok
  obtain ⟨v2, s2, ei, b2, K2⟩ := iced n1
  have K12 : KS [] σ s2 := K1.trans K2 (fun y hy => .inr (I1 y hy))
  have D2 := h.pushes K12
  have hrl := readD_len hok n
  obtain ⟨J, hJ⟩ : ∃ J, J = seqC Tryd.prog prims 36 ((.seq (.region k58_r6) (.seq (.region k58_r7) .ret)) : CC) (fnK Tryd.prog 36 [ResultVar.tmp 4] P) := ⟨_, rfl⟩
  obtain ⟨K, hK⟩ : ∃ K, K = seqC Tryd.prog prims 36 ((.seq (.region k58_r2) (.seq (.region k58_r3) (.seq (.seq (.region k58_r4) (.cond (.tmp 25) (.region k58_r5) .skip)) (.seq (.region k58_r6) (.seq (.region k58_r7) .ret))))) : CC) (fnK Tryd.prog 36 [ResultVar.tmp 4] P) := ⟨_, rfl⟩
  have rest : ∀ (e : Nat → V), e 0 = .optr r 0 → e 1 = .str n → e 5 = v2 → e 6 = .int .i64 ((readD n d).1 : Nat) → K .normal e s2 := by
    intro e g0 g1 g5 g6
    rw [hK]
    by_cases hr : (readD n d).1 = 0
    rotate_left
    · have e0 : segD n d = (((readD n d).1, []), d) := by unfold segD; rw [if_pos hr]
      simp only [k58_a, WK, vop, evAll, evOpt, evParts, vbuiltin, vun, vextract, Nat.reduceLT, Nat.reduceEqDiff, ↓reduceIte, reduceCtorEq, Nat.reduceAdd, Int.reduceLT, Int.reduceNeg, valloc_std, noSB, vhot, g6]
      refine KD.pan (must_pan hr) ?_
      simp only [k58_a, WK, vop, evAll, evOpt, evParts, vbuiltin, vun, vextract, Nat.reduceLT, Nat.reduceEqDiff, ↓reduceIte, reduceCtorEq, Nat.reduceAdd, Int.reduceLT, Int.reduceNeg, valloc_std, noSB, vhot]
      exact hP _ _ ⟨by rw [e0]; exact ⟨fs, D2, K12.nils, fun y hy => .inl hy⟩, .inr ⟨by rw [e0]; exact hr, by rw [e0]⟩⟩
    obtain ⟨q3, s3, c3, w, ps, rfl, O3, P3, K3⟩ := records_sees (σ := s2) b2 (by omega) (recsB_is _)
    have D3 := D2.pushes (K3.ks [])
    have K13 : KS [] σ s3 := K12.trans' (K3.ks [])
    have hen := (recs_le (recsB_is (readD n d).2)).2
    have hlen := b2.len T22
    have back : ∀ (e : Nat → V) (s4 : St) (t : Nat × Dk) (fs4 : List Ent), e 0 = .optr r 0 → e 1 = .str n → e 7 = w → DiskAt s4 r t.2 rm fs4 → t.2.Ok → t.2.writes ≤ 1000000001 → Next σ r rm fs s4 t.2 → KS (foot r rm fs) σ s4 → (∀ y ∈ foot r rm fs4, y ∈ foot r rm fs ∨ σ.objs.length ≤ y) → t.1 = 0 → t = (if (recsB (readD n d).2).2 < (readD n d).2.length then truncD n ((recsB (readD n d).2).2 : Nat) d else (0, d)) → J .normal e s4 := by
      intro e s4 t fs4 g0 g1 g7 D4 ok4 hw4 N4 K4 I4 ht et
      rw [hJ]
      obtain ⟨q5, s5, c5, rfl, fs5, D5, K5, I5⟩ := sync_sees (n := n) D4 ok4 (by omega)
      have N5 : Next σ r rm fs s5 (syncD n t.2).2 := Next.trans K4 I4 ⟨fs5, D5, K5, I5⟩
      simp only [k58_a, WK, vop, evAll, evOpt, evParts, vbuiltin, vun, vextract, Nat.reduceLT, Nat.reduceEqDiff, ↓reduceIte, reduceCtorEq, Nat.reduceAdd, Int.reduceLT, Int.reduceNeg, valloc_std, noSB, vhot, g0, g1]
      refine KD.ret c5 ?_
      simp only [k58_a, WK, vop, evAll, evOpt, evParts, vbuiltin, vun, vextract, Nat.reduceLT, Nat.reduceEqDiff, ↓reduceIte, reduceCtorEq, Nat.reduceAdd, Int.reduceLT, Int.reduceNeg, valloc_std, noSB, vhot]
      by_cases hy : (syncD n t.2).1 = 0
      · have e0 : segD n d = ((0, (recsB (readD n d).2).1), (syncD n t.2).2) := by
          unfold segD
          rw [if_neg (by omega)]
          simp only
          rw [← et, if_neg (by omega), if_neg (by omega)]
        refine KD.ret (must_ok hy) ?_
        simp only [k58_a, WK, vop, evAll, evOpt, evParts, vbuiltin, vun, vextract, Nat.reduceLT, Nat.reduceEqDiff, ↓reduceIte, reduceCtorEq, Nat.reduceAdd, Int.reduceLT, Int.reduceNeg, valloc_std, noSB, vhot, g7]
        exact hP _ _ ⟨by rw [e0]; exact N5, .inl ⟨by rw [e0], w, ps, rfl, O3.pts, O3.b, by rw [e0]; exact P3⟩⟩
      · have e0 : segD n d = (((syncD n t.2).1, []), (syncD n t.2).2) := by
          unfold segD
          rw [if_neg (by omega)]
          simp only
          rw [← et, if_neg (by omega), if_pos hy]
        refine KD.pan (must_pan hy) ?_
        simp only [k58_a, WK, vop, evAll, evOpt, evParts, vbuiltin, vun, vextract, Nat.reduceLT, Nat.reduceEqDiff, ↓reduceIte, reduceCtorEq, Nat.reduceAdd, Int.reduceLT, Int.reduceNeg, valloc_std, noSB, vhot]
        exact hP _ _ ⟨by rw [e0]; exact N5, .inr ⟨by rw [e0]; exact hy, by rw [e0]⟩⟩
    simp only [k58_a, WK, vop, evAll, evOpt, evParts, vbuiltin, vun, vextract, Nat.reduceLT, Nat.reduceEqDiff, ↓reduceIte, reduceCtorEq, Nat.reduceAdd, Int.reduceLT, Int.reduceNeg, valloc_std, noSB, vhot, g6]
    refine KD.ret (must_ok hr) ?_
    simp only [k58_a, WK, vop, evAll, evOpt, evParts, vbuiltin, vun, vextract, Nat.reduceLT, Nat.reduceEqDiff, ↓reduceIte, reduceCtorEq, Nat.reduceAdd, Int.reduceLT, Int.reduceNeg, valloc_std, noSB, vhot, g5]
    refine KD.ret c3 ?_
    simp only [k58_a, WK, vop, evAll, evOpt, evParts, vbuiltin, vun, vextract, Nat.reduceLT, Nat.reduceEqDiff, ↓reduceIte, reduceCtorEq, Nat.reduceAdd, Int.reduceLT, Int.reduceNeg, valloc_std, noSB, vhot, g5, hlen]
    by_cases hc : (recsB (readD n d).2).2 < (readD n d).2.length
    · have hc' : (((recsB (readD n d).2).2 : Nat) : Int) < ((readD n d).2.length : Nat) := by omega
      obtain ⟨q4, s4, c4, rfl, fs4, D4, K4, I4⟩ := trunc_sees (n := n) (k := ((recsB (readD n d).2).2 : Nat)) D3 hok (by omega)
      obtain ⟨ok4, hw4⟩ := trunc_ok (n := n) (k := ((recsB (readD n d).2).2 : Nat)) hok
      have I4' : ∀ y ∈ foot r rm fs4, y ∈ foot r rm fs ∨ σ.objs.length ≤ y := fun y hy => by
        rcases I4 y hy with h | h
        · exact .inl h
        · have := K13.le; exact .inr (by omega)
      have K4' : KS (foot r rm fs) σ s4 := K13.nils.trans' K4
      have N4 : Next σ r rm fs s4 (truncD n ((recsB (readD n d).2).2 : Nat) d).2 := ⟨fs4, D4, K4', I4'⟩
      rw [← hJ]
      simp only [k58_a, WK, vop, evAll, evOpt, evParts, vbuiltin, vun, vextract, Nat.reduceLT, Nat.reduceEqDiff, ↓reduceIte, reduceCtorEq, Nat.reduceAdd, Int.reduceLT, Int.reduceNeg, valloc_std, noSB, vhot, g0, g1, hc', decide_true]
      refine KD.ret c4 ?_
      simp only [k58_a, WK, vop, evAll, evOpt, evParts, vbuiltin, vun, vextract, Nat.reduceLT, Nat.reduceEqDiff, ↓reduceIte, reduceCtorEq, Nat.reduceAdd, Int.reduceLT, Int.reduceNeg, valloc_std, noSB, vhot]
      by_cases ht : (truncD n ((recsB (readD n d).2).2 : Nat) d).1 = 0
      · refine KD.ret (must_ok ht) ?_
        simp only [k58_a, WK, vop, evAll, evOpt, evParts, vbuiltin, vun, vextract, Nat.reduceLT, Nat.reduceEqDiff, ↓reduceIte, reduceCtorEq, Nat.reduceAdd, Int.reduceLT, Int.reduceNeg, valloc_std, noSB, vhot]
        exact back _ s4 _ fs4 (by simp [upd_some, g0]) (by simp [upd_some, g1]) (by simp [upd_some]) D4 ok4 (by omega) N4 K4' I4' ht (by rw [if_pos hc])
      · have e0 : segD n d = (((truncD n ((recsB (readD n d).2).2 : Nat) d).1, []), (truncD n ((recsB (readD n d).2).2 : Nat) d).2) := by
          unfold segD
          rw [if_neg (by omega)]
          simp only
          rw [if_pos hc, if_pos ht]
        refine KD.pan (must_pan ht) ?_
        rw [hJ]
        simp only [k58_a, WK, vop, evAll, evOpt, evParts, vbuiltin, vun, vextract, Nat.reduceLT, Nat.reduceEqDiff, ↓reduceIte, reduceCtorEq, Nat.reduceAdd, Int.reduceLT, Int.reduceNeg, valloc_std, noSB, vhot]
        exact hP _ _ ⟨by rw [e0]; exact N4, .inr ⟨by rw [e0]; exact ht, by rw [e0]⟩⟩
    · have hc' : ¬ (((recsB (readD n d).2).2 : Nat) : Int) < ((readD n d).2.length : Nat) := by omega
      rw [← hJ]
      simp only [k58_a, WK, vop, evAll, evOpt, evParts, vbuiltin, vun, vextract, Nat.reduceLT, Nat.reduceEqDiff, ↓reduceIte, reduceCtorEq, Nat.reduceAdd, Int.reduceLT, Int.reduceNeg, valloc_std, noSB, vhot, g0, g1, hc', decide_false]
      exact back _ s3 (0, d) fs (by simp [upd_some, g0]) (by simp [upd_some, g1]) (by simp [upd_some]) D3 hok (by simp only; omega) ⟨fs, D3, K13.nils, fun y hy => .inl hy⟩ K13.nils (fun y hy => .inl hy) rfl (by rw [if_neg hc])
  simp only [k58_a, WK, vop, evAll, evOpt, evParts, vbuiltin, vun, vextract, Nat.reduceLT, Nat.reduceEqDiff, ↓reduceIte, reduceCtorEq, Nat.reduceAdd, Int.reduceLT, Int.reduceNeg, valloc_std, noSB, vhot, List.getD_cons_zero, List.getD_cons_succ, nilEP]
  rw [← hK]
  refine KD.ret c1 ?_
  rcases ei with ei | ⟨ei, e1, e2⟩
  · simp only [k58_a, WK, vop, evAll, evOpt, evParts, vbuiltin, vun, vextract, Nat.reduceLT, Nat.reduceEqDiff, ↓reduceIte, reduceCtorEq, Nat.reduceAdd, Int.reduceLT, Int.reduceNeg, valloc_std, noSB, vhot, ei, vice_int]
    exact rest _ (by simp [upd_some]) (by simp [upd_some]) (by simp [upd_some]) (by simp [upd_some])
  · simp only [k58_a, WK, vop, evAll, evOpt, evParts, vbuiltin, vun, vextract, Nat.reduceLT, Nat.reduceEqDiff, ↓reduceIte, reduceCtorEq, Nat.reduceAdd, Int.reduceLT, Int.reduceNeg, valloc_std, noSB, vhot, ei, vice_int]
    rw [← e2]
    exact rest _ (by simp [upd_some]) (by simp [upd_some]) (by simp [upd_some, e1]) (by simp [upd_some])
end Go.Proofs.YtnegdinonfjdfaaDoor.Q

/- wal.Open: plainly; what catches the giving up. -/
set_option linter.unusedVariables false
set_option linter.unusedSimpArgs false
set_option maxRecDepth 100000
namespace Go.Proofs.YtnegdinonfjdfaaDoor.Q
open Go Go.RowKit Go.Proofs
/-! ### Plainly -/
structure OpS where
  first : Nat
  wf : Nat
  next : Nat
  brk : Bool
  recs : List (List UInt8)
def OpS.skips (s : OpS) (n : Nat) : Prop := 0 < s.first ∧ (s.brk = true ∨ n ≠ s.next)
instance (s : OpS) (n : Nat) : Decidable (s.skips n) := by unfold OpS.skips; infer_instance
def OpS.more (s : OpS) (n : Nat) (l : List (List UInt8)) : OpS := ⟨if s.first = 0 then n else s.first, n, n + l.length, s.brk, s.recs ++ l⟩
def openL : List (List UInt8) → OpS → Dk → (Nat × OpS) × Dk
  | [], s, d => ((0, s), d)
  | x :: l, s, d =>
    if numW x = 0 then openL l s d else
    if s.skips (numW x) then (if (removeD x d).1 ≠ 0 then (((removeD x d).1, s), (removeD x d).2) else openL l { s with brk := true } (removeD x d).2) else
    if (segD x d).1.1 ≠ 0 then (((segD x d).1.1, s), (segD x d).2) else openL l (s.more (numW x) (segD x d).1.2) (segD x d).2
def op0 : OpS := ⟨0, 1, 1, false, []⟩
def openD (per : Int) (d : Dk) : (Nat × OpS) × Dk :=
  if per < 1 then ((1, op0), d) else
  if d.on = false then ((20, op0), d) else
  openL (namesD d) op0 d
def OpS.from (s : OpS) : Nat := if s.first = 0 then 1 else s.first
theorem numW_le (name : List UInt8) : numW name ≤ 999999999 := by
  unfold numW
  cases h : numP 106 name with
  | none => simp
  | some m => have := (name_num h).2; simp only [Option.getD_some]; omega
theorem seg_ok {n : List UInt8} {d : Dk} (h : d.Ok) : (segD n d).2.Ok ∧ (segD n d).2.writes ≤ d.writes + 2 := by
  have ht : ∀ t : Nat × Dk, t = (if (recsB (readD n d).2).2 < (readD n d).2.length then truncD n ((recsB (readD n d).2).2 : Nat) d else (0, d)) → t.2.Ok ∧ t.2.writes ≤ d.writes + 1 := by
    rintro t rfl
    split
    · exact trunc_ok h
    · exact ⟨h, by simp only; omega⟩
  unfold segD
  split
  · exact ⟨h, by simp only; omega⟩
  · obtain ⟨t, et⟩ : ∃ t : Nat × Dk, t = (if (recsB (readD n d).2).2 < (readD n d).2.length then truncD n ((recsB (readD n d).2).2 : Nat) d else (0, d)) := ⟨_, rfl⟩
    obtain ⟨o1, w1⟩ := ht t et
    obtain ⟨o2, w2⟩ := sync_ok (n := n) o1
    simp only
    rw [← et]
    split
    · exact ⟨o1, by simp only; omega⟩
    · split
      · exact ⟨o2, by simp only; omega⟩
      · exact ⟨o2, by simp only; omega⟩
theorem seg_len {n : List UInt8} {d : Dk} (h : d.Ok) : (segD n d).1.2.length ≤ 1048576 := by
  have hl := readD_len h n
  have hr := (recs_le (recsB_is (readD n d).2)).2
  unfold segD
  split
  · simp
  · obtain ⟨t, et⟩ : ∃ t : Nat × Dk, t = (if (recsB (readD n d).2).2 < (readD n d).2.length then truncD n ((recsB (readD n d).2).2 : Nat) d else (0, d)) := ⟨_, rfl⟩
    simp only
    rw [← et]
    split
    · simp
    · split
      · simp
      · simp only; omega
/-! ### The function whose call is put off -/
theorem GEr : isAggT Tryd.prog 24 = some false := by kernel_rfl
theorem SEr : sizeT Tryd.prog 24 = some 1 := by kernel_rfl
theorem ZSt : zeroT Tryd.prog 102 = some (.agg [.int .i64 0]) := by kernel_rfl
theorem SSt : sizeT Tryd.prog 102 = some 1 := by kernel_rfl
theorem FSt (r : Nat) : vfieldAddr Tryd.prog 102 (.optr r 0) 0 = some (.optr r 0) := by kernel_rfl
theorem SWp : sizeT Tryd.prog 50 = some 1 := by kernel_rfl
theorem GWp : isAggT Tryd.prog 50 = some false := by kernel_rfl
theorem SRs : sizeT Tryd.prog 37 = some 1 := by kernel_rfl
theorem GRs : isAggT Tryd.prog 37 = some false := by kernel_rfl
theorem TAny : Tryd.prog.underlying 20 = some (.interface #[]) := by kernel_rfl
theorem eql_anyIf {t : TypeId} {v : V} {xo : Operand} : vbin Tryd.prog .eql 20 xo (.const .nilIface) (.iface t v) .nili = some (.bool false) := by
  simp [vbin, bothSame, guardFree, aggEq, TAny]
theorem eql_anyNil {xo : Operand} : vbin Tryd.prog .eql 20 xo (.const .nilIface) .nili .nili = some (.bool true) := by
  simp [vbin, bothSame, guardFree, aggEq, TAny, isC]
theorem TAs (v : V) : vtypeAssert Tryd.prog (.iface 102 v) 20 102 true = some (.tuple [v, .bool true]) := by kernel_rfl
theorem wcaught_does {σ : St} {a : Nat} {va : V} (ha : σ.objs[a]? = some (.cells [va])) (e : Nat) : ∃ q σ', Does Tryd.prog prims 55 [.optr a 0, stopV e] σ q σ' ∧ q = .ret (.tuple []) ∧ σ'.objs[a]? = some (.cells [.int .i64 (e : Nat)]) ∧ KS [a] σ σ' := by
  apply k55_is.does (by simp)
  have hla := (List.getElem?_eq_some_iff.1 ha).1
  have oni : ofVal Value.nilIface = some .nili := rfl
  obtain ⟨s1, hs1⟩ : ∃ s1 : St, s1 = ⟨σ.objs ++ [Ob.cells [.int .i64 0]], σ.toks⟩ := ⟨_, rfl⟩
  obtain ⟨s2, hs2⟩ : ∃ s2 : St, s2 = ⟨s1.objs.set σ.objs.length (.cells [.int .i64 (e : Nat)]), s1.toks⟩ := ⟨_, rfl⟩
  have f1 : s1.objs[σ.objs.length]? = some (.cells [.int .i64 0]) := by rw [hs1]; exact push_new _ _
  have k1 : KS [a] σ s1 := by rw [hs1]; exact KS.push _ _ _
  have k2 : KS [a] σ s2 := k1.trans (by rw [hs2]; exact KS.set (S := [σ.objs.length]) (.inl (by simp)) _) (fun x hx => by simp at hx; exact .inr (by omega))
  have hst : vstore Tryd.prog s1 102 (.optr σ.objs.length 0) (.agg [.int .i64 (e : Nat)]) = some s2 := by rw [vstore_agg (cs' := [.int .i64 (e : Nat)]) f1 (by rw [SSt]; rfl) rfl rfl, hs2]
  have f2 : s2.objs[σ.objs.length]? = some (.cells [.int .i64 (e : Nat)]) := by rw [hs2]; exact obj_set f1
  have a2 : s2.objs[a]? = some (.cells [va]) := by
    rw [hs2, hs1]
    simp only
    rw [List.getElem?_set_ne (by omega), List.getElem?_append_left hla]
    exact ha
  have l0 : vload Tryd.prog s2.objs 24 (.optr σ.objs.length 0) = some (.int .i64 (e : Nat)) := by rw [vload_obj f2 GEr]; rfl
  obtain ⟨s3, hs3⟩ : ∃ s3 : St, s3 = ⟨s2.objs.set a (.cells [.int .i64 (e : Nat)]), s2.toks⟩ := ⟨_, rfl⟩
  have hst3 : vstore Tryd.prog s2 24 (.optr a 0) (.int .i64 (e : Nat)) = some s3 := by rw [vstore_obj a2 SEr rfl (by simp), hs3]; rfl
  have hzc : vcells (V.agg [.int .i64 0]) = [.int .i64 0] := rfl
  simp only [k55_a, WK, vop, evAll, evOpt, evParts, vbuiltin, vun, vextract, Nat.reduceLT, Nat.reduceEqDiff, ↓reduceIte, reduceCtorEq, Nat.reduceAdd, Int.reduceLT, Int.reduceNeg, valloc_std, noSB, vhot, List.getD_cons_zero, List.getD_cons_succ, stopV, eql_anyIf, oni, TAs, ZSt, vbox, hzc, ← hs1, hst, FSt, l0, hst3]
  exact ⟨by rw [hs3]; exact obj_set a2, k2.trans' (by rw [hs3]; exact KS.set (.inl (by simp)) _)⟩
theorem wcalm_does {σ : St} {a : Nat} : ∃ q σ', Does Tryd.prog prims 55 [.optr a 0, .nili] σ q σ' ∧ q = .ret (.tuple []) ∧ σ' = σ := by
  apply k55_is.does (by simp)
  have oni : ofVal Value.nilIface = some .nili := rfl
  simp only [k55_a, WK, vop, evAll, evOpt, evParts, vbuiltin, vun, vextract, Nat.reduceLT, Nat.reduceEqDiff, ↓reduceIte, reduceCtorEq, Nat.reduceAdd, Int.reduceLT, Int.reduceNeg, valloc_std, noSB, vhot, List.getD_cons_zero, List.getD_cons_succ, eql_anyNil, oni]
theorem put_cell {σ : St} {a : Nat} {va u : V} {t : TypeId} (h : σ.objs[a]? = some (.cells [va])) (hs : sizeT Tryd.prog t = some 1) (h1 : one u = true) : ∃ σ', vstore Tryd.prog σ t (.optr a 0) u = some σ' ∧ σ'.objs[a]? = some (.cells [u]) ∧ KS [a] σ σ' := by
  refine ⟨⟨σ.objs.set a (.cells [u]), σ.toks⟩, ?_, obj_set h, KS.set (.inl (by simp)) _⟩
  rw [vstore_obj h hs h1 (by simp)]
  rfl
theorem KS.over {S S1 : List Nat} {σ σ1 : St} (h : KS S1 σ σ1) (hs : ∀ x ∈ S1, x ∈ S) : KS S σ σ1 := h.mono fun x hx => .inl (hs x hx)
theorem wopen1_does {σ : St} {g a b c : Nat} {vg va vb vc : V} (hg : σ.objs[g]? = some (.cells [vg])) (ha : σ.objs[a]? = some (.cells [va])) (hb : σ.objs[b]? = some (.cells [vb])) (hc : σ.objs[c]? = some (.cells [vc])) (n1 : g ≠ a) (n2 : g ≠ b) (n3 : g ≠ c) (n4 : a ≠ b) (n5 : a ≠ c) (n6 : b ≠ c) {e : Nat} (he : e ≠ 0) :
    ∃ σ', DoesS Tryd.prog prims 54 [.optr g 0, .optr a 0, .optr b 0, .optr c 0] (some (stopV e, false)) σ (some (stopV e, true)) σ' ∧ σ'.objs[g]? = some (.cells [.int .i64 (e : Nat)]) ∧ σ'.objs[a]? = some (.cells [.nilp]) ∧ σ'.objs[b]? = some (.cells [.nils]) ∧ σ'.objs[c]? = some (.cells [.int .i64 0]) ∧ KS [g, a, b, c] σ σ' := by
  have key : ∃ m' σ', DoesS Tryd.prog prims 54 [.optr g 0, .optr a 0, .optr b 0, .optr c 0] (some (stopV e, false)) σ m' σ' ∧ (m' = some (stopV e, true) ∧ σ'.objs[g]? = some (.cells [.int .i64 (e : Nat)]) ∧ σ'.objs[a]? = some (.cells [.nilp]) ∧ σ'.objs[b]? = some (.cells [.nils]) ∧ σ'.objs[c]? = some (.cells [.int .i64 0]) ∧ KS [g, a, b, c] σ σ') := by
    apply k54_is.does (by simp)
    obtain ⟨q1, s1, c1, rfl, g1, k1⟩ := wcaught_does hg e
    have a1 := k1.ko _ _ (by simp; omega) ha
    have b1 := k1.ko _ _ (by simp; omega) hb
    have d1 := k1.ko _ _ (by simp; omega) hc
    have he' : ¬ ((e : Nat) : Int) = 0 := by omega
    have lg : vload Tryd.prog s1.objs 24 (.optr g 0) = some (.int .i64 (e : Nat)) := by rw [vload_obj g1 GEr]; rfl
    obtain ⟨s2, st2, a2, k2⟩ := put_cell (u := .nilp) a1 SWp rfl
    obtain ⟨s3, st3, b3, k3⟩ := put_cell (u := .nils) (k2.ko _ _ (by simp; omega) b1) SRs rfl
    obtain ⟨s4, st4, d4, k4⟩ := put_cell (u := .int .i64 0) (k3.ko _ _ (by simp; omega) (k2.ko _ _ (by simp; omega) d1)) S3 rfl
    simp only [k54_a, WD, WK, vop, evAll, evOpt, evParts, vbuiltin, vun, vextract, Nat.reduceLT, Nat.reduceEqDiff, ↓reduceIte, reduceCtorEq, Nat.reduceAdd, Int.reduceLT, Int.reduceNeg, valloc_std, noSB, vhot, List.getD_cons_zero, List.getD_cons_succ]
    refine KD.ret c1 ?_
    simp only [k54_a, WD, WK, vop, evAll, evOpt, evParts, vbuiltin, vun, vextract, Nat.reduceLT, Nat.reduceEqDiff, ↓reduceIte, reduceCtorEq, Nat.reduceAdd, Int.reduceLT, Int.reduceNeg, valloc_std, noSB, vhot, List.getD_cons_zero, List.getD_cons_succ, lg, he', decide_false, Bool.not_false, ofNilP, nilEP, st2, st3, st4]
    exact ⟨⟨_, rfl⟩, k4.ko _ _ (by simp; omega) (k3.ko _ _ (by simp; omega) (k2.ko _ _ (by simp; omega) g1)), k4.ko _ _ (by simp; omega) (k3.ko _ _ (by simp; omega) a2), k4.ko _ _ (by simp; omega) b3, d4, (((k1.over (by simp)).trans' (k2.over (by simp))).trans' (k3.over (by simp))).trans' (k4.over (by simp))⟩
  obtain ⟨m', σ', h, rfl, h2⟩ := key
  exact ⟨σ', h, h2⟩
theorem wopen1_calm {σ : St} {g a b c : Nat} (hg : σ.objs[g]? = some (.cells [.int .i64 0])) : DoesS Tryd.prog prims 54 [.optr g 0, .optr a 0, .optr b 0, .optr c 0] none σ none σ := by
  have key : ∃ m' σ', DoesS Tryd.prog prims 54 [.optr g 0, .optr a 0, .optr b 0, .optr c 0] none σ m' σ' ∧ (m' = none ∧ σ' = σ) := by
    apply k54_is.does (by simp)
    obtain ⟨q1, s1, c1, rfl, hs1⟩ := wcalm_does (σ := σ) (a := g)
    rw [hs1] at c1
    have lg : vload Tryd.prog σ.objs 24 (.optr g 0) = some (.int .i64 0) := by rw [vload_obj hg GEr]; rfl
    simp only [k54_a, WD, WK, vop, evAll, evOpt, evParts, vbuiltin, vun, vextract, Nat.reduceLT, Nat.reduceEqDiff, ↓reduceIte, reduceCtorEq, Nat.reduceAdd, Int.reduceLT, Int.reduceNeg, valloc_std, noSB, vhot, List.getD_cons_zero, List.getD_cons_succ]
    refine KD.ret c1 ?_
    simp only [k54_a, WD, WK, vop, evAll, evOpt, evParts, vbuiltin, vun, vextract, Nat.reduceLT, Nat.reduceEqDiff, ↓reduceIte, reduceCtorEq, Nat.reduceAdd, Int.reduceLT, Int.reduceNeg, valloc_std, noSB, vhot, List.getD_cons_zero, List.getD_cons_succ, lg, eq_self, decide_true, Bool.not_true]
    exact ⟨_, rfl⟩
  obtain ⟨m', σ', h, rfl, rfl⟩ := key
  exact h
end Go.Proofs.YtnegdinonfjdfaaDoor.Q

/- wal.Open walked. -/
set_option linter.unusedVariables false
set_option linter.unusedSimpArgs false
set_option maxRecDepth 100000
namespace Go.Proofs.YtnegdinonfjdfaaDoor.Q
open Go Go.RowKit Go.Proofs
theorem cell_load {σ : St} {p : Nat} {v : V} {t : TypeId} (h : σ.objs[p]? = some (.cells [v])) (ha : isAggT Tryd.prog t = some false) : vload Tryd.prog σ.objs t (.optr p 0) = some v := by rw [vload_obj h ha]; rfl
theorem ZWp : zeroT Tryd.prog 50 = some .nilp := by kernel_rfl
theorem ZRs : zeroT Tryd.prog 37 = some .nils := by kernel_rfl
theorem ZIn : zeroT Tryd.prog 3 = some (.int .i64 0) := by kernel_rfl
theorem ZEr : zeroT Tryd.prog 24 = some (.int .i64 0) := by kernel_rfl
theorem bldW (r : Nat) (per : Int) : vbuild Tryd.prog 86 [(0, .optr r 0), (1, .int .i64 per), (2, .int .i64 1), (3, .int .i64 1)] = some (.agg [.optr r 0, .int .i64 per, .int .i64 1, .int .i64 1, .int .i64 0]) := by kernel_rfl
theorem wFA (p k : Nat) (hk : k < 5) : vfieldAddr Tryd.prog 86 (.optr p 0) k = some (.optr p k) := by
  match k, hk with
  | 0, _ => exact (by kernel_rfl : vfieldAddr Tryd.prog 86 (.optr p 0) 0 = some (.optr p 0))
  | 1, _ => exact (by kernel_rfl : vfieldAddr Tryd.prog 86 (.optr p 0) 1 = some (.optr p 1))
  | 2, _ => exact (by kernel_rfl : vfieldAddr Tryd.prog 86 (.optr p 0) 2 = some (.optr p 2))
  | 3, _ => exact (by kernel_rfl : vfieldAddr Tryd.prog 86 (.optr p 0) 3 = some (.optr p 3))
  | 4, _ => exact (by kernel_rfl : vfieldAddr Tryd.prog 86 (.optr p 0) 4 = some (.optr p 4))
def wcells (r : Nat) (per : Int) (wf next sick : Nat) : List V := [.optr r 0, .int .i64 per, .int .i64 (wf : Nat), .int .i64 (next : Nat), .int .i64 (sick : Nat)]
/-- The results, the journal. -/
structure OC (u : St) (b r : Nat) (per : Int) (s : OpS) (w : V) : Prop where
  c0 : u.objs[b]? = some (.cells [.optr (b + 4) 0])
  c1 : u.objs[b + 1]? = some (.cells [w])
  c2 : u.objs[b + 2]? = some (.cells [.int .i64 (s.first : Nat)])
  c3 : u.objs[b + 3]? = some (.cells [.int .i64 0])
  c4 : u.objs[b + 4]? = some (.cells (wcells r per s.wf s.next 0))
theorem OC.keep {u u' : St} {b r : Nat} {per : Int} {s : OpS} {w : V} {S : List Nat} (h : OC u b r per s w) (hk : KS S u u') (hS : ∀ k, k < 5 → b + k ∉ S) : OC u' b r per s w :=
  ⟨hk.ko _ _ (hS 0 (by omega)) h.c0, hk.ko _ _ (hS 1 (by omega)) h.c1, hk.ko _ _ (hS 2 (by omega)) h.c2, hk.ko _ _ (hS 3 (by omega)) h.c3, hk.ko _ _ (hS 4 (by omega)) h.c4⟩
theorem OwnB.apps {σ u : St} {w y : V} {ps qs : List BV} (h : OwnB σ.toks.length u w ps) (hk : KS [] ⟨u.objs, σ.toks⟩ u) (hy : PtsV y qs) (hb : ∀ p ∈ qs, BtsV p.1 p.2) (hl : ps.length + qs.length ≤ 1000000000) :
    ∃ w' u', vappend Tryd.prog u 37 37 w y = some (w', u') ∧ OwnB σ.toks.length u' w' (ps ++ qs) ∧ KS [] ⟨u.objs, σ.toks⟩ u' ∧ u'.objs = u.objs := by
  have hnews : vnewsO Tryd.prog u.objs 37 y 1 = some (qs.map Prod.fst, qs.length) := by
    obtain ⟨h1, h2 | ⟨p, h2⟩⟩ := hy
    · have : qs = [] := List.length_eq_zero_iff.1 h2.2
      subst this
      rw [h2.1]
      simp [vnewsO, vnews, TBB]
    · rw [h2]
      simp [vnewsO, vnews, TBB]
  obtain ⟨w', u', a1, a2, a3, a4⟩ := h.o.appendO BBR (σ0 := ⟨u.objs, σ.toks⟩) (t := 37) (t2 := 37) rfl hk.keep hnews (by simp) (by
    rw [List.all_eq_true]
    intro x hx
    obtain ⟨p, hp, rfl⟩ := List.mem_map.1 hx
    exact (hb p hp).one) (by omega) (by omega)
  refine ⟨w', u', a1, ⟨by simpa using a2, fun p hp => ?_⟩, a3.ks [], a4⟩
  rcases List.mem_append.1 hp with hp | hp
  · exact h.b p hp
  · exact hb p hp
theorem open_sees {σ : St} {r rm : Nat} {d : Dk} {fs : List Ent} (per : Int) (hper : InI64 per) (h : DiskAt σ r d rm fs) (hok : d.Ok) (hw : d.writes ≤ 100000000) :
    ∃ q σ', Does Tryd.prog prims 36 [.optr r 0, .int .i64 per] σ q σ' ∧ (∃ fs', DiskAt σ' r (openD per d).2 rm fs' ∧ KS (foot r rm fs) σ σ' ∧ (∀ y ∈ foot r rm fs', y ∈ foot r rm fs ∨ σ.objs.length ≤ y) ∧ (((openD per d).1.1 ≠ 0 ∧ q = .ret (.tuple [.nilp, .nils, .int .i64 0, .int .i64 ((openD per d).1.1 : Nat)])) ∨ ((openD per d).1.1 = 0 ∧ ∃ p w ps, q = .ret (.tuple [.optr p 0, w, .int .i64 ((openD per d).1.2.from : Nat), .int .i64 0]) ∧ PtsV w ps ∧ (∀ x ∈ ps, BtsV x.1 x.2) ∧ ps.map Prod.snd = (openD per d).1.2.recs ∧ σ'.objs[p]? = some (.cells (wcells r per (openD per d).1.2.wf (openD per d).1.2.next 0)) ∧ σ.objs.length ≤ p ∧ p ∉ foot r rm fs'))) := by
  suffices key : ∀ P : VRes → St → Prop, (∀ q σ', (∃ fs', DiskAt σ' r (openD per d).2 rm fs' ∧ KS (foot r rm fs) σ σ' ∧ (∀ y ∈ foot r rm fs', y ∈ foot r rm fs ∨ σ.objs.length ≤ y) ∧ (((openD per d).1.1 ≠ 0 ∧ q = .ret (.tuple [.nilp, .nils, .int .i64 0, .int .i64 ((openD per d).1.1 : Nat)])) ∨ ((openD per d).1.1 = 0 ∧ ∃ p w ps, q = .ret (.tuple [.optr p 0, w, .int .i64 ((openD per d).1.2.from : Nat), .int .i64 0]) ∧ PtsV w ps ∧ (∀ x ∈ ps, BtsV x.1 x.2) ∧ ps.map Prod.snd = (openD per d).1.2.recs ∧ σ'.objs[p]? = some (.cells (wcells r per (openD per d).1.2.wf (openD per d).1.2.next 0)) ∧ σ.objs.length ≤ p ∧ p ∉ foot r rm fs'))) → P q σ') → ∃ q σ', Does Tryd.prog prims 36 [.optr r 0, .int .i64 per] σ q σ' ∧ P q σ' from key _ fun _ _ h => h
  intro P hP
  apply k36_is.does (by simp)
  obtain ⟨b, hb⟩ : ∃ b, b = σ.objs.length := ⟨_, rfl⟩
  obtain ⟨s1, hs1⟩ : ∃ s1 : St, s1 = ⟨σ.objs ++ [Ob.cells [.nilp]], σ.toks⟩ := ⟨_, rfl⟩
  obtain ⟨s2, hs2⟩ : ∃ s2 : St, s2 = ⟨s1.objs ++ [Ob.cells [.nils]], s1.toks⟩ := ⟨_, rfl⟩
  obtain ⟨s3, hs3⟩ : ∃ s3 : St, s3 = ⟨s2.objs ++ [Ob.cells [.int .i64 0]], s2.toks⟩ := ⟨_, rfl⟩
  obtain ⟨s4, hs4⟩ : ∃ s4 : St, s4 = ⟨s3.objs ++ [Ob.cells [.int .i64 0]], s3.toks⟩ := ⟨_, rfl⟩
  have l1 : s1.objs.length = b + 1 := by rw [hs1, hb]; simp
  have l2 : s2.objs.length = b + 2 := by rw [hs2]; simp [l1]
  have l3 : s3.objs.length = b + 3 := by rw [hs3]; simp [l2]
  have l4 : s4.objs.length = b + 4 := by rw [hs4]; simp [l3]
  have k1 : KS [] σ s1 := by rw [hs1]; exact KS.push _ _ _
  have k2 : KS [] s1 s2 := by rw [hs2]; exact KS.push _ _ _
  have k3 : KS [] s2 s3 := by rw [hs3]; exact KS.push _ _ _
  have k4 : KS [] s3 s4 := by rw [hs4]; exact KS.push _ _ _
  have K4 : KS [] σ s4 := ((k1.trans' k2).trans' k3).trans' k4
  have c0 : s4.objs[b]? = some (.cells [.nilp]) := k4.ko _ _ (by simp) (k3.ko _ _ (by simp) (k2.ko _ _ (by simp) (by rw [hs1, hb]; exact push_new _ _)))
  have c1 : s4.objs[b + 1]? = some (.cells [.nils]) := k4.ko _ _ (by simp) (k3.ko _ _ (by simp) (by rw [hs2, ← l1]; exact push_new _ _))
  have c2 : s4.objs[b + 2]? = some (.cells [.int .i64 0]) := k4.ko _ _ (by simp) (by rw [hs3, ← l2]; exact push_new _ _)
  have c3 : s4.objs[b + 3]? = some (.cells [.int .i64 0]) := by rw [hs4, ← l3]; exact push_new _ _
  have v0 : vcells V.nilp = [.nilp] := rfl
  have v1 : vcells V.nils = [.nils] := rfl
  have v2 : vcells (V.int .i64 0) = [.int .i64 0] := rfl
  simp only [k36_a, WD, WK, vop, evAll, evOpt, evParts, vbuiltin, vun, vextract, Nat.reduceLT, Nat.reduceEqDiff, ↓reduceIte, reduceCtorEq, Nat.reduceAdd, Int.reduceLT, Int.reduceNeg, valloc_std, noSB, vhot, List.getD_cons_zero, List.getD_cons_succ, ZWp, ZRs, ZIn, ZEr, vbox, v0, v1, v2, ← hs1, ← hs2, ← hs3, ← hs4, ← hb, l1, l2, l3, ofNilP, nilEP, eql_optr pTD]
  have early : ∀ (e : Nat), e ≠ 0 → openD per d = ((e, op0), d) → ∃ t1 t2 t3 t4, vstore Tryd.prog s4 50 (.optr b 0) .nilp = some t1 ∧ vstore Tryd.prog t1 37 (.optr (b + 1) 0) .nils = some t2 ∧ vstore Tryd.prog t2 3 (.optr (b + 2) 0) (.int .i64 0) = some t3 ∧ vstore Tryd.prog t3 24 (.optr (b + 3) 0) (.int .i64 (e : Nat)) = some t4 ∧
      vload Tryd.prog t4.objs 50 (.optr b 0) = some .nilp ∧ vload Tryd.prog t4.objs 37 (.optr (b + 1) 0) = some .nils ∧ vload Tryd.prog t4.objs 3 (.optr (b + 2) 0) = some (.int .i64 0) ∧ vload Tryd.prog t4.objs 24 (.optr (b + 3) 0) = some (.int .i64 (e : Nat)) ∧ KS (foot r rm fs) σ t4 ∧ DiskAt t4 r d rm fs := by
    intro e he hD
    obtain ⟨t1, g1, a1, x1⟩ := put_cell (u := .nilp) c0 SWp rfl
    obtain ⟨t2, g2, a2, x2⟩ := put_cell (u := .nils) (x1.ko _ _ (by simp) c1) SRs rfl
    obtain ⟨t3, g3, a3, x3⟩ := put_cell (u := .int .i64 0) (x2.ko _ _ (by simp) (x1.ko _ _ (by simp) c2)) S3 rfl
    obtain ⟨t4, g4, a4, x4⟩ := put_cell (u := .int .i64 (e : Nat)) (x3.ko _ _ (by simp) (x2.ko _ _ (by simp) (x1.ko _ _ (by simp) c3))) SEr rfl
    have K : KS [] σ t4 := (((K4.trans x1 (fun x hx => by simp at hx; exact .inr (by omega))).trans x2 (fun x hx => by simp at hx; exact .inr (by omega))).trans x3 (fun x hx => by simp at hx; exact .inr (by omega))).trans x4 (fun x hx => by simp at hx; exact .inr (by omega))
    exact ⟨t1, t2, t3, t4, g1, g2, g3, g4, cell_load (x4.ko _ _ (by simp) (x3.ko _ _ (by simp) (x2.ko _ _ (by simp) a1))) GWp, cell_load (x4.ko _ _ (by simp) (x3.ko _ _ (by simp) a2)) GRs, cell_load (x4.ko _ _ (by simp) a3) G3, cell_load a4 GEr, K.nils, h.pushes K⟩
  by_cases h1 : per < 1
  · have hD : openD per d = ((1, op0), d) := by unfold openD; rw [if_pos h1]
    obtain ⟨t1, t2, t3, t4, g1, g2, g3, g4, y1, y2, y3, y4, KF, DF⟩ := early 1 (by decide) hD
    have g4 : vstore Tryd.prog t3 24 (.optr (b + 3) 0) (.int .i64 1) = some t4 := g4
    simp only [k36_a, WD, WK, vop, evAll, evOpt, evParts, vbuiltin, vun, vextract, Nat.reduceLT, Nat.reduceEqDiff, ↓reduceIte, reduceCtorEq, Nat.reduceAdd, Int.reduceLT, Int.reduceNeg, valloc_std, noSB, vhot, h1, decide_true, ofNilP, nilEP, g1, g2, g3, g4, y1, y2, y3, y4, List.append_nil]
    exact hP _ _ (by rw [hD]; exact ⟨fs, DF, KF, fun y hy => .inl hy, .inl ⟨by simp, rfl⟩⟩)
  have hdn := down_does (h.pushes K4)
  simp only [k36_a, WD, WK, vop, evAll, evOpt, evParts, vbuiltin, vun, vextract, Nat.reduceLT, Nat.reduceEqDiff, ↓reduceIte, reduceCtorEq, Nat.reduceAdd, Int.reduceLT, Int.reduceNeg, valloc_std, noSB, vhot, h1, decide_false]
  refine KD.ret hdn ?_
  cases hon : d.on with
  | false =>
    have hD : openD per d = ((20, op0), d) := by unfold openD; rw [if_neg h1, if_pos hon]
    obtain ⟨t1, t2, t3, t4, g1, g2, g3, g4, y1, y2, y3, y4, KF, DF⟩ := early 20 (by decide) hD
    have g4 : vstore Tryd.prog t3 24 (.optr (b + 3) 0) (.int .i64 20) = some t4 := g4
    simp only [k36_a, WD, WK, vop, evAll, evOpt, evParts, vbuiltin, vun, vextract, Nat.reduceLT, Nat.reduceEqDiff, ↓reduceIte, reduceCtorEq, Nat.reduceAdd, Int.reduceLT, Int.reduceNeg, valloc_std, noSB, vhot, Bool.not_false, ofNilP, nilEP, g1, g2, g3, g4, y1, y2, y3, y4, List.append_nil]
    exact hP _ _ (by rw [hD]; exact ⟨fs, DF, KF, fun y hy => .inl hy, .inl ⟨by simp, rfl⟩⟩)
  | true =>
    have hD : openD per d = openL (namesD d) op0 d := by unfold openD; rw [if_neg h1, if_neg (by simp [hon])]
    obtain ⟨s5, hs5⟩ : ∃ s5 : St, s5 = ⟨s4.objs ++ [Ob.cells [.optr r 0, .int .i64 per, .int .i64 1, .int .i64 1, .int .i64 0]], s4.toks⟩ := ⟨_, rfl⟩
    have k5 : KS [] s4 s5 := by rw [hs5]; exact KS.push _ _ _
    have w5 : s5.objs[b + 4]? = some (.cells [.optr r 0, .int .i64 per, .int .i64 1, .int .i64 1, .int .i64 0]) := by rw [hs5, ← l4]; exact push_new _ _
    have hvc : vcells (V.agg [.optr r 0, .int .i64 per, .int .i64 1, .int .i64 1, .int .i64 0]) = [.optr r 0, .int .i64 per, .int .i64 1, .int .i64 1, .int .i64 0] := rfl
    obtain ⟨s6, g6, a6, x6⟩ := put_cell (u := .optr (b + 4) 0) (k5.ko _ _ (by simp) c0) SWp rfl
    have K6 : KS [] σ s6 := (K4.trans' k5).trans x6 (fun x hx => by simp at hx; exact .inr (by omega))
    have C6 : OC s6 b r per op0 .nils := ⟨a6, x6.ko _ _ (by simp) (k5.ko _ _ (by simp) c1), x6.ko _ _ (by simp) (k5.ko _ _ (by simp) c2), x6.ko _ _ (by simp) (k5.ko _ _ (by simp) c3), x6.ko _ _ (by simp) w5⟩
    have D6 := h.pushes K6
    obtain ⟨q7, s7, c7, v7, o7, rfl, n7, K7, I7⟩ := names_sees D6 hok
    have hflt := D6.lt
    obtain ⟨L, hL⟩ : ∃ L, L = namesD d := ⟨_, rfl⟩
    have hL16 := namesD_len hok
    rw [← hL] at n7 hL16 hD
    have R7 : RowS s7 1 v7 (L.map V.str) L.length := row_strs n7
    simp only [k36_a, WD, WK, vop, evAll, evOpt, evParts, vbuiltin, vun, vextract, Nat.reduceLT, Nat.reduceEqDiff, ↓reduceIte, reduceCtorEq, Nat.reduceAdd, Int.reduceLT, Int.reduceNeg, valloc_std, noSB, vhot, Bool.not_true, bldW, vbox, hvc, ← hs5, l4, g6, List.append_nil]
    refine KD.ret c7 ?_
    simp only [k36_a, WD, WK, vop, evAll, evOpt, evParts, vbuiltin, vun, vextract, Nat.reduceLT, Nat.reduceEqDiff, ↓reduceIte, reduceCtorEq, Nat.reduceAdd, Int.reduceLT, Int.reduceNeg, valloc_std, noSB, vhot, R7.len TSS, List.append_nil]
    have fault : ∀ (u : St) (e' : Nat → V) (er : Nat) (st s : OpS) (w : V) (dd' : Dk) (fu' : List Ent), er ≠ 0 → openD per d = ((er, st), dd') → DiskAt u r dd' rm fu' → KS (foot r rm fs) σ u → (∀ y ∈ foot r rm fu', y ∈ foot r rm fs ∨ σ.objs.length ≤ y) → (∀ k, k < 5 → b + k ∉ foot r rm fu') → OC u b r per s w → e' 4 = .optr b 0 → e' 5 = .optr (b + 1) 0 → e' 6 = .optr (b + 2) 0 → e' 7 = .optr (b + 3) 0 →
        fnDK Tryd.prog prims 84 [ResultVar.cell 4 50, ResultVar.cell 5 37, ResultVar.cell 6 3, ResultVar.cell 7 24] P (.pan (stopV er)) e' u [(54, [V.optr (b + 3) 0, V.optr b 0, V.optr (b + 1) 0, V.optr (b + 2) 0])] := by
      intro u e' er st s w dd' fu' her hop D K I hbk C k4 k5 k6 k7
      obtain ⟨u', dS, a3, a0, a1, a2, KK⟩ := wopen1_does C.c3 C.c0 C.c1 C.c2 (by omega) (by omega) (by omega) (by omega) (by omega) (by omega) her
      have D' : DiskAt u' r dd' rm fu' := D.keep KK (fun x hx => by
        intro hm
        simp at hm
        rcases hm with rfl | rfl | rfl | rfl
        · exact hbk 3 (by omega) hx
        · exact hbk 0 (by omega) hx
        · exact hbk 1 (by omega) hx
        · exact hbk 2 (by omega) hx)
      refine ⟨u', Leave.cons dS Leave.nil, [.nilp, .nils, .int .i64 0, .int .i64 (er : Nat)], ?_, hP _ _ ?_⟩
      · rw [vresults_cell (by decide), k4, cell_load a0 GWp, vresults_cell (by decide), k5, cell_load a1 GRs, vresults_cell (by decide), k6, cell_load a2 G3, vresults_cell (by decide), k7, cell_load a3 GEr, vresults_nil]
      · rw [hop]
        exact ⟨fu', D', K.trans KK (fun x hx => by simp at hx; exact .inr (by omega)), I, .inl ⟨her, rfl⟩⟩
    refine Ev.loopF (fun (i : Nat) e u => e 30 = .int .i64 (i : Nat) ∧ i ≤ L.length ∧ ∃ (dd : Dk) (fu : List Ent) (s : OpS) (w : V) (ps : List BV), DiskAt u r dd rm fu ∧ dd.Ok ∧ dd.writes ≤ 100000000 + 3 * i ∧ e 8 = .bool s.brk ∧ OC u b r per s w ∧ OwnB σ.toks.length u w ps ∧ ps.map Prod.snd = s.recs ∧ ps.length ≤ 1048576 * i ∧ KS (foot r rm fs) σ u ∧ (∀ y ∈ foot r rm fu, y ∈ foot r rm fs ∨ σ.objs.length ≤ y) ∧ (∀ k, k < 5 → b + k ∉ foot r rm fu) ∧ openD per d = openL (L.drop i) s dd ∧ rowOf u.objs v7 = some (o7, L.map V.str) ∧ Free o7 (foot r rm fu) ∧ (∀ x ∈ o7.toList, x < u.objs.length) ∧ s.next ≤ 2000000000) (fun i => L.length - i) 0 ?_ ?_
    · have l5 : s5.objs.length = b + 5 := by rw [hs5]; simp [l4]
      refine ⟨by simp [upd_some], Nat.zero_le _, d, fs, op0, .nils, [], D6.pushes K7, hok, by omega, by simp [upd_some, op0], C6.keep K7 (by simp), OwnB.nil, rfl, by simp, (K6.trans' K7).nils, fun y hy => .inl hy, fun k hk hx => by have := h.lt _ hx; omega, by rw [List.drop_zero]; exact hD, n7, Free.high I7 hflt, fun x hx => ?_, by simp [op0]⟩
      rcases rowOf_spec n7 with ⟨_, e0, _⟩ | ⟨r', full, _, e0, hr, _, _⟩
      · rw [e0] at hx; simp at hx
      · rw [e0] at hx
        simp at hx
        subst hx
        exact (List.getElem?_eq_some_iff.1 hr).1
    rintro i e u ⟨h30, hi, dd, fu, s, w, ps, D, ok, hwr, h8, C, O, hps, hpl, K, I, hbk, hop, hrow, hfree, hlv, hnx⟩ hf
    have g0 : e 0 = .optr r 0 := (hf 0 (by decide)).trans (by simp [upd_some])
    have g4 : e 4 = .optr b 0 := (hf 4 (by decide)).trans (by simp [upd_some])
    have g5 : e 5 = .optr (b + 1) 0 := (hf 5 (by decide)).trans (by simp [upd_some])
    have g6' : e 6 = .optr (b + 2) 0 := (hf 6 (by decide)).trans (by simp [upd_some])
    have g7 : e 7 = .optr (b + 3) 0 := (hf 7 (by decide)).trans (by simp [upd_some])
    have g28 : e 28 = v7 := (hf 28 (by decide)).trans (by simp [upd_some])
    have g29 : e 29 = .int .i64 (L.length : Nat) := (hf 29 (by decide)).trans (by simp [upd_some])
    clear hf
    have ld0 := cell_load C.c0 GWp
    have ld1 := cell_load C.c1 GRs
    have ld2 := cell_load C.c2 G3
    have ld3 := cell_load C.c3 GEr
    by_cases hlt : i < L.length
    · have hlt' : (i : Int) < (L.length : Nat) := by omega
      have hwi : IntKind.i64.wrap ((i : Int) + 1) = ((i + 1 : Nat) : Int) := by rw [wrap_i64 (by omega) (by omega)]; omega
      have hdrop : L.drop i = L[i] :: L.drop (i + 1) := List.drop_eq_getElem_cons hlt
      have RU : RowS u 1 v7 (L.map V.str) L.length := row_strs hrow
      obtain ⟨pa, ha, hla⟩ := RU.strAt hlt
      have hla := hla u (KS.refl _ _)
      obtain ⟨q8, s8, c8, rfl, K8⟩ := wnumber_sees (σ := u) L[i]
      simp only [k36_a, WD, WK, vop, evAll, evOpt, evParts, vbuiltin, vun, vextract, Nat.reduceLT, Nat.reduceEqDiff, ↓reduceIte, reduceCtorEq, Nat.reduceAdd, Int.reduceLT, Int.reduceNeg, valloc_std, noSB, vhot, h30, g28, g29, hlt', decide_true, ha, hla]
      refine KD.ret c8 ?_
      by_cases hz : numW L[i] = 0
      · have hz' : ((numW L[i] : Nat) : Int) = 0 := by omega
        simp only [k36_a, WD, WK, vop, evAll, evOpt, evParts, vbuiltin, vun, vextract, Nat.reduceLT, Nat.reduceEqDiff, ↓reduceIte, reduceCtorEq, Nat.reduceAdd, Int.reduceLT, Int.reduceNeg, valloc_std, noSB, vhot, h30, hz', eq_self, decide_true, hwi]
        exact ⟨i + 1, ⟨by simp [upd_some], by omega, dd, fu, s, w, ps, D.pushes K8, ok, by omega, by simp [upd_some, h8], C.keep K8 (by simp), O.keep K8.tk, hps, by omega, K.trans' K8.nils, I, hbk, by rw [hop, hdrop, openL, if_pos hz], rowOf_free hrow (fun x _ hx => by simp at hx) K8, hfree, fun x hx => by have := hlv x hx; have := K8.le; omega, hnx⟩, by omega⟩
      · have hz' : ¬ ((numW L[i] : Nat) : Int) = 0 := by omega
        have D8 := D.pushes K8
        have C8 := C.keep K8 (by simp)
        have f0 := cell_load C8.c0 GWp
        have f2 := cell_load C8.c2 G3
        have f3 : vload Tryd.prog s8.objs 3 (.optr (b + 4) 3) = some (.int .i64 (s.next : Nat)) := by rw [vload_obj C8.c4 G3]; rfl
        have mv : ∀ (s9 : St) (d9 : Dk) (fs9 : List Ent), DiskAt s9 r d9 rm fs9 → KS (foot r rm fu) s8 s9 → (∀ x ∈ foot r rm fs9, x ∈ foot r rm fu ∨ s8.objs.length ≤ x) → OC s9 b r per s w ∧ OwnB σ.toks.length s9 w ps ∧ KS (foot r rm fs) σ s9 ∧ (∀ y ∈ foot r rm fs9, y ∈ foot r rm fs ∨ σ.objs.length ≤ y) ∧ (∀ k, k < 5 → b + k ∉ foot r rm fs9) ∧ rowOf s9.objs v7 = some (o7, L.map V.str) ∧ Free o7 (foot r rm fs9) ∧ (∀ x ∈ o7.toList, x < s9.objs.length) := by
          intro s9 d9 fs9 D9 K9 I9
          refine ⟨C8.keep K9 (fun k hk hx => hbk k hk hx), (O.keep K8.tk).keep K9.tk, (K.trans' K8.nils).trans K9 (fun x hx => I x hx), fun y hy => ?_, fun k hk hx => ?_, rowOf_free (rowOf_free hrow (fun x _ hx => by simp at hx) K8) hfree K9, Free.step hfree (fun x hx => by have := hlv x hx; have := K8.le; omega) I9, fun x hx => by have := hlv x hx; have := K8.le; have := K9.le; omega⟩
          · rcases I9 y hy with h | h
            · exact I y h
            · have := K8.le; have := K.le; exact .inr (by omega)
          · rcases I9 _ hx with h | h
            · exact hbk k hk h
            · have := (List.getElem?_eq_some_iff.1 C8.c4).1; omega
        have l6 : b + 5 ≤ s6.objs.length := by
          have h5 : s5.objs.length = b + 5 := by rw [hs5]; simp [l4]
          have := x6.le
          omega
        have ho7 : ∀ k, k < 5 → b + k ∉ o7.toList := fun k hk hx => by have := I7 _ hx; omega
        have seg : ∀ (su : St) (f : Nat), f = (if s.first = 0 then numW L[i] else s.first) → DiskAt su r dd rm fu → KS [b + 2] s8 su → OC su b r per { s with first := f } w →
            ∃ q9 s9, Does Tryd.prog prims 58 [.optr r 0, .str L[i]] su q9 s9 ∧ (((segD L[i] dd).1.1 ≠ 0 ∧ q9 = .pan (stopV (segD L[i] dd).1.1) ∧ ∃ fs9, DiskAt s9 r (segD L[i] dd).2 rm fs9 ∧ KS (foot r rm fs) σ s9 ∧ (∀ y ∈ foot r rm fs9, y ∈ foot r rm fs ∨ σ.objs.length ≤ y) ∧ (∀ k, k < 5 → b + k ∉ foot r rm fs9) ∧ OC s9 b r per { s with first := f } w) ∨
              ((segD L[i] dd).1.1 = 0 ∧ ∃ (w2 w' : V) (t1 t2 t3 t4 : St) (len : Nat), q9 = .ret w2 ∧ vload Tryd.prog s9.objs 37 (.optr (b + 1) 0) = some w ∧ vappend Tryd.prog s9 37 37 w w2 = some (w', t1) ∧ vstore Tryd.prog t1 37 (.optr (b + 1) 0) w' = some t2 ∧ vload Tryd.prog t2.objs 50 (.optr b 0) = some (.optr (b + 4) 0) ∧ vlen Tryd.prog 37 w2 = some (.int .i64 (len : Nat)) ∧ IntKind.i64.wrap (((numW L[i] : Nat) : Int) + (len : Nat)) = ((numW L[i] + len : Nat) : Int) ∧
                vstore Tryd.prog t2 3 (.optr (b + 4) 2) (.int .i64 (numW L[i] : Nat)) = some t3 ∧ vload Tryd.prog t3.objs 50 (.optr b 0) = some (.optr (b + 4) 0) ∧ vstore Tryd.prog t3 3 (.optr (b + 4) 3) (.int .i64 ((numW L[i] + len : Nat) : Int)) = some t4 ∧
                ∃ (fs9 : List Ent) (ps9 : List BV), DiskAt t4 r (segD L[i] dd).2 rm fs9 ∧ OC t4 b r per (s.more (numW L[i]) (segD L[i] dd).1.2) w' ∧ OwnB σ.toks.length t4 w' ps9 ∧ ps9.map Prod.snd = (s.more (numW L[i]) (segD L[i] dd).1.2).recs ∧ ps9.length ≤ 1048576 * (i + 1) ∧ KS (foot r rm fs) σ t4 ∧ (∀ y ∈ foot r rm fs9, y ∈ foot r rm fs ∨ σ.objs.length ≤ y) ∧ (∀ k, k < 5 → b + k ∉ foot r rm fs9) ∧ rowOf t4.objs v7 = some (o7, L.map V.str) ∧ Free o7 (foot r rm fs9) ∧ (∀ x ∈ o7.toList, x < t4.objs.length) ∧ (s.more (numW L[i]) (segD L[i] dd).1.2).next ≤ 2000000000)) := by
          intro su f hfe Du ku Cu
          obtain ⟨q9, s9, c9, ⟨fs9, D9, K9, I9⟩, hres⟩ := segment_sees L[i] Du ok (by omega)
          have hnl := numW_le L[i]
          have hsl := seg_len (n := L[i]) ok
          have hkle := ku.le
          have hc4 := (List.getElem?_eq_some_iff.1 C8.c4).1
          have C9 : OC s9 b r per { s with first := f } w := Cu.keep K9 (fun k hk hx => hbk k hk hx)
          have Ku : KS (foot r rm fs) σ su := (K.trans' K8.nils).trans ku (fun x hx => by simp at hx; exact .inr (by omega))
          have K9' : KS (foot r rm fs) σ s9 := Ku.trans K9 (fun x hx => I x hx)
          have I9' : ∀ y ∈ foot r rm fs9, y ∈ foot r rm fs ∨ σ.objs.length ≤ y := fun y hy => by
            rcases I9 y hy with h | h
            · exact I y h
            · have := Ku.le; exact .inr (by omega)
          have hbk9 : ∀ k, k < 5 → b + k ∉ foot r rm fs9 := fun k hk hx => by
            rcases I9 _ hx with h | h
            · exact hbk k hk h
            · omega
          have hrow8 : rowOf s8.objs v7 = some (o7, L.map V.str) := rowOf_free hrow (fun x _ hx => by simp at hx) K8
          have hrowu : rowOf su.objs v7 = some (o7, L.map V.str) := rowOf_free hrow8 (fun x hx hx2 => by
            simp at hx2
            subst hx2
            exact ho7 2 (by omega) (by simpa using hx)) ku
          have hrow9 : rowOf s9.objs v7 = some (o7, L.map V.str) := rowOf_free hrowu hfree K9
          have hfree9 : Free o7 (foot r rm fs9) := Free.step hfree (fun x hx => by have := hlv x hx; have := K8.le; omega) I9
          refine ⟨q9, s9, c9, ?_⟩
          rcases hres with ⟨he, w2, qs, rfl, hq, hqb, hqs⟩ | ⟨he, rfl⟩
          · refine .inr ⟨he, ?_⟩
            have hql : qs.length = (segD L[i] dd).1.2.length := by rw [← hqs, List.length_map]
            have O9 : OwnB σ.toks.length s9 w ps := ((O.keep K8.tk).keep ku.tk).keep K9.tk
            obtain ⟨w', t1, p1, p2, p3, p4⟩ := O9.apps (σ := σ) ⟨fun _ _ _ h => h, Nat.le_refl _, K9'.tl, K9'.tk⟩ hq hqb (by have : 1048576 * i ≤ 1048576 * 16 := Nat.mul_le_mul_left _ (by omega); omega)
            have D1 : DiskAt t1 r (segD L[i] dd).2 rm fs9 := ⟨by rw [p4]; exact D9.hd, by rw [p4]; exact D9.hm, by rw [p4]; exact D9.hf, D9.nd, D9.pm⟩
            have K1 : KS (foot r rm fs) σ t1 := ⟨fun r o hr ho => by rw [p4]; exact K9'.ko r o hr ho, by rw [p4]; exact K9'.le, p3.tl, p3.tk⟩
            have C1 : OC t1 b r per { s with first := f } w := ⟨by rw [p4]; exact C9.c0, by rw [p4]; exact C9.c1, by rw [p4]; exact C9.c2, by rw [p4]; exact C9.c3, by rw [p4]; exact C9.c4⟩
            have hrow1 : rowOf t1.objs v7 = some (o7, L.map V.str) := by rw [p4]; exact hrow9
            obtain ⟨t2, y2, a2, x2⟩ := put_cell (u := w') C1.c1 SRs p2.o.row.one
            have z4 : t2.objs[b + 4]? = some (.cells (wcells r per s.wf s.next 0)) := x2.ko _ _ (by simp) C1.c4
            obtain ⟨t3, ht3⟩ : ∃ t3 : St, t3 = ⟨t2.objs.set (b + 4) (.cells (wcells r per (numW L[i]) s.next 0)), t2.toks⟩ := ⟨_, rfl⟩
            have y3 : vstore Tryd.prog t2 3 (.optr (b + 4) 2) (.int .i64 (numW L[i] : Nat)) = some t3 := by rw [vstore_obj z4 S3 rfl (by simp [wcells]), ht3]; rfl
            have z3 : t3.objs[b + 4]? = some (.cells (wcells r per (numW L[i]) s.next 0)) := by rw [ht3]; exact obj_set z4
            have x3 : KS [b + 4] t2 t3 := by rw [ht3]; exact KS.set (.inl (by simp)) _
            obtain ⟨t4, ht4⟩ : ∃ t4 : St, t4 = ⟨t3.objs.set (b + 4) (.cells (wcells r per (numW L[i]) (numW L[i] + qs.length) 0)), t3.toks⟩ := ⟨_, rfl⟩
            have y4 : vstore Tryd.prog t3 3 (.optr (b + 4) 3) (.int .i64 ((numW L[i] + qs.length : Nat) : Int)) = some t4 := by rw [vstore_obj z3 S3 rfl (by simp [wcells]), ht4]; rfl
            have z5 : t4.objs[b + 4]? = some (.cells (wcells r per (numW L[i]) (numW L[i] + qs.length) 0)) := by rw [ht4]; exact obj_set z3
            have x4 : KS [b + 4] t3 t4 := by rw [ht4]; exact KS.set (.inl (by simp)) _
            have KK : KS [b + 1, b + 4] t1 t4 := ((x2.over (by simp)).trans' (x3.over (by simp))).trans' (x4.over (by simp))
            have m0 := x2.ko _ _ (by simp) C1.c0
            refine ⟨w2, w', t1, t2, t3, t4, qs.length, rfl, cell_load C9.c1 GRs, p1, y2, cell_load m0 GWp, hq.len, by rw [wrap_i64 (by omega) (by omega)]; omega, y3, cell_load (x3.ko _ _ (by simp) m0) GWp, y4, fs9, ps ++ qs, ?_, ?_, p2.keep KK.tk, ?_, ?_, ?_, I9', hbk9, ?_, hfree9, ?_, ?_⟩
            · exact D1.keep KK (fun x hx hm => by
                simp at hm
                rcases hm with rfl | rfl
                · exact hbk9 1 (by omega) hx
                · exact hbk9 4 (by omega) hx)
            · exact ⟨KK.ko _ _ (by simp) C1.c0, x4.ko _ _ (by simp) (x3.ko _ _ (by simp) a2), by
                have := KK.ko _ _ (by simp) C1.c2
                rw [this]
                simp only [OpS.more, hfe], KK.ko _ _ (by simp) C1.c3, by rw [z5, hql]; rfl⟩
            · rw [List.map_append, hps, hqs]; rfl
            · rw [List.length_append]; omega
            · exact K1.trans KK (fun x hx => by simp at hx; exact .inr (by omega))
            · exact rowOf_free hrow1 (fun x hx hx2 => by
                simp at hx2
                rcases hx2 with rfl | rfl
                · exact ho7 1 (by omega) (by simpa using hx)
                · exact ho7 4 (by omega) (by simpa using hx)) KK
            · intro x hx
              have h1 := hlv x hx
              have h2 := K8.le
              have h3 := K9.le
              have h4 := KK.le
              rw [p4] at h4
              omega
            · simp only [OpS.more]; omega
          · exact .inl ⟨he, rfl, fs9, D9, K9', I9', hbk9, C9⟩
        by_cases hsk : s.skips (numW L[i])
        · obtain ⟨q9, s9, c9, rfl, fs9, D9, K9, I9⟩ := remove_sees (n := L[i]) D8 ok (by omega)
          obtain ⟨ok9, hw9⟩ := remove_ok (n := L[i]) ok
          obtain ⟨C9, O9, K9', I9', hbk9, hrow9, hfree9, hlv9⟩ := mv s9 _ fs9 D9 K9 I9
          have hfp : (0 : Int) < ((s.first : Nat) : Int) := by have := hsk.1; omega
          have hrest : ∀ (e9 : Nat → V), True := fun _ => trivial
          cases hbr : s.brk with
          | true =>
            rw [hbr] at h8
            simp only [k36_a, WD, WK, vop, evAll, evOpt, evParts, vbuiltin, vun, vextract, Nat.reduceLT, Nat.reduceEqDiff, ↓reduceIte, reduceCtorEq, Nat.reduceAdd, Int.reduceLT, Int.reduceNeg, valloc_std, noSB, vhot, h30, h8, g0, g4, g6', hz', hfp, f2, decide_true, decide_false]
            refine KD.ret c9 ?_
            simp only [k36_a, WD, WK, vop, evAll, evOpt, evParts, vbuiltin, vun, vextract, Nat.reduceLT, Nat.reduceEqDiff, ↓reduceIte, reduceCtorEq, Nat.reduceAdd, Int.reduceLT, Int.reduceNeg, valloc_std, noSB, vhot]
            by_cases e9 : (removeD L[i] dd).1 = 0
            · refine KD.ret (must_ok e9) ?_
              simp only [k36_a, WD, WK, vop, evAll, evOpt, evParts, vbuiltin, vun, vextract, Nat.reduceLT, Nat.reduceEqDiff, ↓reduceIte, reduceCtorEq, Nat.reduceAdd, Int.reduceLT, Int.reduceNeg, valloc_std, noSB, vhot, h30, hwi]
              exact ⟨i + 1, ⟨by simp [upd_some], by omega, (removeD L[i] dd).2, fs9, { s with brk := true }, w, ps, D9, ok9, by omega, by simp [upd_some], ⟨C9.c0, C9.c1, C9.c2, C9.c3, C9.c4⟩, O9, hps, by omega, K9', I9', hbk9, by rw [hop, hdrop, openL, if_neg hz, if_pos hsk, if_neg (by omega)], hrow9, hfree9, hlv9, hnx⟩, by omega⟩
            · refine KD.pan (must_pan e9) ?_
              simp only [k36_a, WD, WK, vop, evAll, evOpt, evParts, vbuiltin, vun, vextract, Nat.reduceLT, Nat.reduceEqDiff, ↓reduceIte, reduceCtorEq, Nat.reduceAdd, Int.reduceLT, Int.reduceNeg, valloc_std, noSB, vhot, List.nil_append, List.append_nil]
              exact fault s9 _ _ s s w _ fs9 e9 (by rw [hop, hdrop, openL, if_neg hz, if_pos hsk, if_pos e9]) D9 K9' I9' hbk9 C9 (by simp [upd_some, g4]) (by simp [upd_some, g5]) (by simp [upd_some, g6']) (by simp [upd_some, g7])
          | false =>
            rw [hbr] at h8
            have hnn : ¬ ((numW L[i] : Nat) : Int) = ((s.next : Nat) : Int) := by
              rcases hsk.2 with h | h
              · rw [hbr] at h; cases h
              · omega
            simp only [k36_a, WD, WK, vop, evAll, evOpt, evParts, vbuiltin, vun, vextract, Nat.reduceLT, Nat.reduceEqDiff, ↓reduceIte, reduceCtorEq, Nat.reduceAdd, Int.reduceLT, Int.reduceNeg, valloc_std, noSB, vhot, h30, h8, g0, g4, g6', hz', hfp, f0, f2, wFA (b + 4) 3 (by omega), f3, hnn, decide_true, decide_false, Bool.not_false]
            refine KD.ret c9 ?_
            simp only [k36_a, WD, WK, vop, evAll, evOpt, evParts, vbuiltin, vun, vextract, Nat.reduceLT, Nat.reduceEqDiff, ↓reduceIte, reduceCtorEq, Nat.reduceAdd, Int.reduceLT, Int.reduceNeg, valloc_std, noSB, vhot]
            by_cases e9 : (removeD L[i] dd).1 = 0
            · refine KD.ret (must_ok e9) ?_
              simp only [k36_a, WD, WK, vop, evAll, evOpt, evParts, vbuiltin, vun, vextract, Nat.reduceLT, Nat.reduceEqDiff, ↓reduceIte, reduceCtorEq, Nat.reduceAdd, Int.reduceLT, Int.reduceNeg, valloc_std, noSB, vhot, h30, hwi]
              exact ⟨i + 1, ⟨by simp [upd_some], by omega, (removeD L[i] dd).2, fs9, { s with brk := true }, w, ps, D9, ok9, by omega, by simp [upd_some], ⟨C9.c0, C9.c1, C9.c2, C9.c3, C9.c4⟩, O9, hps, by omega, K9', I9', hbk9, by rw [hop, hdrop, openL, if_neg hz, if_pos hsk, if_neg (by omega)], hrow9, hfree9, hlv9, hnx⟩, by omega⟩
            · refine KD.pan (must_pan e9) ?_
              simp only [k36_a, WD, WK, vop, evAll, evOpt, evParts, vbuiltin, vun, vextract, Nat.reduceLT, Nat.reduceEqDiff, ↓reduceIte, reduceCtorEq, Nat.reduceAdd, Int.reduceLT, Int.reduceNeg, valloc_std, noSB, vhot, List.nil_append, List.append_nil]
              exact fault s9 _ _ s s w _ fs9 e9 (by rw [hop, hdrop, openL, if_neg hz, if_pos hsk, if_pos e9]) D9 K9' I9' hbk9 C9 (by simp [upd_some, g4]) (by simp [upd_some, g5]) (by simp [upd_some, g6']) (by simp [upd_some, g7])
        · by_cases hf0 : s.first = 0
          · have hfp : ¬ (0 : Int) < ((s.first : Nat) : Int) := by omega
            have hf0' : ((s.first : Nat) : Int) = 0 := by omega
            obtain ⟨u9, y9, a9, x9⟩ := put_cell (u := .int .i64 (numW L[i] : Nat)) C8.c2 S3 rfl
            simp only [k36_a, WD, WK, vop, evAll, evOpt, evParts, vbuiltin, vun, vextract, Nat.reduceLT, Nat.reduceEqDiff, ↓reduceIte, reduceCtorEq, Nat.reduceAdd, Int.reduceLT, Int.reduceNeg, valloc_std, noSB, vhot, h30, h8, g0, g4, g6', hz', hfp, f0, f2, hf0', y9, eq_self, decide_true, decide_false]
            have hso := seg_ok (n := L[i]) ok
            obtain ⟨q9, s9, c9, hres⟩ := seg u9 (numW L[i]) (by rw [if_pos hf0]) (D8.keep x9 (fun x hx hm => by simp at hm; subst hm; exact hbk 2 (by omega) hx)) x9 ⟨x9.ko _ _ (by simp) C8.c0, x9.ko _ _ (by simp) C8.c1, a9, x9.ko _ _ (by simp) C8.c3, x9.ko _ _ (by simp) C8.c4⟩
            rcases hres with ⟨he, rfl, fs9, D9, K9', I9', hbk9, C9⟩ | ⟨he, w2, w', t1, t2, t3, t4, len, rfl, m1, m2, m3, m4, m5, m6, m7, m8, m9, fs9, ps9, D9, C9, O9, P9, L9, K9', I9', hbk9, hrow9, hfree9, hlv9, N9⟩
            · refine KD.pan c9 ?_
              simp only [k36_a, WD, WK, vop, evAll, evOpt, evParts, vbuiltin, vun, vextract, Nat.reduceLT, Nat.reduceEqDiff, ↓reduceIte, reduceCtorEq, Nat.reduceAdd, Int.reduceLT, Int.reduceNeg, valloc_std, noSB, vhot, List.nil_append, List.append_nil]
              exact fault s9 _ _ s _ w _ fs9 he (by rw [hop, hdrop, openL, if_neg hz, if_neg hsk, if_pos he]) D9 K9' I9' hbk9 C9 (by simp [upd_some, g4]) (by simp [upd_some, g5]) (by simp [upd_some, g6']) (by simp [upd_some, g7])
            · refine KD.ret c9 ?_
              simp only [k36_a, WD, WK, vop, evAll, evOpt, evParts, vbuiltin, vun, vextract, Nat.reduceLT, Nat.reduceEqDiff, ↓reduceIte, reduceCtorEq, Nat.reduceAdd, Int.reduceLT, Int.reduceNeg, valloc_std, noSB, vhot, h30, g4, g5, g6', g7, m1, m2, m3, m4, m5, m6, m7, m8, m9, wFA (b + 4) 2 (by omega), wFA (b + 4) 3 (by omega), hwi]
              exact ⟨i + 1, ⟨by simp [upd_some], by omega, (segD L[i] dd).2, fs9, s.more (numW L[i]) (segD L[i] dd).1.2, w', ps9, D9, hso.1, by have := hso.2; omega, by simp [upd_some, h8, OpS.more], C9, O9, P9, L9, K9', I9', hbk9, by rw [hop, hdrop, openL, if_neg hz, if_neg hsk, if_neg (by omega)], hrow9, hfree9, hlv9, N9⟩, by omega⟩
          · have hfp : (0 : Int) < ((s.first : Nat) : Int) := by omega
            have hf0' : ¬ ((s.first : Nat) : Int) = 0 := by omega
            have hbr : s.brk = false := by
              cases hb : s.brk with
              | false => rfl
              | true => exact absurd ⟨by omega, .inl hb⟩ hsk
            have hnn : ((numW L[i] : Nat) : Int) = ((s.next : Nat) : Int) := by
              have : numW L[i] = s.next := Classical.byContradiction fun h => hsk ⟨by omega, .inr h⟩
              omega
            rw [hbr] at h8
            have hnt : (((numW L[i] : Nat) : Int) = ((s.next : Nat) : Int)) = True := eq_true hnn
            clear hnn
            simp only [k36_a, WD, WK, vop, evAll, evOpt, evParts, vbuiltin, vun, vextract, Nat.reduceLT, Nat.reduceEqDiff, ↓reduceIte, reduceCtorEq, Nat.reduceAdd, Int.reduceLT, Int.reduceNeg, valloc_std, noSB, vhot, h30, h8, g0, g4, g6', hz', hfp, f0, f2, hf0', wFA (b + 4) 3 (by omega), f3, hnt, decide_true, decide_false, Bool.not_true]
            have hso := seg_ok (n := L[i]) ok
            obtain ⟨q9, s9, c9, hres⟩ := seg s8 s.first (by rw [if_neg hf0]) D8 (KS.refl _ _) ⟨C8.c0, C8.c1, C8.c2, C8.c3, C8.c4⟩
            rcases hres with ⟨he, rfl, fs9, D9, K9', I9', hbk9, C9⟩ | ⟨he, w2, w', t1, t2, t3, t4, len, rfl, m1, m2, m3, m4, m5, m6, m7, m8, m9, fs9, ps9, D9, C9, O9, P9, L9, K9', I9', hbk9, hrow9, hfree9, hlv9, N9⟩
            · refine KD.pan c9 ?_
              simp only [k36_a, WD, WK, vop, evAll, evOpt, evParts, vbuiltin, vun, vextract, Nat.reduceLT, Nat.reduceEqDiff, ↓reduceIte, reduceCtorEq, Nat.reduceAdd, Int.reduceLT, Int.reduceNeg, valloc_std, noSB, vhot, List.nil_append, List.append_nil]
              exact fault s9 _ _ s _ w _ fs9 he (by rw [hop, hdrop, openL, if_neg hz, if_neg hsk, if_pos he]) D9 K9' I9' hbk9 C9 (by simp [upd_some, g4]) (by simp [upd_some, g5]) (by simp [upd_some, g6']) (by simp [upd_some, g7])
            · refine KD.ret c9 ?_
              simp only [k36_a, WD, WK, vop, evAll, evOpt, evParts, vbuiltin, vun, vextract, Nat.reduceLT, Nat.reduceEqDiff, ↓reduceIte, reduceCtorEq, Nat.reduceAdd, Int.reduceLT, Int.reduceNeg, valloc_std, noSB, vhot, h30, g4, g5, g6', g7, m1, m2, m3, m4, m5, m6, m7, m8, m9, wFA (b + 4) 2 (by omega), wFA (b + 4) 3 (by omega), hwi]
              exact ⟨i + 1, ⟨by simp [upd_some], by omega, (segD L[i] dd).2, fs9, s.more (numW L[i]) (segD L[i] dd).1.2, w', ps9, D9, hso.1, by have := hso.2; omega, by simp [upd_some, h8, OpS.more, hbr], C9, O9, P9, L9, K9', I9', hbk9, by rw [hop, hdrop, openL, if_neg hz, if_neg hsk, if_neg (by omega)], hrow9, hfree9, hlv9, N9⟩, by omega⟩
    · have hlt' : ¬ (i : Int) < (L.length : Nat) := by omega
      have hdrop : L.drop i = [] := List.drop_of_length_le (by omega)
      rw [hdrop, openL] at hop
      have h1w : one w = true := O.o.row.one
      have last : ∀ (u1 : St) (f : Nat), KS (foot r rm fs) σ u1 → (∀ x, KS x u u1 → True) → u1.objs[b]? = some (.cells [.optr (b + 4) 0]) → u1.objs[b + 1]? = some (.cells [w]) → u1.objs[b + 2]? = some (.cells [.int .i64 (f : Nat)]) → u1.objs[b + 3]? = some (.cells [.int .i64 0]) → u1.objs[b + 4]? = some (.cells (wcells r per s.wf s.next 0)) → DiskAt u1 r dd rm fu → f = s.from →
          ∃ t1 t2 t3 t4, vstore Tryd.prog u1 50 (.optr b 0) (.optr (b + 4) 0) = some t1 ∧ vstore Tryd.prog t1 37 (.optr (b + 1) 0) w = some t2 ∧ vstore Tryd.prog t2 3 (.optr (b + 2) 0) (.int .i64 (f : Nat)) = some t3 ∧ vstore Tryd.prog t3 24 (.optr (b + 3) 0) (.int .i64 0) = some t4 ∧
            vload Tryd.prog t1.objs 37 (.optr (b + 1) 0) = some w ∧ vload Tryd.prog t1.objs 3 (.optr (b + 2) 0) = some (.int .i64 (f : Nat)) ∧ vload Tryd.prog t2.objs 3 (.optr (b + 2) 0) = some (.int .i64 (f : Nat)) ∧
            ∀ (e' : Nat → V), e' 4 = .optr b 0 → e' 5 = .optr (b + 1) 0 → e' 6 = .optr (b + 2) 0 → e' 7 = .optr (b + 3) 0 → fnDK Tryd.prog prims 84 [ResultVar.cell 4 50, ResultVar.cell 5 37, ResultVar.cell 6 3, ResultVar.cell 7 24] P .ret e' t4 [(54, [V.optr (b + 3) 0, V.optr b 0, V.optr (b + 1) 0, V.optr (b + 2) 0])] := by
        intro u1 f K1 _ c0 c1 c2 c3 c4 D1 hfr
        obtain ⟨t1, y1, a1, x1⟩ := put_cell (u := .optr (b + 4) 0) c0 SWp rfl
        obtain ⟨t2, y2, a2, x2⟩ := put_cell (u := w) (x1.ko _ _ (by simp) c1) SRs h1w
        obtain ⟨t3, y3, a3, x3⟩ := put_cell (u := .int .i64 (f : Nat)) (x2.ko _ _ (by simp) (x1.ko _ _ (by simp) c2)) S3 rfl
        obtain ⟨t4, y4, a4, x4⟩ := put_cell (u := .int .i64 0) (x3.ko _ _ (by simp) (x2.ko _ _ (by simp) (x1.ko _ _ (by simp) c3))) SEr rfl
        have KK : KS [b, b + 1, b + 2, b + 3] u1 t4 := (((x1.over (by simp)).trans' (x2.over (by simp))).trans' (x3.over (by simp))).trans' (x4.over (by simp))
        refine ⟨t1, t2, t3, t4, y1, y2, y3, y4, cell_load (x1.ko _ _ (by simp) c1) GRs, cell_load (x1.ko _ _ (by simp) c2) G3, cell_load (x2.ko _ _ (by simp) (x1.ko _ _ (by simp) c2)) G3, fun e' k4 k5 k6 k7 => ?_⟩
        have z0 := x4.ko _ _ (by simp) (x3.ko _ _ (by simp) (x2.ko _ _ (by simp) a1))
        have z1 := x4.ko _ _ (by simp) (x3.ko _ _ (by simp) a2)
        have z2 := x4.ko _ _ (by simp) a3
        have D4' : DiskAt t4 r dd rm fu := D1.keep KK (fun x hx => by
          intro hm
          simp at hm
          rcases hm with rfl | rfl | rfl | rfl
          · exact hbk 0 (by omega) hx
          · exact hbk 1 (by omega) hx
          · exact hbk 2 (by omega) hx
          · exact hbk 3 (by omega) hx)
        have K4' : KS (foot r rm fs) σ t4 := K1.trans KK (fun x hx => by simp at hx; exact .inr (by omega))
        refine ⟨t4, Leave.cons (wopen1_calm a4) Leave.nil, [.optr (b + 4) 0, w, .int .i64 (f : Nat), .int .i64 0], ?_, hP _ _ ?_⟩
        · rw [vresults_cell (by decide), k4, cell_load z0 GWp, vresults_cell (by decide), k5, cell_load z1 GRs, vresults_cell (by decide), k6, cell_load z2 G3, vresults_cell (by decide), k7, cell_load a4 GEr, vresults_nil]
        · rw [hop]
          exact ⟨fu, D4', K4', I, .inr ⟨rfl, b + 4, w, ps, by rw [hfr]; rfl, O.pts, O.b, hps, KK.ko _ _ (by simp) c4, by omega, hbk 4 (by omega)⟩⟩
      by_cases hf0 : s.first = 0
      · have hf0' : ((s.first : Nat) : Int) = 0 := by omega
        obtain ⟨u1, y0, a0, x0⟩ := put_cell (u := .int .i64 1) C.c2 S3 rfl
        have C0 := x0.ko _ _ (by simp) C.c0
        have C1 := x0.ko _ _ (by simp) C.c1
        have C3 := x0.ko _ _ (by simp) C.c3
        have C4 := x0.ko _ _ (by simp) C.c4
        obtain ⟨t1, t2, t3, t4, y1, y2, y3, y4, m1, m2, m3, fin⟩ := last u1 1 (K.trans x0 (fun x hx => by simp at hx; exact .inr (by omega))) (fun _ _ => trivial) C0 C1 a0 C3 C4 (D.keep x0 (fun x hx hm => by simp at hm; subst hm; exact hbk 2 (by omega) hx)) (by unfold OpS.from; rw [if_pos hf0])
        have y3 : vstore Tryd.prog t2 3 (.optr (b + 2) 0) (.int .i64 1) = some t3 := y3
        have m2 : vload Tryd.prog t1.objs 3 (.optr (b + 2) 0) = some (.int .i64 1) := m2
        have m3 : vload Tryd.prog t2.objs 3 (.optr (b + 2) 0) = some (.int .i64 1) := m3
        simp only [k36_a, WD, WK, vop, evAll, evOpt, evParts, vbuiltin, vun, vextract, Nat.reduceLT, Nat.reduceEqDiff, ↓reduceIte, reduceCtorEq, Nat.reduceAdd, Int.reduceLT, Int.reduceNeg, valloc_std, noSB, vhot, h30, g29, hlt', decide_false, decide_true, eq_self, g4, g5, g6', g7, ld2, hf0', y0, cell_load C0 GWp, cell_load C1 GRs, cell_load a0 G3, y1, y2, y3, y4, m1, m2, m3, List.nil_append, List.append_nil]
        exact fin _ (by simp [upd_some, g4]) (by simp [upd_some, g5]) (by simp [upd_some, g6']) (by simp [upd_some, g7])
      · have hf0' : ¬ ((s.first : Nat) : Int) = 0 := by omega
        obtain ⟨t1, t2, t3, t4, y1, y2, y3, y4, m1, m2, m3, fin⟩ := last u s.first K (fun _ _ => trivial) C.c0 C.c1 C.c2 C.c3 C.c4 D (by unfold OpS.from; rw [if_neg hf0])
        simp only [k36_a, WD, WK, vop, evAll, evOpt, evParts, vbuiltin, vun, vextract, Nat.reduceLT, Nat.reduceEqDiff, ↓reduceIte, reduceCtorEq, Nat.reduceAdd, Int.reduceLT, Int.reduceNeg, valloc_std, noSB, vhot, h30, g29, hlt', decide_false, g4, g5, g6', g7, ld0, ld1, ld2, hf0', y1, y2, y3, y4, m1, m2, m3, List.nil_append, List.append_nil]
        exact fin _ (by simp [upd_some, g4]) (by simp [upd_some, g5]) (by simp [upd_some, g6']) (by simp [upd_some, g7])
end Go.Proofs.YtnegdinonfjdfaaDoor.Q

/- wal.Append. -/
set_option linter.unusedVariables false
set_option linter.unusedSimpArgs false
set_option maxRecDepth 100000
namespace Go.Proofs.YtnegdinonfjdfaaDoor.Q
open Go Go.RowKit Go.Proofs
/-! ### Plainly -/
structure Jn where
  per : Int
  wf : Nat
  next : Nat
  sick : Nat
def Jn.cells (j : Jn) (r : Nat) : List V := wcells r j.per j.wf j.next j.sick
def Jn.to (j : Jn) : Nat := if j.per ≤ (j.next : Int) - j.wf then j.next else j.wf
def appW (b : List UInt8) (j : Jn) (d : Dk) : (Nat × Nat) × Jn × Dk :=
  if 65536 < b.length then ((0, 3), j, d) else
  if j.sick ≠ 0 then ((0, j.sick), j, d) else
  if nameP 106 1 (j.to : Nat) = [] then ((0, 22), j, d) else
  let a := appendD (nameP 106 1 (j.to : Nat)) (frameB b) d
  if a.1 = 3 ∨ a.1 = 22 then ((0, 22), j, a.2) else
  let y : Nat × Dk := if a.1 = 0 then syncD (nameP 106 1 (j.to : Nat)) a.2 else a
  if y.1 ≠ 0 then ((0, y.1), { j with sick := y.1 }, y.2) else ((j.next, 0), { j with wf := j.to, next := j.next + 1 }, y.2)
theorem TWp : Tryd.prog.underlying 50 = some (.pointer 86) := by kernel_rfl
theorem GDp : isAggT Tryd.prog 32 = some false := by kernel_rfl
theorem wapp_sees {σ : St} {r rm p : Nat} {d : Dk} {fs : List Ent} {j : Jn} {x : V} {b : List UInt8} (h : DiskAt σ r d rm fs) (hok : d.Ok) (hw : d.writes ≤ 1000000000) (hp : σ.objs[p]? = some (.cells (j.cells r))) (hpf : p ∉ foot r rm fs) (hb : BtsV x b) (hl : b.length ≤ 100000000) (hj : j.wf ≤ j.next) (hn : j.next ≤ 4000000000) :
    ∃ q σ', Does Tryd.prog prims 38 [.optr p 0, x] σ q σ' ∧ (∃ fs', DiskAt σ' r (appW b j d).2.2 rm fs' ∧ KS (p :: foot r rm fs) σ σ' ∧ (∀ y ∈ foot r rm fs', y ∈ foot r rm fs ∨ σ.objs.length ≤ y) ∧ p ∉ foot r rm fs' ∧ σ'.objs[p]? = some (.cells ((appW b j d).2.1.cells r)) ∧ q = .ret (.tuple [.int .i64 ((appW b j d).1.1 : Nat), .int .i64 ((appW b j d).1.2 : Nat)])) := by
  suffices key : ∀ P : VRes → St → Prop, (∀ q σ', (∃ fs', DiskAt σ' r (appW b j d).2.2 rm fs' ∧ KS (p :: foot r rm fs) σ σ' ∧ (∀ y ∈ foot r rm fs', y ∈ foot r rm fs ∨ σ.objs.length ≤ y) ∧ p ∉ foot r rm fs' ∧ σ'.objs[p]? = some (.cells ((appW b j d).2.1.cells r)) ∧ q = .ret (.tuple [.int .i64 ((appW b j d).1.1 : Nat), .int .i64 ((appW b j d).1.2 : Nat)])) → P q σ') → ∃ q σ', Does Tryd.prog prims 38 [.optr p 0, x] σ q σ' ∧ P q σ' from key _ fun _ _ h => h
  intro P hP
  apply k38_is.does (by simp)
  obtain ⟨q1, s1, c1, v1, rfl, b1, k1⟩ := frame_sees (σ := σ) hb hl
  have D1 := h.pushes (k1.ks [])
  have K1 : KS [] σ s1 := k1.ks []
  have P1 := K1.ko _ _ (by simp) hp
  have lS : ∀ s : St, s.objs[p]? = some (.cells (j.cells r)) → vload Tryd.prog s.objs 24 (.optr p 4) = some (.int .i64 (j.sick : Nat)) := fun s h => by rw [vload_obj h GEr]; rfl
  have lN : ∀ s : St, s.objs[p]? = some (.cells (j.cells r)) → vload Tryd.prog s.objs 3 (.optr p 3) = some (.int .i64 (j.next : Nat)) := fun s h => by rw [vload_obj h G3]; rfl
  have lF : ∀ s : St, s.objs[p]? = some (.cells (j.cells r)) → vload Tryd.prog s.objs 3 (.optr p 2) = some (.int .i64 (j.wf : Nat)) := fun s h => by rw [vload_obj h G3]; rfl
  have lP : ∀ s : St, s.objs[p]? = some (.cells (j.cells r)) → vload Tryd.prog s.objs 3 (.optr p 1) = some (.int .i64 j.per) := fun s h => by rw [vload_obj h G3]; rfl
  have lD : ∀ s : St, s.objs[p]? = some (.cells (j.cells r)) → vload Tryd.prog s.objs 32 (.optr p 0) = some (.optr r 0) := fun s h => by rw [vload_obj h GDp]; rfl
  have I1 : ∀ y ∈ foot r rm fs, y ∈ foot r rm fs ∨ σ.objs.length ≤ y := fun y hy => .inl hy
  simp only [k38_a, WK, vop, evAll, evOpt, evParts, vbuiltin, vun, vextract, Nat.reduceLT, Nat.reduceEqDiff, ↓reduceIte, reduceCtorEq, Nat.reduceAdd, Int.reduceLT, Int.reduceNeg, valloc_std, noSB, vhot, List.getD_cons_zero, List.getD_cons_succ, ofNilP, eql_optr TWp]
  refine KD.ret c1 ?_
  by_cases h3 : 65536 < b.length
  · have eF : (frameS b).2 = 3 := by unfold frameS; rw [if_pos h3]
    have eA : appW b j d = ((0, 3), j, d) := by unfold appW; rw [if_pos h3]
    have n3 : ¬ ((3 : Nat) : Int) = 0 := by omega
    simp only [k38_a, WK, vop, evAll, evOpt, evParts, vbuiltin, vun, vextract, Nat.reduceLT, Nat.reduceEqDiff, ↓reduceIte, reduceCtorEq, Nat.reduceAdd, Int.reduceLT, Int.reduceNeg, valloc_std, noSB, vhot, eF, n3, decide_false, Bool.not_false]
    exact hP _ _ (by rw [eA]; exact ⟨fs, D1, K1.nils, I1, hpf, P1, rfl⟩)
  have eF : frameS b = (frameB b, 0) := by unfold frameS; rw [if_neg h3]
  rw [eF] at b1
  have b1 : BtsV v1 (frameB b) := b1
  simp only [k38_a, WK, vop, evAll, evOpt, evParts, vbuiltin, vun, vextract, Nat.reduceLT, Nat.reduceEqDiff, ↓reduceIte, reduceCtorEq, Nat.reduceAdd, Int.reduceLT, Int.reduceNeg, valloc_std, noSB, vhot, eF, Int.natCast_zero, eq_self, decide_true, Bool.not_true, wFA p 4 (by omega), lS s1 P1]
  by_cases hs : j.sick = 0
  rotate_left
  · have hs' : ¬ ((j.sick : Nat) : Int) = 0 := by omega
    have eA : appW b j d = ((0, j.sick), j, d) := by unfold appW; rw [if_neg h3, if_pos hs]
    simp only [k38_a, WK, vop, evAll, evOpt, evParts, vbuiltin, vun, vextract, Nat.reduceLT, Nat.reduceEqDiff, ↓reduceIte, reduceCtorEq, Nat.reduceAdd, Int.reduceLT, Int.reduceNeg, valloc_std, noSB, vhot, hs', decide_false, Bool.not_false, wFA p 4 (by omega), lS s1 P1]
    exact hP _ _ (by rw [eA]; exact ⟨fs, D1, K1.nils, I1, hpf, P1, rfl⟩)
  have hs' : ((j.sick : Nat) : Int) = 0 := by omega
  have hws : IntKind.i64.wrap (((j.next : Nat) : Int) - ((j.wf : Nat) : Int)) = ((j.next : Nat) : Int) - ((j.wf : Nat) : Int) := wrap_i64 (by omega) (by omega)
  obtain ⟨K, hK⟩ : ∃ K, K = seqC Tryd.prog prims 97 ((.seq (.region k38_r11) (.seq (.seq (.region k38_r12) (.cond (.tmp 51) (.seq (.region k38_r13) .ret) .skip)) (.seq (.region k38_r14) (.seq (.seq (.region k38_r15) (.cond (.tmp 64) (.seq (.region k38_r16) .ret) .skip)) (.seq (.seq (.region k38_r17) (.cond (.tmp 66) (.region k38_r18) .skip)) (.seq (.seq (.region k38_r19) (.cond (.tmp 74) (.seq (.region k38_r20) (.seq (.region k38_r21) .ret)) .skip)) (.seq (.region k38_r22) (.seq (.region k38_r23) .ret)))))))) : CC) (fnK Tryd.prog 97 [ResultVar.tmp 4, ResultVar.tmp 5] P) := ⟨_, rfl⟩
  obtain ⟨J, hJ⟩ : ∃ J, J = seqC Tryd.prog prims 97 ((.seq (.seq (.region k38_r19) (.cond (.tmp 74) (.seq (.region k38_r20) (.seq (.region k38_r21) .ret)) .skip)) (.seq (.region k38_r22) (.seq (.region k38_r23) .ret))) : CC) (fnK Tryd.prog 97 [ResultVar.tmp 4, ResultVar.tmp 5] P) := ⟨_, rfl⟩
  obtain ⟨nm, hnm⟩ : ∃ nm, nm = nameP 106 1 (j.to : Nat) := ⟨_, rfl⟩
  -- behind the writes
  have back : ∀ (e : Nat → V) (s : St) (y : Nat × Dk) (fy : List Ent), e 0 = .optr p 0 → e 8 = .int .i64 (j.to : Nat) → e 7 = .int .i64 (y.1 : Nat) → DiskAt s r y.2 rm fy → KS (p :: foot r rm fs) σ s → (∀ z ∈ foot r rm fy, z ∈ foot r rm fs ∨ σ.objs.length ≤ z) → p ∉ foot r rm fy → s.objs[p]? = some (.cells (j.cells r)) → appW b j d = (if y.1 ≠ 0 then ((0, y.1), { j with sick := y.1 }, y.2) else ((j.next, 0), { j with wf := j.to, next := j.next + 1 }, y.2)) → J .normal e s := by
    intro e s y fy g0 g8 g7 Dy Ky Iy hpy Py eA
    rw [hJ]
    by_cases hy : y.1 = 0
    · have hy' : ((y.1 : Nat) : Int) = 0 := by omega
      rw [if_neg (by omega)] at eA
      obtain ⟨t1, ht1⟩ : ∃ t1 : St, t1 = ⟨s.objs.set p (.cells (wcells r j.per j.to j.next j.sick)), s.toks⟩ := ⟨_, rfl⟩
      have y1 : vstore Tryd.prog s 3 (.optr p 2) (.int .i64 (j.to : Nat)) = some t1 := by rw [vstore_obj Py S3 rfl (by simp [Jn.cells, wcells]), ht1]; rfl
      have z1 : t1.objs[p]? = some (.cells (wcells r j.per j.to j.next j.sick)) := by rw [ht1]; exact obj_set Py
      have x1 : KS [p] s t1 := by rw [ht1]; exact KS.set (.inl (by simp)) _
      obtain ⟨t2, ht2⟩ : ∃ t2 : St, t2 = ⟨t1.objs.set p (.cells (wcells r j.per j.to (j.next + 1) j.sick)), t1.toks⟩ := ⟨_, rfl⟩
      have hwn : IntKind.i64.wrap (((j.next : Nat) : Int) + 1) = ((j.next + 1 : Nat) : Int) := by rw [wrap_i64 (by omega) (by omega)]; omega
      have hwm : IntKind.i64.wrap (((j.next + 1 : Nat) : Int) - 1) = ((j.next : Nat) : Int) := by rw [wrap_i64 (by omega) (by omega)]; omega
      have y2 : vstore Tryd.prog t1 3 (.optr p 3) (.int .i64 ((j.next + 1 : Nat) : Int)) = some t2 := by rw [vstore_obj z1 S3 rfl (by simp [wcells]), ht2]; rfl
      have z2 : t2.objs[p]? = some (.cells (wcells r j.per j.to (j.next + 1) j.sick)) := by rw [ht2]; exact obj_set z1
      have x2 : KS [p] t1 t2 := by rw [ht2]; exact KS.set (.inl (by simp)) _
      have l2 : vload Tryd.prog t2.objs 3 (.optr p 3) = some (.int .i64 ((j.next + 1 : Nat) : Int)) := by rw [vload_obj z2 G3]; rfl
      have KK := x1.trans' x2
      simp only [k38_a, WK, vop, evAll, evOpt, evParts, vbuiltin, vun, vextract, Nat.reduceLT, Nat.reduceEqDiff, ↓reduceIte, reduceCtorEq, Nat.reduceAdd, Int.reduceLT, Int.reduceNeg, valloc_std, noSB, vhot, g0, g7, g8, hy', eq_self, decide_true, Bool.not_true, wFA p 3 (by omega), wFA p 2 (by omega), lN s Py, hwn, y1, y2, l2, hwm]
      refine hP _ _ ?_
      rw [eA]
      exact ⟨fy, Dy.keep KK (fun x hx hm => by simp at hm; subst hm; exact hpy hx), Ky.trans KK (fun x hx => by simp at hx; subst hx; exact .inl (by simp)), Iy, hpy, z2, rfl⟩
    · have hy' : ¬ ((y.1 : Nat) : Int) = 0 := by omega
      rw [if_pos hy] at eA
      obtain ⟨t1, ht1⟩ : ∃ t1 : St, t1 = ⟨s.objs.set p (.cells (wcells r j.per j.wf j.next y.1)), s.toks⟩ := ⟨_, rfl⟩
      have y1 : vstore Tryd.prog s 24 (.optr p 4) (.int .i64 (y.1 : Nat)) = some t1 := by rw [vstore_obj Py SEr rfl (by simp [Jn.cells, wcells]), ht1]; rfl
      have z1 : t1.objs[p]? = some (.cells (wcells r j.per j.wf j.next y.1)) := by rw [ht1]; exact obj_set Py
      have x1 : KS [p] s t1 := by rw [ht1]; exact KS.set (.inl (by simp)) _
      simp only [k38_a, WK, vop, evAll, evOpt, evParts, vbuiltin, vun, vextract, Nat.reduceLT, Nat.reduceEqDiff, ↓reduceIte, reduceCtorEq, Nat.reduceAdd, Int.reduceLT, Int.reduceNeg, valloc_std, noSB, vhot, g0, g7, hy', decide_false, Bool.not_false, wFA p 4 (by omega), y1]
      refine hP _ _ ?_
      rw [eA]
      exact ⟨fy, Dy.keep x1 (fun x hx hm => by simp at hm; subst hm; exact hpy hx), Ky.trans x1 (fun x hx => by simp at hx; subst hx; exact .inl (by simp)), Iy, hpy, z1, rfl⟩
  have tail : ∀ (e : Nat → V), e 0 = .optr p 0 → e 8 = .int .i64 (j.to : Nat) → e 6 = v1 → K .normal e s1 := by
    intro e g0 g8 g6
    rw [hK]
    have oe : ofVal (Value.string { data := #[] }) = some (.str []) := rfl
    simp only [k38_a, WK, vop, evAll, evOpt, evParts, vbuiltin, vun, vextract, Nat.reduceLT, Nat.reduceEqDiff, ↓reduceIte, reduceCtorEq, Nat.reduceAdd, Int.reduceLT, Int.reduceNeg, valloc_std, noSB, vhot, g8]
    refine KD.ret (wname_does (j.to : Nat)) ?_
    rw [← hnm]
    by_cases hnn : nm = []
    · have eA : appW b j d = ((0, 22), j, d) := by unfold appW; rw [if_neg h3, if_neg (by omega), ← hnm, if_pos hnn]
      simp only [k38_a, WK, vop, evAll, evOpt, evParts, vbuiltin, vun, vextract, Nat.reduceLT, Nat.reduceEqDiff, ↓reduceIte, reduceCtorEq, Nat.reduceAdd, Int.reduceLT, Int.reduceNeg, valloc_std, noSB, vhot, oe, sbE, hnn, eq_self, decide_true]
      exact hP _ _ (by rw [eA]; exact ⟨fs, D1, K1.nils, I1, hpf, P1, rfl⟩)
    obtain ⟨q2, s2, c2, rfl, fs2, D2, K2, I2⟩ := append_sees (n := nm) D1 hok (by omega) (.inl b1 : RB s1 v1 _) (by rw [frameB_len]; omega)
    have P2 := K2.ko _ _ hpf P1
    have hla := (List.getElem?_eq_some_iff.1 P1).1
    have hpf2 : p ∉ foot r rm fs2 := fun hx => by
      rcases I2 _ hx with h | h
      · exact hpf h
      · omega
    have I2' : ∀ z ∈ foot r rm fs2, z ∈ foot r rm fs ∨ σ.objs.length ≤ z := fun z hz => by
      rcases I2 z hz with h | h
      · exact .inl h
      · have := K1.le; exact .inr (by omega)
    have K2' : KS (p :: foot r rm fs) σ s2 := K1.nils.trans K2 (fun z hz => .inl (List.mem_cons_of_mem _ hz))
    simp only [k38_a, WK, vop, evAll, evOpt, evParts, vbuiltin, vun, vextract, Nat.reduceLT, Nat.reduceEqDiff, ↓reduceIte, reduceCtorEq, Nat.reduceAdd, Int.reduceLT, Int.reduceNeg, valloc_std, noSB, vhot, oe, sbE, hnn, decide_false, g0, g6, wFA p 0 (by omega), lD s1 P1]
    refine KD.ret c2 ?_
    by_cases hfull : (appendD nm (frameB b) d).1 = 3 ∨ (appendD nm (frameB b) d).1 = 22
    · have eA : appW b j d = ((0, 22), j, (appendD nm (frameB b) d).2) := by unfold appW; rw [if_neg h3, if_neg (by omega), ← hnm, if_neg hnn]; simp only; rw [if_pos hfull]
      have done := hP (.ret (.tuple [.int .i64 0, .int .i64 22])) s2 (by rw [eA]; exact ⟨fs2, D2, K2', I2', hpf2, P2, rfl⟩)
      rcases hfull with h | h
      · rw [h]
        have e3 : (((3 : Nat) : Int) = 3) = True := eq_true rfl
        simp only [k38_a, WK, vop, evAll, evOpt, evParts, vbuiltin, vun, vextract, Nat.reduceLT, Nat.reduceEqDiff, ↓reduceIte, reduceCtorEq, Nat.reduceAdd, Int.reduceLT, Int.reduceNeg, valloc_std, noSB, vhot, e3, decide_true, eq_self]
        exact done
      · rw [h]
        have e3 : ¬ ((22 : Nat) : Int) = 3 := by omega
        have e22 : (((22 : Nat) : Int) = 22) = True := eq_true rfl
        simp only [k38_a, WK, vop, evAll, evOpt, evParts, vbuiltin, vun, vextract, Nat.reduceLT, Nat.reduceEqDiff, ↓reduceIte, reduceCtorEq, Nat.reduceAdd, Int.reduceLT, Int.reduceNeg, valloc_std, noSB, vhot, e3, e22, decide_true, decide_false, eq_self]
        exact done
    · have n3 : ¬ (((appendD nm (frameB b) d).1 : Nat) : Int) = 3 := by omega
      have n22 : ¬ (((appendD nm (frameB b) d).1 : Nat) : Int) = 22 := by omega
      have eA : appW b j d = (if (if (appendD nm (frameB b) d).1 = 0 then syncD nm (appendD nm (frameB b) d).2 else appendD nm (frameB b) d).1 ≠ 0 then ((0, (if (appendD nm (frameB b) d).1 = 0 then syncD nm (appendD nm (frameB b) d).2 else appendD nm (frameB b) d).1), { j with sick := (if (appendD nm (frameB b) d).1 = 0 then syncD nm (appendD nm (frameB b) d).2 else appendD nm (frameB b) d).1 }, (if (appendD nm (frameB b) d).1 = 0 then syncD nm (appendD nm (frameB b) d).2 else appendD nm (frameB b) d).2) else ((j.next, 0), { j with wf := j.to, next := j.next + 1 }, (if (appendD nm (frameB b) d).1 = 0 then syncD nm (appendD nm (frameB b) d).2 else appendD nm (frameB b) d).2)) := by
        unfold appW; rw [if_neg h3, if_neg (by omega), ← hnm, if_neg hnn]; simp only; rw [if_neg hfull]
      simp only [k38_a, WK, vop, evAll, evOpt, evParts, vbuiltin, vun, vextract, Nat.reduceLT, Nat.reduceEqDiff, ↓reduceIte, reduceCtorEq, Nat.reduceAdd, Int.reduceLT, Int.reduceNeg, valloc_std, noSB, vhot, n3, n22, decide_false, Bool.not_false]
      rw [← hJ]
      by_cases h0 : (appendD nm (frameB b) d).1 = 0
      · have h0' : (((appendD nm (frameB b) d).1 : Nat) : Int) = 0 := by omega
        obtain ⟨ok2, hw2⟩ := append_ok (n := nm) (b := frameB b) hok
        obtain ⟨q3, s3, c3, rfl, fs3, D3, K3, I3⟩ := sync_sees (n := nm) D2 ok2 (by omega)
        simp only [k38_a, WK, vop, evAll, evOpt, evParts, vbuiltin, vun, vextract, Nat.reduceLT, Nat.reduceEqDiff, ↓reduceIte, reduceCtorEq, Nat.reduceAdd, Int.reduceLT, Int.reduceNeg, valloc_std, noSB, vhot, h0', eq_self, decide_true, g0, wFA p 0 (by omega), lD s2 P2]
        refine KD.ret c3 ?_
        simp only [k38_a, WK, vop, evAll, evOpt, evParts, vbuiltin, vun, vextract, Nat.reduceLT, Nat.reduceEqDiff, ↓reduceIte, reduceCtorEq, Nat.reduceAdd, Int.reduceLT, Int.reduceNeg, valloc_std, noSB, vhot]
        have hla2 := (List.getElem?_eq_some_iff.1 P2).1
        refine back _ s3 (syncD nm (appendD nm (frameB b) d).2) fs3 (by simp [upd_some, g0]) (by simp [upd_some, g8]) (by simp [upd_some]) D3 (K2'.trans K3 (fun z hz => ?_)) (fun z hz => ?_) (fun hx => ?_) (K3.ko _ _ hpf2 P2) (by rw [eA, if_pos h0])
        · rcases I2' z hz with h | h
          · exact .inl (List.mem_cons_of_mem _ h)
          · exact .inr h
        · rcases I3 z hz with h | h
          · exact I2' z h
          · have := K2'.le; exact .inr (by omega)
        · rcases I3 _ hx with h | h
          · exact hpf2 h
          · omega
      · have h0' : ¬ (((appendD nm (frameB b) d).1 : Nat) : Int) = 0 := by omega
        simp only [k38_a, WK, vop, evAll, evOpt, evParts, vbuiltin, vun, vextract, Nat.reduceLT, Nat.reduceEqDiff, ↓reduceIte, reduceCtorEq, Nat.reduceAdd, Int.reduceLT, Int.reduceNeg, valloc_std, noSB, vhot, h0', decide_false]
        exact back _ s2 (appendD nm (frameB b) d) fs2 (by simp [upd_some, g0]) (by simp [upd_some, g8]) (by simp [upd_some]) D2 K2' I2' hpf2 P2 (by rw [eA, if_neg h0])
  simp only [k38_a, WK, vop, evAll, evOpt, evParts, vbuiltin, vun, vextract, Nat.reduceLT, Nat.reduceEqDiff, ↓reduceIte, reduceCtorEq, Nat.reduceAdd, Int.reduceLT, Int.reduceNeg, valloc_std, noSB, vhot, hs', decide_true, eq_self, Bool.not_true, wFA p 2 (by omega), wFA p 3 (by omega), wFA p 1 (by omega), lF s1 P1, lN s1 P1, lP s1 P1, hws]
  rw [← hK]
  by_cases hto : j.per ≤ ((j.next : Nat) : Int) - ((j.wf : Nat) : Int)
  · have e1 : j.to = j.next := by unfold Jn.to; rw [if_pos hto]
    simp only [k38_a, WK, vop, evAll, evOpt, evParts, vbuiltin, vun, vextract, Nat.reduceLT, Nat.reduceEqDiff, ↓reduceIte, reduceCtorEq, Nat.reduceAdd, Int.reduceLT, Int.reduceNeg, valloc_std, noSB, vhot, hto, decide_true, wFA p 3 (by omega), lN s1 P1]
    exact tail _ (by simp [upd_some]) (by simp [upd_some, e1]) (by simp [upd_some])
  · have e1 : j.to = j.wf := by unfold Jn.to; rw [if_neg hto]
    simp only [k38_a, WK, vop, evAll, evOpt, evParts, vbuiltin, vun, vextract, Nat.reduceLT, Nat.reduceEqDiff, ↓reduceIte, reduceCtorEq, Nat.reduceAdd, Int.reduceLT, Int.reduceNeg, valloc_std, noSB, vhot, hto, decide_false]
    exact tail _ (by simp [upd_some]) (by simp [upd_some, e1]) (by simp [upd_some])
end Go.Proofs.YtnegdinonfjdfaaDoor.Q

/- wal.Prune. -/
set_option linter.unusedVariables false
set_option linter.unusedSimpArgs false
set_option maxRecDepth 100000
namespace Go.Proofs.YtnegdinonfjdfaaDoor.Q
open Go Go.RowKit Go.Proofs
/-! ### Plainly -/
def startsD (l : List (List UInt8)) : List Nat := (l.map numW).filter fun n => decide (0 < n)
def pruneL (below : Int) : List Nat → Nat → Dk → (Nat × Nat) × Dk
  | a :: b :: l, g, d => if (b : Int) ≤ below then (if (removeD (nameP 106 1 (a : Nat)) d).1 ≠ 0 then ((0, (removeD (nameP 106 1 (a : Nat)) d).1), (removeD (nameP 106 1 (a : Nat)) d).2) else pruneL below (b :: l) (g + 1) (removeD (nameP 106 1 (a : Nat)) d).2) else ((g, 0), d)
  | _, g, d => ((g, 0), d)
def pruneW (below : Int) (j : Jn) (d : Dk) : (Nat × Nat) × Jn × Dk :=
  if j.sick ≠ 0 then ((0, j.sick), j, d) else
  let x := pruneL below (startsD (namesD d)) 0 d
  if x.1.2 ≠ 0 then (x.1, { j with sick := x.1.2 }, x.2) else (x.1, j, x.2)
theorem WIR : RowT Tryd.prog 38 3 1 8 := ⟨IT.u, by kernel_rfl, ⟨_, (by kernel_rfl : zeroT Tryd.prog 3 = some (.int .i64 0)), rfl⟩, by kernel_rfl, by omega⟩
def OwnI (m : Nat) (u : St) (w : V) (xs : List Nat) : Prop := OwnR 3 1 m u w ((xs.map fun n : Nat => (n : Int)).map i64V) xs.length
theorem OwnI.app {s u : St} {w : V} {xs : List Nat} (h : OwnI s.toks.length u w xs) (hk : Keep s u) (n : Nat) (hl : xs.length ≤ 1000) :
    ∃ w' u', vappend Tryd.prog u 38 38 w (.slice .exact 1 [.int .i64 (n : Nat)] 1) = some (w', u') ∧ OwnI s.toks.length u' w' (xs ++ [n]) ∧ Keep s u' := by
  obtain ⟨w', u', a1, a2, a3, a4⟩ := OwnR.appendO WIR (σ0 := s) (t2 := 38) h rfl hk (y := .slice .exact 1 [.int .i64 (n : Nat)] 1) (ys := [.int .i64 (n : Nat)]) (l := 1) (by simp [vnewsO, vnews, IT.u]) rfl rfl (by omega) (by omega)
  refine ⟨w', u', a1, ?_, a3⟩
  unfold OwnI
  simpa [i64V] using a2
theorem OwnI.keep {m : Nat} {s s' : St} {w : V} {xs : List Nat} (h : OwnI m s w xs) (hk : ∀ k, tokLive s.toks k = true → tokLive s'.toks k = true) : OwnI m s' w xs := OwnR.keep h hk
end Go.Proofs.YtnegdinonfjdfaaDoor.Q

/- What a Save does to a disk, with the power going anywhere: plainly. -/
set_option linter.unusedVariables false
set_option linter.unusedSimpArgs false
set_option maxRecDepth 100000
namespace Go.Proofs.YtnegdinonfjdfaaDoor.Q
open Go Go.RowKit Go.Proofs
/-! ### Saving keeps a disk right -/
/-! ### Names in their order -/
theorem digK_lt : ∀ (k a b : Nat), a < b → b < 10 ^ k → digK k a < digK k b
  | 0, a, b, h, hb => by simp at hb; omega
  | k + 1, a, b, h, hb => by
    have hmod : ∀ (k n : Nat), digK k n = digK k (n % 10 ^ k) := by
      intro k
      induction k with
      | zero => intro n; rfl
      | succ k ih =>
        intro n
        rw [digK, digK, ih (n / 10), ih (n % 10 ^ (k + 1) / 10)]
        have e1 : n % 10 ^ (k + 1) / 10 = n / 10 % 10 ^ k := by
          rw [Nat.pow_succ, Nat.mul_comm, Nat.mod_mul_right_div_self]
        have e2 : n % 10 ^ (k + 1) % 10 = n % 10 := Nat.mod_mod_of_dvd n ⟨10 ^ k, by rw [Nat.pow_succ, Nat.mul_comm]⟩
        rw [e1, e2, Nat.mod_mod]
    rw [digK_front, digK_front]
    rw [Nat.pow_succ] at hb
    have hp : 0 < 10 ^ k := Nat.pow_pos (by decide)
    have qa : a / 10 ^ k < 10 := by rw [Nat.div_lt_iff_lt_mul hp]; omega
    have qb : b / 10 ^ k < 10 := by rw [Nat.div_lt_iff_lt_mul hp]; omega
    have hq : a / 10 ^ k ≤ b / 10 ^ k := Nat.div_le_div_right (by omega)
    rw [Nat.mod_eq_of_lt qa, Nat.mod_eq_of_lt qb, List.cons_lt_cons_iff]
    rcases Nat.lt_or_ge (a / 10 ^ k) (b / 10 ^ k) with h1 | h1
    · left
      rw [UInt8.lt_iff_toNat_lt, UInt8.toNat_ofNat', UInt8.toNat_ofNat']
      generalize a / 10 ^ k = u at *
      generalize b / 10 ^ k = v at *
      omega
    · right
      have he : a / 10 ^ k = b / 10 ^ k := by omega
      refine ⟨by rw [he], ?_⟩
      rw [hmod k a, hmod k b]
      refine digK_lt k _ _ ?_ (Nat.mod_lt _ hp)
      have ha := Nat.div_add_mod a (10 ^ k)
      have hb2 := Nat.div_add_mod b (10 ^ k)
      rw [he] at ha
      omega
def nmS (a : Nat) : List UInt8 := 115 :: digK 9 a
theorem ne_of_lt' {a b : List UInt8} (h : a < b) : a ≠ b := fun e => lt_irrefl' b (by rw [e] at h; exact h)
/-! ### Lists of files -/
theorem putF_last {x : Fl} {l : List Fl} (h : ∀ f ∈ l, f.name < x.name) : putF x l = l ++ [x] := by
  unfold putF
  rw [List.filter_eq_self.2 (fun f hf => by simpa using h f hf), List.filter_eq_nil_iff.2 (fun f hf => by
    simp only [decide_eq_true_eq]
    exact fun h2 => lt_irrefl' _ (lt_trans' h2 (h f hf)))]
theorem getF_no {n : List UInt8} {l : List Fl} (h : ∀ f ∈ l, f.name ≠ n) : getF l n = none := by
  unfold getF
  rw [List.find?_eq_none]
  intro f hf
  simpa using h f hf
/-! ### One call, with the power going or not -/
/-- F0: what the power's going leaves; F1: what is there else. -/
def Did (d : Dk) (F0 F1 : List Fl) (r : Nat × Dk) : Prop :=
  (r.1 = 0 ∧ r.2.files = F1 ∧ r.2.on = true ∧ r.2.room = d.room ∧ r.2.keep = d.keep ∧ (d.armed = 0 → r.2.armed = 0)) ∨ (d.armed ≠ 0 ∧ r.1 = 20 ∧ r.2.on = false ∧ r.2.files = F0.map (offF d.keep) ∧ r.2.room = d.room)
theorem raw_two (d : Dk) : ((rawD d).1 = false ∧ (d.armed = 0 → (rawD d).2.armed = 0)) ∨ (d.armed ≠ 0 ∧ (rawD d).1 = true) := by
  unfold rawD
  split
  · exact .inl ⟨rfl, fun h => h⟩
  · rename_i h
    by_cases h1 : d.armed = 1
    · exact .inr ⟨h, by simp [h1]⟩
    · exact .inl ⟨by simp [h1], fun h0 => absurd h0 h⟩
theorem off_on {k : Int} {d : Dk} (h : d.on = true) : (offD k d).on = false ∧ (offD k d).files = d.files.map (offF k) ∧ (offD k d).room = d.room := by
  unfold offD
  rw [if_pos h]
  exact ⟨rfl, rfl, rfl⟩
theorem there_some {d : Dk} {n : List UInt8} {f : Fl} (hn : namedD n = true) (ho : d.on = true) (hg : getF d.files n = some f) : thereD d n = 0 := by
  unfold thereD
  rw [if_neg (by rw [readyD_yes hn ho]; simp), hg]
  rfl
theorem did_sync {d : Dk} {n : List UInt8} {f : Fl} (ho : d.on = true) (hn : namedD n = true) (hg : getF d.files n = some f) : Did d d.files (putF ⟨n, f.safe ++ f.wait, []⟩ d.files) (syncD n d) := by
  unfold syncD
  rw [if_neg (by rw [there_some hn ho hg]; simp), hg]
  simp only [Option.getD_some]
  obtain ⟨r1, r2, r3, r4, r5⟩ := raw_files d
  rcases raw_two d with ⟨h1, h2⟩ | ⟨h1, h2⟩
  · rw [if_neg (by rw [h1]; simp)]
    exact .inl ⟨rfl, rfl, r4.trans ho, r3, r2, h2⟩
  · rw [if_pos h2]
    obtain ⟨o1, o2, o3⟩ := off_on (k := d.keep) (d := (rawD d).2) (r4.trans ho)
    exact .inr ⟨h1, rfl, o1, by rw [o2, r1], o3.trans r3⟩
end Go.Proofs.YtnegdinonfjdfaaDoor.Q

/- Journals plainly: frames one behind the other, segments as files, opening, appending, pruning. -/
set_option linter.unusedVariables false
set_option linter.unusedSimpArgs false
set_option maxRecDepth 100000
namespace Go.Proofs.YtnegdinonfjdfaaDoor.Q
open Go Go.RowKit Go.Proofs
/-! ### Names -/
def nmJ (a : Nat) : List UInt8 := 106 :: digK 9 a
theorem nmJ_lt {a b : Nat} (h : a < b) (hb : b < 1000000000) : nmJ a < nmJ b := by
  unfold nmJ
  rw [List.cons_lt_cons_iff]
  exact .inr ⟨rfl, digK_lt 9 a b h hb⟩
theorem nmJ_name {n : Nat} (h1 : 1 ≤ n) (h : n < 1000000000) : nameP 106 1 (n : Int) = nmJ n := by
  unfold nameP nmJ
  rw [if_neg (by omega), Int.toNat_natCast]
theorem nmJ_num {n : Nat} (h : n < 1000000000) : numW (nmJ n) = n := by
  unfold numW nmJ
  rw [num_name h]
  rfl
theorem nmJ_named (n : Nat) : namedD (nmJ n) = true := by
  unfold namedD nmJ
  simp [digK_len]
/-! ### Frames one behind the other -/
def framesB (l : List (List UInt8)) : List UInt8 := (l.map frameB).flatten
theorem framesB_cons (r : List UInt8) (l : List (List UInt8)) : framesB (r :: l) = frameB r ++ framesB l := rfl
theorem framesB_snoc (r : List UInt8) (l : List (List UInt8)) : framesB (l ++ [r]) = framesB l ++ frameB r := by simp [framesB]
theorem framesB_len : ∀ l : List (List UInt8), l.length ≤ (framesB l).length
  | [] => Nat.le_refl _
  | r :: l => by
    have := framesB_len l
    rw [framesB_cons, List.length_append, frameB_len, List.length_cons]
    omega
/-- The beginning of a frame, not the whole. -/
def Stub (t : List UInt8) : Prop := ∃ r : List UInt8, r.length ≤ 65536 ∧ (∃ u, t ++ u = frameB r) ∧ t.length < 8 + r.length
theorem Stub.nil : Stub [] := ⟨[], by simp, ⟨frameB [], rfl⟩, by simp⟩
theorem take_pre {a t u : List UInt8} {k : Nat} (h : t ++ u = a) (hk : k ≤ t.length) : t.take k = a.take k := by
  rw [← h, List.take_append_of_le_length hk]
theorem frame_four (r : List UInt8) : (frameB r).take 4 = fourB (BitVec.ofNat 32 r.length) := by
  unfold frameB
  rw [List.append_assoc, List.take_append_of_le_length (by rw [fourB_len]; omega)]
  exact List.take_of_length_le (by rw [fourB_len]; omega)
theorem drop_at (p q : List UInt8) (k : Nat) : (p ++ q).drop (p.length + k) = q.drop k := by
  rw [List.drop_append, List.drop_of_length_le (by omega)]
  simp
theorem recAt_stub {p t : List UInt8} (h : Stub t) : recAt (p ++ t) p.length = none := by
  obtain ⟨r, hr, ⟨u, hu⟩, hl⟩ := h
  unfold recAt
  by_cases h8 : (p ++ t).length < p.length + 8
  · rw [if_pos h8]
  · rw [if_neg h8]
    rw [List.length_append] at h8
    have hw : w4 (p ++ t) p.length = BitVec.ofNat 32 r.length := by
      apply w4_of
      have := drop_at p t 0
      simp only [Nat.add_zero, List.drop_zero] at this
      rw [this, take_pre hu (by omega), frame_four]
    rw [hw, if_pos]
    right
    rw [List.length_append, BitVec.toNat_ofNat]
    omega
theorem recAt_frame {p q r : List UInt8} (hr : r.length ≤ 65536) : recAt (p ++ (frameB r ++ q)) p.length = some r.length := by
  have hl := frameB_len r
  have h0 := drop_at p (frameB r ++ q) 0
  have h4 := drop_at p (frameB r ++ q) 4
  have h8 := drop_at p (frameB r ++ q) 8
  simp only [Nat.add_zero, List.drop_zero] at h0
  have hw : w4 (p ++ (frameB r ++ q)) p.length = BitVec.ofNat 32 r.length := by
    apply w4_of
    rw [h0, List.take_append_of_le_length (by omega), frame_four]
  have hd4 : (frameB r).drop 4 = fourB (crcSum r) ++ r := by
    unfold frameB
    rw [List.append_assoc, List.drop_append_of_le_length (by rw [fourB_len]; omega), List.drop_of_length_le (by rw [fourB_len]; omega)]
    rfl
  have hd8 : (frameB r).drop 8 = r := by
    unfold frameB
    rw [List.drop_append_of_le_length (by rw [List.length_append, fourB_len, fourB_len]; omega), List.drop_of_length_le (by rw [List.length_append, fourB_len, fourB_len]; omega)]
    rfl
  have hw4 : w4 (p ++ (frameB r ++ q)) (p.length + 4) = crcSum r := by
    apply w4_of
    rw [h4, List.drop_append_of_le_length (by omega), hd4, List.append_assoc, List.take_append_of_le_length (by rw [fourB_len]; omega)]
    exact List.take_of_length_le (by rw [fourB_len]; omega)
  have hn : (BitVec.ofNat 32 r.length).toNat = r.length := by rw [BitVec.toNat_ofNat]; omega
  unfold recAt
  rw [if_neg (by simp only [List.length_append]; omega), hw, hn, if_neg (by simp only [List.length_append]; omega), h8, List.drop_append_of_le_length (by omega), hd8, List.take_append_of_le_length (by omega), List.take_of_length_le (by omega), hw4, if_pos rfl]
theorem recsK_frames {t : List UInt8} (ht : Stub t) : ∀ (l : List (List UInt8)) (p : List UInt8) (k : Nat), (∀ r ∈ l, r.length ≤ 65536) → l.length < k → recsK (p ++ (framesB l ++ t)) k p.length = (l, p.length + (framesB l).length)
  | [], p, k + 1, _, _ => by
    rw [recsK]
    have e : p ++ (framesB [] ++ t) = p ++ t := rfl
    rw [e, recAt_stub ht]
    rfl
  | r :: l, p, k + 1, hl, hk => by
    have hr := hl r (by simp)
    have e : p ++ (framesB (r :: l) ++ t) = p ++ (frameB r ++ (framesB l ++ t)) := by rw [framesB_cons, List.append_assoc]
    have e2 : p ++ (framesB (r :: l) ++ t) = (p ++ frameB r) ++ (framesB l ++ t) := by rw [framesB_cons]; simp
    have ih := recsK_frames ht l (p ++ frameB r) k (fun x hx => hl x (List.mem_cons_of_mem _ hx)) (by simp at hk; omega)
    have hlen : (p ++ frameB r).length = p.length + 8 + r.length := by rw [List.length_append, frameB_len]; omega
    have hd8 : (frameB r).drop 8 = r := by
      unfold frameB
      rw [List.drop_append_of_le_length (by rw [List.length_append, fourB_len, fourB_len]; omega), List.drop_of_length_le (by rw [List.length_append, fourB_len, fourB_len]; omega)]
      rfl
    have hfl := frameB_len r
    have hx : ((p ++ (framesB (r :: l) ++ t)).drop (p.length + 8)).take r.length = r := by
      rw [e, drop_at, List.drop_append_of_le_length (by omega), hd8, List.take_append_of_le_length (by omega), List.take_of_length_le (by omega)]
    have hrec : recAt (p ++ (framesB (r :: l) ++ t)) p.length = some r.length := by rw [e]; exact recAt_frame hr
    rw [← e2, hlen] at ih
    rw [recsK, hrec]
    simp only
    rw [hx, ih, framesB_cons, List.length_append, frameB_len]
    simp only [Prod.mk.injEq, true_and]
    omega
theorem recsB_frames {t : List UInt8} (ht : Stub t) (l : List (List UInt8)) (hl : ∀ r ∈ l, r.length ≤ 65536) : recsB (framesB l ++ t) = (l, (framesB l).length) := by
  have := recsK_frames ht l [] ((framesB l ++ t).length + 1) hl (by have := framesB_len l; rw [List.length_append]; omega)
  unfold recsB
  simpa using this
/-! ### Segments as files -/
abbrev Seg := Nat × List (List UInt8)
abbrev FJ := Seg × List UInt8
def fileX (x : FJ) : Fl := ⟨nmJ x.1.1, framesB x.1.2 ++ x.2, []⟩
def clr (x : FJ) : FJ := (x.1, [])
theorem fileX_clr (x : FJ) : (fileX (clr x)).name = (fileX x).name := rfl
structure GoodX (x : FJ) : Prop where
  lo : 1 ≤ x.1.1
  hi : x.1.1 < 1000000000
  tail : Stub x.2
  small : ∀ r ∈ x.1.2, r.length ≤ 65536
theorem GoodX.clr {x : FJ} (h : GoodX x) : GoodX (clr x) := ⟨h.lo, h.hi, Stub.nil, h.small⟩
abbrev Rise (l : List Fl) : Prop := l.Pairwise fun f g => f.name < g.name
theorem rise_mid {A B : List Fl} {y x : Fl} (h : Rise (A ++ y :: B)) (he : x.name = y.name) : Rise (A ++ x :: B) := by
  unfold Rise at h ⊢
  rw [List.pairwise_append, List.pairwise_cons] at h ⊢
  obtain ⟨h1, ⟨h2, h3⟩, h4⟩ := h
  refine ⟨h1, ⟨fun g hg => by rw [he]; exact h2 g hg, h3⟩, fun f hf g hg => ?_⟩
  rcases List.mem_cons.1 hg with rfl | hg
  · rw [he]; exact h4 f hf y (by simp)
  · exact h4 f hf g (List.mem_cons_of_mem _ hg)
theorem putF_mid {A B : List Fl} {y x : Fl} (h : Rise (A ++ y :: B)) (he : x.name = y.name) : putF x (A ++ y :: B) = A ++ x :: B := by
  unfold Rise at h
  rw [List.pairwise_append, List.pairwise_cons] at h
  obtain ⟨h1, ⟨h2, h3⟩, h4⟩ := h
  have a1 : ∀ f ∈ A, f.name < x.name := fun f hf => by rw [he]; exact h4 f hf y (by simp)
  have b1 : ∀ g ∈ B, x.name < g.name := fun g hg => by rw [he]; exact h2 g hg
  have h0 : ¬ x.name < x.name := lt_irrefl' _
  unfold putF
  rw [List.filter_append, List.filter_append, List.filter_cons_of_neg (by simp [← he, h0]), List.filter_cons_of_neg (by simp [← he, h0])]
  rw [List.filter_eq_self.2 (fun f hf => by simpa using a1 f hf), List.filter_eq_nil_iff.2 (fun g hg => by
    simp only [decide_eq_true_eq]
    exact fun h2 => lt_irrefl' _ (lt_trans' h2 (b1 g hg))), List.filter_eq_nil_iff.2 (fun f hf => by
    simp only [decide_eq_true_eq]
    exact fun h2 => lt_irrefl' _ (lt_trans' h2 (a1 f hf))), List.filter_eq_self.2 (fun g hg => by simpa using b1 g hg)]
  simp
theorem getF_mid {A B : List Fl} {y : Fl} (h : Rise (A ++ y :: B)) : getF (A ++ y :: B) y.name = some y := by
  apply getF_mem _ (by simp)
  rw [List.nodup_iff_pairwise_ne, List.pairwise_map]
  exact h.imp fun {f g} hlt (he : f.name = g.name) => lt_irrefl' f.name (by rw [← he] at hlt; exact hlt)
theorem off_still {k : Int} {l : List Fl} (h : ∀ f ∈ l, f.wait = []) : l.map (offF k) = l := by
  conv => rhs; rw [← List.map_id l]
  apply List.map_congr_left
  intro f hf
  obtain ⟨n, s, w⟩ := f
  have := h _ hf
  simp only at this
  subst this
  simp [offF]
theorem did_trunc {d : Dk} {n : List UInt8} {f : Fl} {k : Nat} (ho : d.on = true) (hn : namedD n = true) (hg : getF d.files n = some f) (hk : k ≤ f.len) : Did d d.files (putF ⟨n, f.safe.take k, f.wait.take (k - f.safe.length)⟩ d.files) (truncD n (k : Nat) d) := by
  unfold truncD
  rw [if_neg (by rw [there_some hn ho hg]; simp), hg]
  simp only [Option.getD_some]
  rw [if_neg (by rintro (h | h); omega; omega)]
  obtain ⟨r1, r2, r3, r4, r5⟩ := raw_files d
  rcases raw_two d with ⟨h1, h2⟩ | ⟨h1, h2⟩
  · rw [if_neg (by rw [h1]; simp)]
    exact .inl ⟨rfl, by simp, r4.trans ho, r3, r2, h2⟩
  · rw [if_pos h2]
    obtain ⟨o1, o2, o3⟩ := off_on (k := d.keep) (d := (rawD d).2) (r4.trans ho)
    exact .inr ⟨h1, rfl, o1, by rw [o2, r1], o3.trans r3⟩
/-- What a call may do: all is well; or the power goes. -/
structure Fine (d d' : Dk) (F : List Fl) : Prop where
  fl : d'.files = F
  on : d'.on = true
  room : d'.room = d.room
  keep : d'.keep = d.keep
  arm : d.armed = 0 → d'.armed = 0
structure Gone (d d' : Dk) : Prop where
  arm : d.armed ≠ 0
  off : d'.on = false
  room : d'.room = d.room
theorem seg_core {d : Dk} {A B : List Fl} {x : FJ} (hok : d.Ok) (ho : d.on = true) (hf : d.files = A ++ fileX x :: B) (hw : ∀ f ∈ d.files, f.wait = []) (hx : GoodX x) :
    ((segD (nmJ x.1.1) d).1 = (0, x.1.2) ∧ Fine d (segD (nmJ x.1.1) d).2 (A ++ fileX (clr x) :: B)) ∨ (Gone d (segD (nmJ x.1.1) d).2 ∧ (segD (nmJ x.1.1) d).1.1 = 20 ∧ ((segD (nmJ x.1.1) d).2.files = A ++ fileX x :: B ∨ (segD (nmJ x.1.1) d).2.files = A ++ fileX (clr x) :: B)) := by
  have hR : Rise (A ++ fileX x :: B) := by rw [← hf]; exact hok.rise
  have hg : getF d.files (nmJ x.1.1) = some (fileX x) := by rw [hf]; exact getF_mid hR
  have hnm := nmJ_named x.1.1
  have hread : readD (nmJ x.1.1) d = (0, framesB x.1.2 ++ x.2) := by
    unfold readD
    rw [if_neg (by rw [there_some hnm ho hg]; simp), hg]
    simp [fileX]
  have hrec := recsB_frames hx.tail x.1.2 hx.small
  -- taking the tail off
  obtain ⟨t, et⟩ : ∃ t : Nat × Dk, t = (if (recsB (readD (nmJ x.1.1) d).2).2 < (readD (nmJ x.1.1) d).2.length then truncD (nmJ x.1.1) ((recsB (readD (nmJ x.1.1) d).2).2 : Nat) d else (0, d)) := ⟨_, rfl⟩
  have hseg : segD (nmJ x.1.1) d = if t.1 ≠ 0 then ((t.1, []), t.2) else if (syncD (nmJ x.1.1) t.2).1 ≠ 0 then (((syncD (nmJ x.1.1) t.2).1, []), (syncD (nmJ x.1.1) t.2).2) else ((0, x.1.2), (syncD (nmJ x.1.1) t.2).2) := by
    unfold segD
    rw [if_neg (by rw [hread]; simp)]
    simp only
    rw [← et, hread]
    simp only
    rw [hrec]
  have ht : (t.1 = 0 ∧ Fine d t.2 (A ++ fileX (clr x) :: B) ∧ t.2.Ok) ∨ (Gone d t.2 ∧ t.1 = 20 ∧ t.2.files = A ++ fileX x :: B) := by
    rw [hread] at et
    simp only at et
    rw [hrec] at et
    simp only at et
    split at et
    · rename_i hlt
      have hD := did_trunc (k := (framesB x.1.2).length) ho hnm hg (by simp [fileX, Fl.len])
      have hok2 := (trunc_ok (n := nmJ x.1.1) (k := ((framesB x.1.2).length : Nat)) hok).1
      rw [← et] at hD hok2
      rcases hD with ⟨h1, h2, h3, h4, h5, h6⟩ | ⟨h1, h2, h3, h4, h5⟩
      · refine .inl ⟨h1, ⟨?_, h3, h4, h5, h6⟩, hok2⟩
        rw [h2, hf]
        refine (putF_mid hR (by rfl)).trans ?_
        simp [fileX, clr]
      · exact .inr ⟨⟨h1, h3, h5⟩, h2, by rw [h4, off_still hw, hf]⟩
    · rename_i hlt
      have h0 : x.2 = [] := by
        rw [List.length_append] at hlt
        exact List.length_eq_zero_iff.1 (by omega)
      have hcx : clr x = x := by
        obtain ⟨⟨a, b⟩, c⟩ := x
        simp only at h0
        subst h0
        rfl
      rw [et, hcx]
      exact .inl ⟨rfl, ⟨hf, ho, rfl, rfl, fun h => h⟩, hok⟩
  rcases ht with ⟨h1, h2, hok2⟩ | ⟨h1, h2, h3⟩
  · have hR2 := rise_mid hR (fileX_clr x)
    have hg2 : getF t.2.files (nmJ x.1.1) = some (fileX (clr x)) := by rw [h2.fl]; exact getF_mid hR2
    have hD := did_sync h2.on hnm hg2
    have hput : putF ⟨nmJ x.1.1, (fileX (clr x)).safe ++ (fileX (clr x)).wait, []⟩ t.2.files = A ++ fileX (clr x) :: B := by
      rw [h2.fl]
      refine (putF_mid hR2 (by rfl)).trans ?_
      simp [fileX, clr]
    have hw2 : ∀ f ∈ t.2.files, f.wait = [] := by
      intro f hf2
      rw [h2.fl] at hf2
      rcases List.mem_append.1 hf2 with h | h
      · exact hw f (by rw [hf]; simp [h])
      · rcases List.mem_cons.1 h with rfl | h
        · rfl
        · exact hw f (by rw [hf]; simp [h])
    obtain ⟨y, ey⟩ : ∃ y, y = syncD (nmJ x.1.1) t.2 := ⟨_, rfl⟩
    rw [← ey] at hD hseg
    rcases hD with ⟨g1, g2, g3, g4, g5, g6⟩ | ⟨g1, g2, g3, g4, g5⟩
    · left
      have e : segD (nmJ x.1.1) d = ((0, x.1.2), y.2) := by rw [hseg, if_neg (by omega), if_neg (by omega)]
      rw [e]
      exact ⟨rfl, by rw [← hput]; exact g2, g3, g4.trans h2.room, g5.trans h2.keep, fun h => g6 (h2.arm h)⟩
    · right
      have e : segD (nmJ x.1.1) d = ((y.1, []), y.2) := by rw [hseg, if_neg (by omega), if_pos (by omega)]
      rw [e]
      exact ⟨⟨fun h => g1 (h2.arm h), g3, g5.trans h2.room⟩, g2, .inr (by rw [g4, off_still hw2, h2.fl])⟩
  · right
    have e : segD (nmJ x.1.1) d = ((t.1, []), t.2) := by rw [hseg, if_pos (by omega)]
    rw [e]
    exact ⟨h1, h2, .inl h3⟩
/-! ### Opening -/
/-- Each begins where the one ahead of it ends. -/
def Chn : Nat → List FJ → Prop
  | _, [] => True
  | a, x :: B => x.1.1 = a ∧ Chn (a + x.1.2.length) B
def flat (B : List FJ) : List (List UInt8) := (B.map fun x => x.1.2).flatten
theorem flat_cons (x : FJ) (B : List FJ) : flat (x :: B) = x.1.2 ++ flat B := rfl
theorem flat_app (A B : List FJ) : flat (A ++ B) = flat A ++ flat B := by simp [flat]
/-- The same segments, some of them with nothing behind. -/
def Cl (B C : List FJ) : Prop := C.map Prod.fst = B.map Prod.fst ∧ ∀ x ∈ C, x.2 = [] ∨ x ∈ B
theorem Cl.refl (B : List FJ) : Cl B B := ⟨rfl, fun x hx => .inr hx⟩
theorem Cl.cons {B C : List FJ} {x y : FJ} (h : Cl B C) (he : y = x ∨ y = clr x) : Cl (x :: B) (y :: C) := by
  refine ⟨?_, fun z hz => ?_⟩
  · simp only [List.map_cons, h.1]
    rcases he with rfl | rfl <;> rfl
  · rcases List.mem_cons.1 hz with rfl | hz
    · rcases he with rfl | rfl
      · exact .inr (by simp)
      · exact .inl rfl
    · rcases h.2 z hz with h | h
      · exact .inl h
      · exact .inr (List.mem_cons_of_mem _ h)
theorem Cl.all (B : List FJ) : Cl B (B.map clr) := by
  refine ⟨by rw [List.map_map]; rfl, fun x hx => .inl ?_⟩
  obtain ⟨y, hy, rfl⟩ := List.mem_map.1 hx
  rfl
theorem flat_fst : ∀ {B C : List FJ}, C.map Prod.fst = B.map Prod.fst → flat C = flat B := by
  intro B C h
  unfold flat
  have e : ∀ L : List FJ, L.map (fun x => x.1.2) = (L.map Prod.fst).map Prod.snd := fun L => by rw [List.map_map]; rfl
  rw [e, e, h]
theorem chn_fst : ∀ {B C : List FJ} {a : Nat}, C.map Prod.fst = B.map Prod.fst → Chn a B → Chn a C
  | [], [], _, _, _ => trivial
  | [], _ :: _, _, h, _ => by simp at h
  | _ :: _, [], _, h, _ => by simp at h
  | x :: B, y :: C, a, h, hc => by
    simp only [List.map_cons, List.cons.injEq] at h
    exact ⟨by rw [h.1]; exact hc.1, by rw [h.1]; exact chn_fst h.2 hc.2⟩
theorem Cl.good {B C : List FJ} (h : Cl B C) (hB : ∀ x ∈ B, GoodX x) : ∀ x ∈ C, GoodX x := by
  intro x hx
  have h1 : x.1 ∈ B.map Prod.fst := by rw [← h.1]; exact List.mem_map_of_mem hx
  obtain ⟨y, hy, he⟩ := List.mem_map.1 h1
  have gy := hB y hy
  rcases h.2 x hx with h2 | h2
  · exact ⟨by rw [← he]; exact gy.lo, by rw [← he]; exact gy.hi, by rw [h2]; exact Stub.nil, by rw [← he]; exact gy.small⟩
  · exact hB x h2
def thru (s : OpS) (B : List FJ) : OpS := B.foldl (fun s x => s.more x.1.1 x.1.2) s
theorem thru_recs : ∀ (B : List FJ) (s : OpS), (thru s B).recs = s.recs ++ flat B
  | [], s => by simp [thru, flat]
  | x :: B, s => by
    have := thru_recs B (s.more x.1.1 x.1.2)
    unfold thru at this ⊢
    rw [List.foldl_cons, this, flat_cons]
    simp [OpS.more]
theorem thru_first : ∀ (B : List FJ) (s : OpS), s.first ≠ 0 → (thru s B).first = s.first
  | [], s, _ => rfl
  | x :: B, s, h => by
    have e : (s.more x.1.1 x.1.2).first = s.first := by simp [OpS.more, h]
    have := thru_first B (s.more x.1.1 x.1.2) (by rw [e]; exact h)
    unfold thru at this ⊢
    rw [List.foldl_cons, this, e]
theorem thru_from (x : FJ) (B : List FJ) (h : 1 ≤ x.1.1) : (thru op0 (x :: B)).from = x.1.1 := by
  have e : (op0.more x.1.1 x.1.2).first = x.1.1 := by simp [OpS.more, op0]
  have e2 : (thru op0 (x :: B)).first = x.1.1 := by
    have := thru_first B (op0.more x.1.1 x.1.2) (by omega)
    unfold thru at this ⊢
    rw [List.foldl_cons, this, e]
  unfold OpS.from
  rw [e2, if_neg (by omega)]
theorem Fine.trans {d d1 d2 : Dk} {F G : List Fl} (h : Fine d d1 F) (h2 : Fine d1 d2 G) : Fine d d2 G := ⟨h2.fl, h2.on, h2.room.trans h.room, h2.keep.trans h.keep, fun a => h2.arm (h.arm a)⟩
theorem waits {A : List Fl} {B : List FJ} (hA : ∀ f ∈ A, f.wait = []) : ∀ f ∈ A ++ B.map fileX, f.wait = [] := by
  intro f hf
  rcases List.mem_append.1 hf with h | h
  · exact hA f h
  · obtain ⟨x, _, rfl⟩ := List.mem_map.1 h
    rfl
theorem open_core : ∀ (B : List FJ) (A : List Fl) (a : Nat) (s : OpS) (d : Dk), d.Ok → d.on = true → d.files = A ++ B.map fileX → (∀ f ∈ A, f.wait = []) → (∀ x ∈ B, GoodX x) → s.brk = false → Chn a B → (s.first = 0 ∨ s.next = a) →
    ((openL (B.map fun x => nmJ x.1.1) s d).1 = (0, thru s B) ∧ Fine d (openL (B.map fun x => nmJ x.1.1) s d).2 (A ++ (B.map clr).map fileX)) ∨ (Gone d (openL (B.map fun x => nmJ x.1.1) s d).2 ∧ (openL (B.map fun x => nmJ x.1.1) s d).1.1 = 20 ∧ ∃ C, Cl B C ∧ (openL (B.map fun x => nmJ x.1.1) s d).2.files = A ++ C.map fileX)
  | [], A, a, s, d, hok, ho, hf, hw, hB, hb, hc, hs => .inl ⟨rfl, by rw [List.map_nil, List.map_nil]; exact ⟨hf, ho, rfl, rfl, fun h => h⟩⟩
  | x :: B, A, a, s, d, hok, ho, hf, hw, hB, hb, hc, hs => by
    have hx := hB x (by simp)
    have hn := nmJ_num hx.hi
    have hlo := hx.lo
    have hsk : ¬ s.skips (numW (nmJ x.1.1)) := by
      rw [hn]
      rintro ⟨h1, h2 | h2⟩
      · rw [hb] at h2; cases h2
      · rcases hs with h | h
        · omega
        · exact h2 (by rw [h]; exact hc.1)
    have hs1 := seg_core hok ho (by rw [hf, List.map_cons]) (by rw [hf]; exact waits hw) hx
    have hok1 := (seg_ok (n := nmJ x.1.1) hok).1
    obtain ⟨y, ey⟩ : ∃ y, y = segD (nmJ x.1.1) d := ⟨_, rfl⟩
    have hL : openL ((x :: B).map fun x => nmJ x.1.1) s d = if y.1.1 ≠ 0 then ((y.1.1, s), y.2) else openL (B.map fun x => nmJ x.1.1) (s.more x.1.1 y.1.2) y.2 := by
      rw [List.map_cons, openL, if_neg (by rw [hn]; omega), if_neg hsk, hn, ← ey]
    rw [← ey] at hs1 hok1
    rcases hs1 with ⟨h1, h2⟩ | ⟨h1, h2, h3⟩
    · have e0 : y.1.1 = 0 := by rw [h1]
      have e1 : y.1.2 = x.1.2 := by rw [h1]
      rw [if_neg (by omega), e1] at hL
      have ih := open_core B (A ++ [fileX (clr x)]) (a + x.1.2.length) (s.more x.1.1 x.1.2) y.2 hok1 h2.on (by rw [h2.fl]; simp) (fun f hf => by
        rcases List.mem_append.1 hf with h | h
        · exact hw f h
        · rw [List.mem_singleton.1 h]; rfl) (fun z hz => hB z (List.mem_cons_of_mem _ hz)) hb hc.2 (.inr (by simp [OpS.more, hc.1]))
      rw [← hL] at ih
      rcases ih with ⟨g1, g2⟩ | ⟨g1, g2, C, g3, g4⟩
      · left
        refine ⟨g1, ?_⟩
        have := h2.trans g2
        simpa using this
      · right
        refine ⟨⟨fun h => g1.arm (h2.arm h), g1.off, g1.room.trans h2.room⟩, g2, clr x :: C, g3.cons (.inr rfl), ?_⟩
        rw [g4]
        simp
    · right
      rw [if_pos (by omega)] at hL
      rw [hL]
      refine ⟨h1, h2, ?_⟩
      rcases h3 with h3 | h3
      · exact ⟨x :: B, Cl.refl _, h3⟩
      · exact ⟨clr x :: B, (Cl.refl B).cons (.inr rfl), h3⟩
/-- A journal's files. -/
structure Lies (d : Dk) (B : List FJ) : Prop where
  ok : d.Ok
  fl : d.files = B.map fileX
  good : ∀ x ∈ B, GoodX x
theorem Lies.names {d : Dk} {B : List FJ} (h : Lies d B) (ho : d.on = true) : namesD d = B.map fun x => nmJ x.1.1 := by
  unfold namesD
  rw [if_pos ho, h.fl, List.map_map]
  rfl
theorem Lies.same {d d2 : Dk} {B : List FJ} (h : Lies d B) (hok : d2.Ok) (hf : d2.files = d.files) : Lies d2 B := ⟨hok, hf.trans h.fl, h.good⟩
theorem Lies.still {d : Dk} {B : List FJ} (h : Lies d B) : ∀ f ∈ d.files, f.wait = [] := by
  rw [h.fl]
  exact waits (A := []) (fun f hf => by cases hf)
theorem open_okJ : ∀ (l : List (List UInt8)) (s : OpS) (d : Dk), d.Ok → (openL l s d).2.Ok ∧ (openL l s d).2.writes ≤ d.writes + 2 * l.length
  | [], s, d, h => ⟨h, by simp [openL]⟩
  | x :: l, s, d, h => by
    rw [openL, List.length_cons]
    have hr := remove_ok (n := x) h
    have hs := seg_ok (n := x) h
    split
    · have := open_okJ l s d h
      exact ⟨this.1, by omega⟩
    split
    · split
      · exact ⟨hr.1, by simp only; omega⟩
      · have := open_okJ l { s with brk := true } _ hr.1
        exact ⟨this.1, by omega⟩
    · split
      · exact ⟨hs.1, by simp only; omega⟩
      · have := open_okJ l (s.more (numW x) (segD x d).1.2) _ hs.1
        exact ⟨this.1, by omega⟩
theorem openD_ok {per : Int} {d : Dk} (h : d.Ok) : (openD per d).2.Ok ∧ (openD per d).2.writes ≤ d.writes + 32 := by
  have h16 := namesD_len h
  have := open_okJ (namesD d) op0 d h
  unfold openD
  split
  · exact ⟨h, by simp only; omega⟩
  split
  · exact ⟨h, by simp only; omega⟩
  · exact ⟨this.1, by omega⟩
/-- Opening a journal whose files stand in their order. -/
theorem Lies.open {d : Dk} {B : List FJ} {a : Nat} {per : Int} (h : Lies d B) (ho : d.on = true) (hc : Chn a B) (hp : 1 ≤ per) :
    ((openD per d).1 = (0, thru op0 B) ∧ Fine d (openD per d).2 ((B.map clr).map fileX) ∧ Lies (openD per d).2 (B.map clr)) ∨ (Gone d (openD per d).2 ∧ (openD per d).1.1 = 20 ∧ ∃ C, Cl B C ∧ Lies (openD per d).2 C) := by
  have hD : openD per d = openL (B.map fun x => nmJ x.1.1) op0 d := by
    unfold openD
    rw [if_neg (by omega), if_neg (by rw [ho]; simp), h.names ho]
  have hok := (openD_ok (per := per) h.ok).1
  have hx := open_core B [] a op0 d h.ok ho (by rw [h.fl]; rfl) (fun f hf => by cases hf) h.good rfl hc (.inl rfl)
  rw [← hD] at hx
  rcases hx with ⟨h1, h2⟩ | ⟨h1, h2, C, h3, h4⟩
  · rw [List.nil_append] at h2
    exact .inl ⟨h1, h2, hok, h2.fl, (Cl.all B).good h.good⟩
  · exact .inr ⟨h1, h2, C, h3, hok, by rw [h4, List.nil_append], h3.good h.good⟩
/-! ### Appending -/
def keepS (S : List Seg) : List FJ := S.map fun s => (s, [])
/-- The last segment stands there only if it has a record. -/
def lastJ (n : Nat) (l : List (List UInt8)) : List FJ := if l = [] then [] else [((n, l), [])]
def flJ (S : List Seg) (n : Nat) (l : List (List UInt8)) : List FJ := keepS S ++ lastJ n l
theorem flat_last (n : Nat) (l : List (List UInt8)) : flat (lastJ n l) = l := by
  unfold lastJ
  split
  · rename_i h; rw [h]; rfl
  · simp [flat]
theorem chn_app : ∀ (A B : List FJ) (a : Nat), Chn a (A ++ B) ↔ Chn a A ∧ Chn (a + (flat A).length) B
  | [], B, a => by simp [Chn, flat]
  | x :: A, B, a => by
    rw [List.cons_append, Chn, Chn, chn_app A B, flat_cons, List.length_append, and_assoc, Nat.add_assoc]
/-- An open journal at rest: full segments, the last one. -/
structure CalmJ (d : Dk) (per : Int) (S : List Seg) (n : Nat) (l : List (List UInt8)) : Prop where
  lies : Lies d (flJ S n l)
  on : d.on = true
  chn : Chn 1 (keepS S)
  nx : n = 1 + (flat (keepS S)).length
  full : ∀ s ∈ S, (s.2.length : Int) = per
  most : (l.length : Int) ≤ per
  p1 : 1 ≤ per
  small : ∀ r ∈ l, r.length ≤ 65536
def recJ (S : List Seg) (l : List (List UInt8)) : List (List UInt8) := flat (keepS S) ++ l
theorem CalmJ.flatIs {d : Dk} {per : Int} {S : List Seg} {n : Nat} {l : List (List UInt8)} (h : CalmJ d per S n l) : flat (flJ S n l) = recJ S l := by
  unfold flJ recJ
  rw [flat_app, flat_last]
theorem CalmJ.chain {d : Dk} {per : Int} {S : List Seg} {n : Nat} {l : List (List UInt8)} (h : CalmJ d per S n l) : Chn 1 (flJ S n l) := by
  unfold flJ
  rw [chn_app]
  refine ⟨h.chn, ?_⟩
  rw [← h.nx]
  unfold lastJ
  split
  · trivial
  · exact ⟨rfl, trivial⟩
theorem chn_lt : ∀ (S : List Seg) (a : Nat), Chn a (keepS S) → (∀ s ∈ S, 1 ≤ s.2.length) → ∀ s ∈ S, a ≤ s.1 ∧ s.1 + s.2.length ≤ a + (flat (keepS S)).length
  | [], _, _, _, s, hs => by cases hs
  | x :: S, a, hc, h1, s, hs => by
    have hc : Chn a ((x, []) :: keepS S) := hc
    have ef : flat (keepS (x :: S)) = x.2 ++ flat (keepS S) := rfl
    rw [ef, List.length_append]
    have hx : x.1 = a := hc.1
    rcases List.mem_cons.1 hs with rfl | hs
    · omega
    · have := chn_lt S _ hc.2 (fun s hs => h1 s (List.mem_cons_of_mem _ hs)) s hs
      simp only at this
      omega
/-- The same journal, the segment that takes the next record being the last. -/
structure Turn (d : Dk) (per : Int) (S : List Seg) (n : Nat) (l : List (List UInt8)) (S1 : List Seg) (n1 : Nat) (l1 : List (List UInt8)) : Prop where
  calm : CalmJ d per S1 n1 l1
  room : (l1.length : Int) < per
  same : recJ S1 l1 = recJ S l
  nx : n1 + l1.length = n + l.length
def turnJ (per : Int) (S : List Seg) (n : Nat) (l : List (List UInt8)) : List Seg × Nat × List (List UInt8) := if per ≤ (l.length : Int) then (S ++ [(n, l)], n + l.length, []) else (S, n, l)
theorem CalmJ.turn {d : Dk} {per : Int} {S : List Seg} {n : Nat} {l : List (List UInt8)} (h : CalmJ d per S n l) : Turn d per S n l (turnJ per S n l).1 (turnJ per S n l).2.1 (turnJ per S n l).2.2 := by
  have hm := h.most
  have hp := h.p1
  unfold turnJ
  split
  · rename_i hl
    have hne : l ≠ [] := by rintro rfl; simp at hl; omega
    have ek : keepS (S ++ [(n, l)]) = keepS S ++ [((n, l), [])] := by simp [keepS]
    have e1 : flJ (S ++ [(n, l)]) (n + l.length) [] = flJ S n l := by
      unfold flJ lastJ
      rw [if_pos rfl, if_neg hne, ek, List.append_nil]
    have e2 : flat (keepS (S ++ [(n, l)])) = flat (keepS S) ++ l := by rw [ek, flat_app]; simp [flat]
    refine ⟨⟨by simp only; rw [e1]; exact h.lies, h.on, ?_, ?_, ?_, by simp; omega, hp, by simp⟩, by simp; omega, ?_, by simp⟩
    · simp only
      rw [ek, chn_app]
      exact ⟨h.chn, by rw [← h.nx]; exact ⟨rfl, trivial⟩⟩
    · simp only
      rw [e2, List.length_append, h.nx]; omega
    · intro s hs
      simp only at hs
      rcases List.mem_append.1 hs with hs | hs
      · exact h.full s hs
      · rw [List.mem_singleton.1 hs]; simp only; omega
    · unfold recJ
      simp only
      rw [e2, List.append_nil]
  · rename_i hl
    exact ⟨h, by simp only; omega, rfl, rfl⟩
theorem names_lt {d : Dk} {per : Int} {S : List Seg} {n : Nat} {l : List (List UInt8)} (h : CalmJ d per S n l) (hn : n < 1000000000) : ∀ f ∈ (keepS S).map fileX, f.name < nmJ n := by
  intro f hf
  rw [List.mem_map] at hf
  obtain ⟨x, hx, rfl⟩ := hf
  obtain ⟨s, hs, rfl⟩ := List.mem_map.1 hx
  have hp := h.p1
  have := chn_lt S 1 h.chn (fun s hs => by have := h.full s hs; omega) s hs
  have h2 := h.full s hs
  have h3 := h.nx
  exact nmJ_lt (by simp only; omega) hn
def putJ (n e : List UInt8) (d : Dk) : Nat × Dk := if (appendD n e d).1 = 0 then syncD n (appendD n e d).2 else appendD n e d
theorem appW_is {b : List UInt8} {j : Jn} {d : Dk} (hb : b.length ≤ 65536) (hs : j.sick = 0) (hlo : 1 ≤ j.to) (hhi : j.to < 1000000000) (y : Nat × Dk) (hy : y = putJ (nmJ j.to) (frameB b) d) :
    appW b j d = if (appendD (nmJ j.to) (frameB b) d).1 = 3 ∨ (appendD (nmJ j.to) (frameB b) d).1 = 22 then ((0, 22), j, (appendD (nmJ j.to) (frameB b) d).2) else
      if y.1 ≠ 0 then ((0, y.1), { j with sick := y.1 }, y.2) else ((j.next, 0), { j with wf := j.to, next := j.next + 1 }, y.2) := by
  have e : nameP 106 1 (j.to : Nat) = nmJ j.to := nmJ_name hlo hhi
  subst hy
  unfold appW putJ
  rw [if_neg (by omega), if_neg (by omega), e, if_neg (by simp [nmJ])]
def szR (l : List (List UInt8)) : Nat := (l.map fun r => 8 + r.length).sum
theorem szR_app (a b : List (List UInt8)) : szR (a ++ b) = szR a + szR b := by simp [szR]
theorem framesB_size : ∀ l : List (List UInt8), (framesB l).length = szR l
  | [] => rfl
  | r :: l => by
    have := framesB_size l
    rw [framesB_cons, List.length_append, frameB_len, this]
    simp [szR]
theorem sizeD_app (a b : List Fl) : sizeD (a ++ b) = sizeD a + sizeD b := by simp [sizeD]
theorem size_keep : ∀ S : List Seg, sizeD ((keepS S).map fileX) = szR (flat (keepS S))
  | [] => rfl
  | s :: S => by
    have ih := size_keep S
    have e1 : sizeD ((keepS (s :: S)).map fileX) = (fileX (s, [])).len + sizeD ((keepS S).map fileX) := by simp [sizeD, keepS]
    have e2 : flat (keepS (s :: S)) = s.2 ++ flat (keepS S) := rfl
    rw [e1, e2, ih, szR_app]
    simp [fileX, Fl.len, framesB_size]
theorem size_flJ (S : List Seg) (n : Nat) (l : List (List UInt8)) : sizeD ((flJ S n l).map fileX) = szR (recJ S l) := by
  unfold flJ recJ
  rw [List.map_append, sizeD_app, size_keep, szR_app]
  unfold lastJ
  split
  · rename_i h; subst h; rfl
  · simp [sizeD, fileX, Fl.len, framesB_size]
/-- The last segment, with more bytes. -/
def lastF (S : List Seg) (n : Nat) (l : List (List UInt8)) (w : List UInt8) : List Fl := (keepS S).map fileX ++ [⟨nmJ n, framesB l, w⟩]
theorem CalmJ.get {d : Dk} {per : Int} {S : List Seg} {n : Nat} {l : List (List UInt8)} (h : CalmJ d per S n l) (hn : n < 1000000000) : (getF d.files (nmJ n)).getD ⟨nmJ n, [], []⟩ = ⟨nmJ n, framesB l, []⟩ ∧ ((getF d.files (nmJ n)).isNone = true → l = []) := by
  have hlt := names_lt h hn
  by_cases hl : l = []
  · subst hl
    have hf : d.files = (keepS S).map fileX := by rw [h.lies.fl]; simp [flJ, lastJ]
    have hg : getF d.files (nmJ n) = none := by
      rw [hf]
      exact getF_no fun f hf => ne_of_lt' (hlt f hf)
    rw [hg]
    exact ⟨rfl, fun _ => rfl⟩
  · have hf : d.files = (keepS S).map fileX ++ fileX ((n, l), []) :: [] := by rw [h.lies.fl]; simp [flJ, lastJ, hl]
    have hR : Rise ((keepS S).map fileX ++ fileX ((n, l), []) :: []) := by rw [← hf]; exact h.lies.ok.rise
    have hg : getF d.files (nmJ n) = some (fileX ((n, l), [])) := by rw [hf]; exact getF_mid hR
    rw [hg]
    exact ⟨by simp [fileX], fun h => by simp at h⟩
theorem CalmJ.put {d : Dk} {per : Int} {S : List Seg} {n : Nat} {l : List (List UInt8)} (h : CalmJ d per S n l) (hn : n < 1000000000) {x : Fl} (hx : x.name = nmJ n) : putF x d.files = (keepS S).map fileX ++ [x] := by
  have hlt := names_lt h hn
  by_cases hl : l = []
  · subst hl
    have hf : d.files = (keepS S).map fileX := by rw [h.lies.fl]; simp [flJ, lastJ]
    rw [hf]
    exact putF_last fun f hf => by rw [hx]; exact hlt f hf
  · have hf : d.files = (keepS S).map fileX ++ fileX ((n, l), []) :: [] := by rw [h.lies.fl]; simp [flJ, lastJ, hl]
    have hR : Rise ((keepS S).map fileX ++ fileX ((n, l), []) :: []) := by rw [← hf]; exact h.lies.ok.rise
    rw [hf]
    exact putF_mid hR hx
theorem CalmJ.append {d : Dk} {per : Int} {S : List Seg} {n : Nat} {l : List (List UInt8)} {b : List UInt8} (h : CalmJ d per S n l) (hn : n < 1000000000) (hs : szR (recJ S l) + (8 + b.length) ≤ 1048576) (hfew : l = [] → d.files.length < 16) :
    (d.room < ((szR (recJ S l) + (8 + b.length) : Nat) : Int) ∧ appendD (nmJ n) (frameB b) d = (22, d)) ∨ (((szR (recJ S l) + (8 + b.length) : Nat) : Int) ≤ d.room ∧ Did d (lastF S n l (frameB b)) (lastF S n l (frameB b)) (appendD (nmJ n) (frameB b) d)) := by
  obtain ⟨hg, hnone⟩ := h.get hn
  have hput : putF ⟨nmJ n, framesB l, frameB b⟩ d.files = lastF S n l (frameB b) := h.put hn rfl
  have hsz : sizeD d.files = szR (recJ S l) := by rw [h.lies.fl, size_flJ]
  have hfl := frameB_len b
  have hll : (framesB l).length ≤ szR (recJ S l) := by
    rw [framesB_size]
    unfold recJ
    rw [szR_app]; omega
  obtain ⟨g, eg⟩ : ∃ g, g = getF d.files (nmJ n) := ⟨_, rfl⟩
  rw [← eg] at hg hnone
  have hready : ¬ readyD d (nmJ n) ≠ 0 := by rw [readyD_yes (nmJ_named n) h.on]; simp
  have happ : appendD (nmJ n) (frameB b) d = if d.room < ((szR (recJ S l) + (8 + b.length) : Nat) : Int) then (22, d) else if (rawD { d with files := lastF S n l (frameB b) }).1 = true then (20, offD d.keep (rawD { d with files := lastF S n l (frameB b) }).2) else (0, (rawD { d with files := lastF S n l (frameB b) }).2) := by
    unfold appendD
    rw [if_neg hready, ← eg]
    simp only
    rw [hg]
    simp only [List.nil_append]
    rw [if_neg (by simp only [Fl.len, List.length_nil]; omega), hput, hsz, hfl]
    by_cases hr : d.room < ((szR (recJ S l) + (8 + b.length) : Nat) : Int)
    · rw [if_pos (.inr hr), if_pos hr]
    · rw [if_neg (by
        rintro (h | h)
        · have := hfew (hnone h.1)
          omega
        · exact hr h), if_neg hr]
  by_cases hr : d.room < ((szR (recJ S l) + (8 + b.length) : Nat) : Int)
  · rw [if_pos hr] at happ
    exact .inl ⟨hr, happ⟩
  · right
    refine ⟨by omega, ?_⟩
    rw [if_neg hr] at happ
    obtain ⟨r1, r2, r3, r4, r5⟩ := raw_files { d with files := lastF S n l (frameB b) }
    rw [happ]
    rcases raw_two { d with files := lastF S n l (frameB b) } with ⟨h1, h2⟩ | ⟨h1, h2⟩
    · rw [if_neg (by rw [h1]; simp)]
      exact .inl ⟨rfl, r1, r4.trans h.on, r3, r2, h2⟩
    · rw [if_pos h2]
      obtain ⟨o1, o2, o3⟩ := off_on (k := d.keep) (d := (rawD { d with files := lastF S n l (frameB b) }).2) (r4.trans h.on)
      exact .inr ⟨h1, rfl, o1, by rw [o2, r1], o3.trans r3⟩
def jnJ (per : Int) (n : Nat) (l : List (List UInt8)) : Jn := ⟨per, n, n + l.length, 0⟩
theorem stub_take (b : List UInt8) (k : Nat) (hb : b.length ≤ 65536) : Stub ((frameB b).take k) ∨ (frameB b).take k = frameB b := by
  by_cases h : k < (frameB b).length
  · left
    refine ⟨b, hb, ⟨(frameB b).drop k, List.take_append_drop _ _⟩, ?_⟩
    rw [List.length_take]
    rw [frameB_len] at h ⊢
    omega
  · exact .inr (List.take_of_length_le (by omega))
theorem wait_keep (S : List Seg) : ∀ f ∈ (keepS S).map fileX, f.wait = [] := by
  intro f hf
  obtain ⟨x, _, rfl⟩ := List.mem_map.1 hf
  rfl
theorem off_lastF (S : List Seg) (n : Nat) (l : List (List UInt8)) (w : List UInt8) (k : Int) : (lastF S n l w).map (offF k) = (keepS S ++ [((n, l), w.take k.toNat)]).map fileX := by
  unfold lastF
  rw [List.map_append, List.map_append, off_still (wait_keep S)]
  rfl
theorem lies_goodS {d : Dk} {S : List Seg} {n : Nat} {l : List (List UInt8)} (h : Lies d (flJ S n l)) : ∀ x ∈ keepS S, GoodX x := fun x hx => h.good x (by unfold flJ; simp [hx])
/-- Behind the power's going while a record was being written. -/
theorem CalmJ.lost {d d2 : Dk} {per : Int} {S : List Seg} {n : Nat} {l : List (List UInt8)} {b : List UInt8} {k : Int} (h : CalmJ d per S n l) (hn : n < 1000000000) (hb : b.length ≤ 65536) (hok : d2.Ok) (hf : d2.files = (lastF S n l (frameB b)).map (offF k)) :
    ∃ B, Lies d2 B ∧ Chn 1 B ∧ (flat B = recJ S l ∨ flat B = recJ S l ++ [b]) := by
  have hS := lies_goodS h.lies
  have h1 : 1 ≤ n := by rw [h.nx]; omega
  rw [off_lastF] at hf
  rcases stub_take b k.toNat hb with hs | hs
  · refine ⟨_, ⟨hok, hf, ?_⟩, ?_, .inl ?_⟩
    · intro x hx
      rcases List.mem_append.1 hx with hx | hx
      · exact hS x hx
      · rw [List.mem_singleton.1 hx]
        exact ⟨h1, hn, hs, h.small⟩
    · rw [chn_app]
      exact ⟨h.chn, by rw [← h.nx]; exact ⟨rfl, trivial⟩⟩
    · rw [flat_app]; simp [flat, recJ]
  · have e : (keepS S ++ [((n, l), (frameB b).take k.toNat)]).map fileX = (keepS S ++ [((n, l ++ [b]), [])]).map fileX := by
      rw [hs, List.map_append, List.map_append]
      simp [fileX, framesB_snoc]
    rw [e] at hf
    refine ⟨_, ⟨hok, hf, ?_⟩, ?_, .inr ?_⟩
    · intro x hx
      rcases List.mem_append.1 hx with hx | hx
      · exact hS x hx
      · rw [List.mem_singleton.1 hx]
        refine ⟨h1, hn, Stub.nil, fun r hr => ?_⟩
        rcases List.mem_append.1 hr with hr | hr
        · exact h.small r hr
        · rw [List.mem_singleton.1 hr]; exact hb
    · rw [chn_app]
      exact ⟨h.chn, by rw [← h.nx]; exact ⟨rfl, trivial⟩⟩
    · rw [flat_app]; simp [flat, recJ]
/-- A record is written into the last segment. -/
theorem CalmJ.write {d : Dk} {per : Int} {S : List Seg} {n : Nat} {l : List (List UInt8)} {b : List UInt8} (h : CalmJ d per S n l) (hn : n < 1000000000) (hb : b.length ≤ 65536) (hl : (l.length : Int) < per) (hs : szR (recJ S l) + (8 + b.length) ≤ 1048576) (hfew : l = [] → d.files.length < 16) (hr : ((szR (recJ S l) + (8 + b.length) : Nat) : Int) ≤ d.room) :
    ((putJ (nmJ n) (frameB b) d).1 = 0 ∧ CalmJ (putJ (nmJ n) (frameB b) d).2 per S n (l ++ [b]) ∧ Fine d (putJ (nmJ n) (frameB b) d).2 ((flJ S n (l ++ [b])).map fileX)) ∨
    (Gone d (putJ (nmJ n) (frameB b) d).2 ∧ (putJ (nmJ n) (frameB b) d).1 = 20 ∧ ∃ B, Lies (putJ (nmJ n) (frameB b) d).2 B ∧ Chn 1 B ∧ (flat B = recJ S l ∨ flat B = recJ S l ++ [b])) := by
  have hA := h.append (b := b) hn hs hfew
  have hokA := (append_ok (n := nmJ n) (b := frameB b) h.lies.ok).1
  obtain ⟨y, ey⟩ : ∃ y, y = appendD (nmJ n) (frameB b) d := ⟨_, rfl⟩
  have hput : putJ (nmJ n) (frameB b) d = if y.1 = 0 then syncD (nmJ n) y.2 else y := by unfold putJ; rw [← ey]
  rw [← ey] at hA hokA
  rcases hA with ⟨hlt, _⟩ | ⟨_, hA⟩
  · omega
  rcases hA with ⟨g1, g2, g3, g4, g5, g6⟩ | ⟨g1, g2, g3, g4, g5⟩
  · rw [if_pos g1] at hput
    have hR : Rise ((keepS S).map fileX ++ (⟨nmJ n, framesB l, frameB b⟩ : Fl) :: []) := by
      have := hokA.rise
      rw [g2] at this
      exact this
    have hgf : getF y.2.files (nmJ n) = some ⟨nmJ n, framesB l, frameB b⟩ := by rw [g2]; exact getF_mid hR
    have hD := did_sync g3 (nmJ_named n) hgf
    have hok2 := (sync_ok (n := nmJ n) hokA).1
    have e1 : putF ⟨nmJ n, framesB l ++ frameB b, []⟩ y.2.files = (flJ S n (l ++ [b])).map fileX := by
      rw [g2]
      refine (putF_mid hR (by rfl)).trans ?_
      unfold flJ lastJ
      rw [if_neg (by simp), List.map_append]
      simp [fileX, framesB_snoc]
    rw [hput]
    simp only at hD
    rw [e1] at hD
    rcases hD with ⟨k1, k2, k3, k4, k5, k6⟩ | ⟨k1, k2, k3, k4, k5⟩
    · left
      refine ⟨k1, ⟨⟨hok2, k2, ?_⟩, k3, h.chn, h.nx, h.full, by rw [List.length_append]; simp; omega, h.p1, fun r hr => ?_⟩, k2, k3, k4.trans g4, k5.trans g5, fun a => k6 (g6 a)⟩
      · intro x hx
        rcases List.mem_append.1 hx with hx | hx
        · exact lies_goodS h.lies x hx
        · unfold lastJ at hx
          rw [if_neg (by simp)] at hx
          rw [List.mem_singleton.1 hx]
          refine ⟨by rw [h.nx]; simp only; omega, hn, Stub.nil, fun r hr => ?_⟩
          rcases List.mem_append.1 hr with hr | hr
          · exact h.small r hr
          · rw [List.mem_singleton.1 hr]; exact hb
      · rcases List.mem_append.1 hr with hr | hr
        · exact h.small r hr
        · rw [List.mem_singleton.1 hr]; exact hb
    · right
      refine ⟨⟨fun a => k1 (g6 a), k3, k5.trans g4⟩, k2, h.lost hn hb hok2 (k := y.2.keep) ?_⟩
      rw [k4, g2]
  · right
    rw [if_neg (by omega)] at hput
    rw [hput]
    exact ⟨⟨g1, g3, g5⟩, g2, h.lost hn hb hokA g4⟩
theorem appW_ok {b : List UInt8} {j : Jn} {d : Dk} (h : d.Ok) : (appW b j d).2.2.Ok ∧ (appW b j d).2.2.writes ≤ d.writes + 2 := by
  have ha := append_ok (n := nameP 106 1 (j.to : Nat)) (b := frameB b) h
  have hs := sync_ok (n := nameP 106 1 (j.to : Nat)) ha.1
  obtain ⟨y, ey⟩ : ∃ y : Nat × Dk, y = (if (appendD (nameP 106 1 (j.to : Nat)) (frameB b) d).1 = 0 then syncD (nameP 106 1 (j.to : Nat)) (appendD (nameP 106 1 (j.to : Nat)) (frameB b) d).2 else appendD (nameP 106 1 (j.to : Nat)) (frameB b) d) := ⟨_, rfl⟩
  have hy : y.2.Ok ∧ y.2.writes ≤ d.writes + 2 := by
    rw [ey]
    split
    · exact ⟨hs.1, by omega⟩
    · exact ⟨ha.1, by omega⟩
  unfold appW
  split
  · exact ⟨h, by simp only; omega⟩
  split
  · exact ⟨h, by simp only; omega⟩
  split
  · exact ⟨h, by simp only; omega⟩
  simp only
  split
  · exact ⟨ha.1, by simp only; omega⟩
  rw [← ey]
  split
  · exact hy
  · exact hy
/-- A record is handed to an open journal at rest. -/
theorem CalmJ.app {d : Dk} {per : Int} {S : List Seg} {n : Nat} {l : List (List UInt8)} {b : List UInt8} (h : CalmJ d per S n l) (hn : n + l.length < 1000000000) (hb : b.length ≤ 65536) (hs : szR (recJ S l) + (8 + b.length) ≤ 1048576) (hfew : (turnJ per S n l).2.2 = [] → d.files.length < 16) :
    (d.room < ((szR (recJ S l) + (8 + b.length) : Nat) : Int) ∧ appW b (jnJ per n l) d = ((0, 22), jnJ per n l, d)) ∨
    (((szR (recJ S l) + (8 + b.length) : Nat) : Int) ≤ d.room ∧ ∃ d2, appW b (jnJ per n l) d = ((n + l.length, 0), jnJ per (turnJ per S n l).2.1 ((turnJ per S n l).2.2 ++ [b]), d2) ∧ CalmJ d2 per (turnJ per S n l).1 (turnJ per S n l).2.1 ((turnJ per S n l).2.2 ++ [b]) ∧ recJ (turnJ per S n l).1 ((turnJ per S n l).2.2 ++ [b]) = recJ S l ++ [b] ∧ d2.room = d.room ∧ d2.keep = d.keep ∧ (d.armed = 0 → d2.armed = 0)) ∨
    (Gone d (appW b (jnJ per n l) d).2.2 ∧ (appW b (jnJ per n l) d).1 = (0, 20) ∧ ∃ B, Lies (appW b (jnJ per n l) d).2.2 B ∧ Chn 1 B ∧ (flat B = recJ S l ∨ flat B = recJ S l ++ [b])) := by
  obtain ⟨T, eT⟩ : ∃ T, T = turnJ per S n l := ⟨_, rfl⟩
  have ht := h.turn
  rw [← eT] at ht hfew ⊢
  obtain ⟨S1, n1, l1⟩ := T
  simp only at ht hfew ⊢
  obtain ⟨hc, hroom, hsame, hnx⟩ := ht
  have hto : (jnJ per n l).to = n1 := by
    unfold turnJ at eT
    unfold Jn.to jnJ
    simp only
    by_cases hp : per ≤ (l.length : Int)
    · rw [if_pos hp] at eT
      rw [if_pos (by omega)]
      simp only [Prod.mk.injEq] at eT
      exact eT.2.1.symm
    · rw [if_neg hp] at eT
      rw [if_neg (by omega)]
      simp only [Prod.mk.injEq] at eT
      exact eT.2.1.symm
  have h1 : 1 ≤ n1 := by rw [hc.nx]; omega
  have hn1 : n1 < 1000000000 := by omega
  obtain ⟨y, ey⟩ : ∃ y, y = putJ (nmJ n1) (frameB b) d := ⟨_, rfl⟩
  have hW := appW_is (b := b) (j := jnJ per n l) (d := d) hb rfl (by rw [hto]; exact h1) (by rw [hto]; exact hn1) y (by rw [hto]; exact ey)
  rw [hto] at hW
  have hA := hc.append (b := b) hn1 (by rw [hsame]; exact hs) hfew
  rw [hsame] at hA
  by_cases hr : d.room < ((szR (recJ S l) + (8 + b.length) : Nat) : Int)
  · left
    rcases hA with ⟨_, hA⟩ | ⟨hA, _⟩
    · refine ⟨hr, ?_⟩
      rw [hW, hA]
      simp
    · omega
  have hne : ¬ ((appendD (nmJ n1) (frameB b) d).1 = 3 ∨ (appendD (nmJ n1) (frameB b) d).1 = 22) := by
    rcases hA with ⟨hA, _⟩ | ⟨_, hA⟩
    · exact absurd hA hr
    · rcases hA with ⟨g1, _⟩ | ⟨_, g2, _⟩ <;> omega
  rw [if_neg hne] at hW
  have hw := hc.write hn1 hb hroom (by rw [hsame]; exact hs) hfew (by rw [hsame]; omega)
  rw [← ey, hsame] at hw
  right
  rcases hw with ⟨g1, g2, g3⟩ | ⟨g1, g2, g3⟩
  · left
    refine ⟨by omega, y.2, ?_, g2, ?_, g3.room, g3.keep, g3.arm⟩
    · rw [hW, if_neg (by omega)]
      unfold jnJ
      simp only [List.length_append, List.length_cons, List.length_nil, Prod.mk.injEq, Jn.mk.injEq, true_and, and_true]
      omega
    · unfold recJ at hsame ⊢
      rw [← List.append_assoc, hsame]
  · right
    rw [if_pos (by omega)] at hW
    rw [hW]
    exact ⟨g1, by rw [g2], g3⟩
/-! ### Pruning -/
def cutN (below : Int) : List Seg → Nat
  | a :: b :: l => if (b.1 : Int) ≤ below then cutN below (b :: l) + 1 else 0
  | _ => 0
/-- All but the last are full. -/
def FullB (per : Int) : List Seg → Prop
  | a :: b :: l => (a.2.length : Int) = per ∧ FullB per (b :: l)
  | _ => True
/-- The segments of a journal at rest, as one list. -/
def allS (S : List Seg) (n : Nat) (l : List (List UInt8)) : List Seg := S ++ (if l = [] then [] else [(n, l)])
end Go.Proofs.YtnegdinonfjdfaaDoor.Q

/- WalSegments. -/
set_option linter.unusedVariables false
set_option linter.unusedSimpArgs false
set_option maxRecDepth 100000
namespace Go.Proofs.YtnegdinonfjdfaaDoor.Q
open Go Go.RowKit Go.Proofs
/-! ### Plainly -/
def recsOf (i : Nat) : List (List UInt8) := (List.range i).map fun q => [UInt8.ofNat (q + 1)]
theorem flat_full {per : Int} : ∀ S : List Seg, (∀ s ∈ S, (s.2.length : Int) = per) → ((flat (keepS S)).length : Int) = S.length * per
  | [], _ => by simp [keepS, flat]
  | s :: S, h => by
    have ih := flat_full S (fun x hx => h x (List.mem_cons_of_mem _ hx))
    have e : flat (keepS (s :: S)) = s.2 ++ flat (keepS S) := rfl
    have h1 := h s (by simp)
    have e2 : (((s :: S).length : Nat) : Int) = (S.length : Int) + 1 := by simp
    rw [e, List.length_append, Int.natCast_add, ih, h1, e2, Int.add_mul, Int.one_mul]
    omega
/-- There is a place for one more segment. -/
theorem CalmJ.few {d : Dk} {per : Int} {S : List Seg} {n : Nat} {l : List (List UInt8)} (h : CalmJ d per S n l) (hc : ((recJ S l).length : Int) < 15 * per) : (turnJ per S n l).2.2 = [] → d.files.length < 16 := by
  intro ht
  have h0 := flat_full S h.full
  have hp := h.p1
  have hlen : ((recJ S l).length : Int) = S.length * per + l.length := by unfold recJ; rw [List.length_append, Int.natCast_add, h0]
  have hfl : d.files.length = S.length + (if l = [] then 0 else 1) := by
    rw [h.lies.fl, List.length_map]
    unfold flJ lastJ keepS
    split <;> simp
  have hS : ∀ k : Nat, (S.length : Int) * per + k < 15 * per → S.length < 15 := by
    intro k hk
    apply Classical.byContradiction
    intro hn
    have h15 : (15 : Int) ≤ S.length := by omega
    have : (15 : Int) * per ≤ S.length * per := Int.mul_le_mul_of_nonneg_right h15 (by omega)
    omega
  have := hS l.length (by omega)
  rw [hfl]
  split <;> omega
theorem thru_one (B : List FJ) (a : Nat) (hB : ∀ x ∈ B, 1 ≤ x.1.1) (hc : Chn a B) : (thru op0 B).from = if B = [] then 1 else a := by
  match B, hc with
  | [], _ => rfl
  | x :: B, hc =>
    rw [thru_from x B (hB x (by simp)), if_neg (by simp)]
    exact hc.1
theorem thru_op (B : List FJ) : (thru op0 B).recs = flat B := by rw [thru_recs]; rfl
theorem seqC_seq {P : Program} {pr : Prim} {N : Nat} {a b : CC} {Q : VX → (Nat → V) → St → Prop} : seqC P pr N (.seq a b) Q = seqC P pr N a (seqC P pr N b Q) := by
  funext x e σ
  cases x
  · rw [seqC_normal, seqC_normal, Ev_seq']
  · rw [seqC_exit, seqC_exit, seqC_exit]
  · rw [seqC_ret, seqC_ret, seqC_ret]
  · rw [seqC_pan, seqC_pan, seqC_pan]
end Go.Proofs.YtnegdinonfjdfaaDoor.Q

/- WalFull. -/
set_option linter.unusedVariables false
set_option linter.unusedSimpArgs false
set_option maxRecDepth 100000
namespace Go.Proofs.YtnegdinonfjdfaaDoor.Q
open Go Go.RowKit Go.Proofs
theorem CalmJ.next {d : Dk} {per : Int} {S : List Seg} {n : Nat} {l : List (List UInt8)} (h : CalmJ d per S n l) : n + l.length = (recJ S l).length + 1 := by
  have := h.nx
  unfold recJ
  rw [List.length_append]
  omega
end Go.Proofs.YtnegdinonfjdfaaDoor.Q

