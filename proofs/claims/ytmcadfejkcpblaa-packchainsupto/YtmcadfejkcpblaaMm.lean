import Derived.Test.YtmcadfejkcpblaaMp
set_option linter.unusedVariables false
set_option linter.unusedSimpArgs false
set_option maxRecDepth 100000
namespace Go.Proofs.Ytmcadfejkcpblaa.Q
open Go Go.RowKit Go.Proofs

theorem Keep.overX {σ σ1 σ2 : St} {r : Nat} (h : Keep σ σ1) (h2 : KeepX r σ1 σ2) (hr : σ.objs.length ≤ r) : Keep σ σ2 :=
  ⟨fun q o ho => h2.1 q o (by have := (List.getElem?_eq_some_iff.1 ho).1; omega) (h.1 q o ho), Nat.le_trans h.2.1 h2.2.1, fun k hk => h2.2.2 k (h.2.2 k hk)⟩
theorem Keep.olen {σ σ' : St} (h : Keep σ σ') : σ.objs.length ≤ σ'.objs.length := by
  rcases Nat.eq_zero_or_pos σ.objs.length with h0 | h0
  · omega
  · have := (List.getElem?_eq_some_iff.1 (h.1 (σ.objs.length - 1) _ (List.getElem?_eq_getElem (by omega)))).1
    omega
theorem push1 {σ0 σ : St} {v : V} {r : Nat} {bs : List UInt8} (h : HB σ v r bs) (hr : σ0.objs.length ≤ r) (hk : Keep σ0 σ) {n : Nat} (hn : n < 256) (hl : bs.length ≤ 140737488355000) :
    ∃ y s1 v' r' s2, vbuildRow Try.prog σ 22 1 [(0, .int .u8 (n : Int))] = some (y, s1) ∧ vappendRow Try.prog s1 22 22 v y = some (v', s2) ∧ HB s2 v' r' (bs ++ [UInt8.ofNat n]) ∧ σ0.objs.length ≤ r' ∧ Keep σ0 s2 ∧ KeepX r σ s2 ∧ (r' = r ∨ σ.objs.length ≤ r') := by
  obtain ⟨s1, hs1⟩ : ∃ s1 : St, s1 = ⟨σ.objs ++ [.cells [byteV (UInt8.ofNat n)]], σ.toks⟩ := ⟨_, rfl⟩
  have k1 : Keep σ s1 := by rw [hs1]; exact (Keep.refl σ).push _
  have hy : HB s1 (.hslice σ.objs.length 0 1 1) σ.objs.length [UInt8.ofNat n] := by rw [hs1]; exact made _ [UInt8.ofNat n] rfl
  obtain ⟨v', r', s2, h1, h2, h3, h4⟩ := (h.keep k1).append hy.rb (by simp; omega)
  have e1 := Keep.olen (hk.trans k1)
  have e2 := Keep.olen k1
  exact ⟨_, s1, v', r', s2, by rw [litRow1 σ hn, hs1], h1, h2, by rcases h4 with h4 | h4 <;> omega, (hk.trans k1).overX h3 hr, (k1.x r).trans h3, by rcases h4 with h4 | h4 <;> omega⟩

/-! ### Put -/
/-- The bytes of a number. -/
def putN (x : Nat) : List UInt8 := if h : 127 < x then UInt8.ofNat (x % 128 + 128) :: putN (x / 128) else [UInt8.ofNat x]
termination_by x
decreasing_by omega
def putS (xs : List Int) : List UInt8 := xs.flatMap fun x => putN x.toNat
theorem putN_len (x : Nat) (k : Nat) (hk : x < 128 ^ (k + 1)) : (putN x).length ≤ k + 1 := by
  induction k generalizing x with
  | zero => rw [putN, dif_neg (by omega)]; simp
  | succ k ih =>
    rw [putN]
    split
    · simp only [List.length_cons]
      have := ih (x / 128) (by rw [Nat.pow_succ] at hk; omega)
      omega
    · simp
theorem and127i {x : Nat} (h : x < 2 ^ 63) : bitOp .and .i64 (x : Int) 127 = some ((x % 128 : Nat) : Int) := by
  simp only [bitOp, IntKind.bits]
  congr 1
  have h2 : (BitVec.ofInt 64 (x : Int) &&& BitVec.ofInt 64 127).toNat = x % 128 := by
    have h3 : (BitVec.ofInt 64 127) = BitVec.ofNat 64 127 := rfl
    rw [h3, BitVec.toNat_and, BitVec.ofInt_natCast, BitVec.toNat_ofNat, BitVec.toNat_ofNat, Nat.mod_eq_of_lt (by omega), Nat.mod_eq_of_lt (by omega)]
    exact Nat.and_two_pow_sub_one_eq_mod x 7
  exact (congrArg (fun n : Nat => IntKind.i64.wrap (n : Int)) h2).trans (wrap_i64 (by omega) (by omega))
theorem or128i {x : Nat} (h : x < 128) : bitOp .or .i64 (x : Int) 128 = some ((x + 128 : Nat) : Int) := by
  have e : ∀ y : Nat, y < 128 → bitOp .or .i64 (y : Int) 128 = some ((y + 128 : Nat) : Int) := by decide +kernel
  exact e x h
theorem putS_take {xs : List Int} {i : Nat} (h : i < xs.length) : putS (xs.take (i + 1)) = putS (xs.take i) ++ putN (xs[i].toNat) := by
  unfold putS
  rw [List.take_succ_eq_append_getElem h, List.flatMap_append]
  simp only [List.flatMap_cons, List.flatMap_nil, List.append_nil]
theorem putS_len : ∀ {xs : List Int}, (∀ x ∈ xs, InI64 x) → (putS xs).length ≤ 9 * xs.length
  | [], _ => by simp [putS]
  | x :: xs, h => by
    have h1 := putS_len (xs := xs) fun y hy => h y (List.mem_cons_of_mem _ hy)
    have h2 := h x (List.mem_cons_self ..)
    unfold InI64 at h2
    have h3 := putN_len x.toNat 8 (by omega)
    simp only [putS, List.flatMap_cons, List.length_append, List.length_cons] at h1 ⊢
    omega

theorem put_does {v w : V} {bs : List UInt8} {xs : List Int} {σ : St} (hv : RB σ v bs) (hw : IntsV w xs) (hlen : bs.length + 9 * xs.length ≤ 140737488300000) :
    ∃ v' r σ', Does Try.prog prims 14 [v, w] σ (.ret v') σ' ∧ Keep σ σ' ∧ HB σ' v' r (bs ++ putS xs) ∧ σ.objs.length ≤ r := by
  have key : ∃ q σ', Does Try.prog prims 14 [v, w] σ q σ' ∧ ∃ v' r, q = .ret v' ∧ Keep σ σ' ∧ HB σ' v' r (bs ++ putS xs) ∧ σ.objs.length ≤ r := by
    apply k14_is.does (by simp)
    have hw1 : IntKind.i64.wrap (2 * (xs.length : Int)) = 2 * (xs.length : Int) := wrap_i64 (by omega) (by omega)
    have hw2 : IntKind.i64.wrap ((bs.length : Int) + 2 * (xs.length : Int)) = (bs.length : Int) + 2 * (xs.length : Int) := wrap_i64 (by omega) (by omega)
    obtain ⟨s1, hs1⟩ : ∃ s1 : St, s1 = ⟨σ.objs ++ [.cells []], σ.toks⟩ := ⟨_, rfl⟩
    have k1 : Keep σ s1 := by rw [hs1]; exact (Keep.refl σ).push _
    have hmk := mkRow0 (σ := σ) (c := (bs.length : Int) + 2 * (xs.length : Int)) (by omega) (by omega)
    rw [← hs1] at hmk
    have h1 : HB s1 (.hslice σ.objs.length 0 1 0) σ.objs.length [] := by rw [hs1]; exact made _ [] rfl
    obtain ⟨v2, r2, s2, ha, h2, k2, hr2⟩ := h1.append (hv.keep k1) (by simp; omega)
    rw [List.nil_append] at h2
    have k2' : Keep σ s2 := k1.overX k2 (Nat.le_refl _)
    have hr2' : σ.objs.length ≤ r2 := by
      have := Keep.olen k1
      rcases hr2 with h | h <;> omega
    simp only [k14_a, WK, vop, evAll, evOpt, evParts, vbuiltin, vun, vextract, Nat.reduceLT, Nat.reduceEqDiff, ↓reduceIte, reduceCtorEq, Nat.reduceAdd, Int.reduceLT, Int.reduceNeg, valloc_std, noSB, vhot, List.getD_cons_zero, List.getD_cons_succ, hv.len, (hv.keep k1).len, hw.len IT, hw1, hw2, hmk, ha]
    refine Ev.loopF (fun (i : Nat) e σ' => ∃ r, e 19 = .int .i64 (i : Nat) ∧ i ≤ xs.length ∧ HB σ' (e 5) r (bs ++ putS (xs.take i)) ∧ σ.objs.length ≤ r ∧ Keep σ σ') (fun i => xs.length - i) 0 ⟨r2, by simp [upd_some], by simp, by simpa [upd_some, putS] using h2, hr2', k2'⟩ ?_
    rintro i e σ1 ⟨r, h19, hi, h5, hr, hk1⟩ hf
    have h17 : e 17 = w := (hf 17 (by decide)).trans (by simp [upd_some])
    have h18 : e 18 = .int .i64 xs.length := (hf 18 (by decide)).trans (by simp [upd_some])
    by_cases hlt : i < xs.length
    · have hlt' : (i : Int) < xs.length := by omega
      have hI := hw.2 xs[i] (List.getElem_mem hlt)
      have hI2 : xs[i].toNat < 2 ^ 63 := by unfold InI64 at hI; omega
      have hwi : IntKind.i64.wrap ((i : Int) + 1) = ((i + 1 : Nat) : Int) := by rw [show ((i : Int) + 1) = ((i + 1 : Nat) : Int) from by omega]; exact wrap_nat (by omega)
      have hmx : vmm true (.int .i64 xs[i]) (.int .i64 0) = some (.int .i64 (xs[i].toNat : Nat)) := by
        simp only [vmm, if_true]
        congr 2
        split <;> omega
      simp only [k14_a, WK, vop, evAll, evOpt, evParts, vbuiltin, vun, vextract, Nat.reduceLT, Nat.reduceEqDiff, ↓reduceIte, reduceCtorEq, Nat.reduceAdd, Int.reduceLT, Int.reduceNeg, valloc_std, noSB, vhot, h17, h18, h19, hlt', hw.addr IT (Int.natCast_nonneg i) hlt', IntsV.load IT hlt, Int.toNat_natCast, hmx]
      have hpl := putS_len (xs := xs.take i) fun x hx => hw.2 x (List.mem_of_mem_take hx)
      rw [List.length_take, Nat.min_eq_left (Nat.le_of_lt hlt)] at hpl
      have hpn := putN_len xs[i].toNat 8 (by omega)
      obtain ⟨out, hout⟩ : ∃ out, out = bs ++ putS (xs.take i) := ⟨_, rfl⟩
      have hol : out.length ≤ 140737488300000 := by rw [hout, List.length_append]; omega
      rw [← hout] at h5
      clear hf
      refine Ev.loopF (fun (y : Nat) e' σ' => y < 2 ^ 63 ∧ e' 7 = .int .i64 (y : Nat) ∧ ∃ cs r', HB σ' (e' 5) r' cs ∧ σ.objs.length ≤ r' ∧ Keep σ σ' ∧ cs ++ putN y = out ++ putN xs[i].toNat) (fun y => y) xs[i].toNat ⟨hI2, by simp [upd_some], out, r, by simpa [upd_some] using h5, hr, hk1, rfl⟩ ?_
      rintro y e' σ2 ⟨hy, g7, cs, r', g5, hr', hk2, heq⟩ hf2
      have g19 : e' 19 = .int .i64 i := (hf2 19 (by decide)).trans (by simp [upd_some, h19])
      have g17 : e' 17 = w := (hf2 17 (by decide)).trans (by simp [upd_some, h17])
      have g18 : e' 18 = .int .i64 xs.length := (hf2 18 (by decide)).trans (by simp [upd_some, h18])
      clear hf2
      have hcl : cs.length + (putN y).length = out.length + (putN xs[i].toNat).length := by rw [← List.length_append, heq, List.length_append]
      by_cases hgt : 127 < y
      · have hgt' : (127 : Int) < y := by omega
        have hwb : IntKind.u8.wrap ((y % 128 + 128 : Nat) : Int) = ((y % 128 + 128 : Nat) : Int) := wrap_u8 (by omega) (by omega)
        have hor : bitOp .or .i64 ((y % 128 : Nat) : Int) 128 = some ((y % 128 + 128 : Nat) : Int) := or128i (by omega)
        have hsh : (y : Int) / 2 ^ (min (7 : Int).toNat IntKind.i64.bits) = ((y / 128 : Nat) : Int) := by
          have : min (7 : Int).toNat IntKind.i64.bits = 7 := by decide
          rw [this]
          omega
        obtain ⟨b1, s3, v4, r4, s4, hb1, ha4, h4, hr4, hk4, _⟩ := push1 g5 hr' hk2 (n := y % 128 + 128) (by omega) (by omega)
        simp only [k14_a, WK, vop, evAll, evOpt, evParts, vbuiltin, vun, vextract, Nat.reduceLT, Nat.reduceEqDiff, ↓reduceIte, reduceCtorEq, Nat.reduceAdd, Int.reduceLT, Int.reduceNeg, valloc_std, noSB, vhot, g7, hgt', and127i hy, hor, vconv, T3, T5, hwb, hb1, ha4, hsh]
        have hput : putN y = UInt8.ofNat (y % 128 + 128) :: putN (y / 128) := by rw [putN, dif_pos hgt]
        refine ⟨y / 128, ⟨by omega, by simp [upd_some], _, r4, h4, hr4, hk4, ?_⟩, by omega⟩
        rw [← heq, hput, List.append_assoc]; rfl
      · have hgt' : ¬ (127 : Int) < y := by omega
        have hputy : putN y = [UInt8.ofNat y] := by rw [putN, dif_neg (by omega)]
        have hwb : IntKind.u8.wrap (y : Int) = y := wrap_u8 (by omega) (by omega)
        obtain ⟨b1, s3, v4, r4, s4, hb1, ha4, h4, hr4, hk4, _⟩ := push1 g5 hr' hk2 (n := y) (by omega) (by omega)
        simp only [k14_a, WK, vop, evAll, evOpt, evParts, vbuiltin, vun, vextract, Nat.reduceLT, Nat.reduceEqDiff, ↓reduceIte, reduceCtorEq, Nat.reduceAdd, Int.reduceLT, Int.reduceNeg, valloc_std, noSB, vhot, g7, g17, g18, g19, hgt', vconv, T3, T5, hwb, hb1, ha4, hwi]
        refine ⟨i + 1, ⟨r4, by simp [upd_some], hlt, ?_, hr4, hk4⟩, by omega⟩
        rw [putS_take hlt, ← List.append_assoc, ← hout, ← heq, hputy]
        exact h4
    · have hlt' : ¬ (i : Int) < xs.length := by omega
      simp only [k14_a, WK, vop, evAll, evOpt, evParts, vbuiltin, vun, vextract, Nat.reduceLT, Nat.reduceEqDiff, ↓reduceIte, reduceCtorEq, Nat.reduceAdd, Int.reduceLT, Int.reduceNeg, valloc_std, noSB, vhot, h17, h18, h19, hlt']
      have : xs.take i = xs := List.take_of_length_le (by omega)
      rw [this] at h5
      exact ⟨_, r, rfl, hk1, h5, hr⟩
  obtain ⟨q, σ', h1, v', r, rfl, h2, h3, h4⟩ := key
  exact ⟨v', r, σ', h1, h2, h3, h4⟩

/-! ### same -/
theorem samebytes_does {v w : V} {xs bs : List UInt8} {σ : St} (hv : RB σ v xs) (hw : RB σ w bs) (hla : xs.length ≤ 140737488355328) : Does Try.prog prims 15 [v, w] σ (.ret (.bool (decide (xs = bs)))) σ := by
  apply k15_is.ret (by simp)
  by_cases hlen : xs.length = bs.length
  · have hne : decide ((xs.length : Int) = bs.length) = true := by simp [hlen]
    simp only [k15_a, WK, vop, evAll, evOpt, evParts, vbuiltin, vun, vextract, Nat.reduceLT, Nat.reduceEqDiff, ↓reduceIte, reduceCtorEq, Nat.reduceAdd, Int.reduceLT, Int.reduceNeg, valloc_std, noSB, vhot, List.getD_cons_zero, List.getD_cons_succ, hv.len, hw.len, hne]
    refine Ev.loopF (fun i e σ' => σ' = σ ∧ e 13 = .int .i64 (i : Nat) ∧ i ≤ xs.length ∧ xs.take i = bs.take i) (fun i => xs.length - i) 0 ⟨rfl, by simp [upd_some], by simp, by simp⟩ ?_
    rintro i e σ' ⟨rfl, h13, hi, htk⟩ hf
    have h0 : e 0 = v := (hf 0 (by decide)).trans (by simp [upd_some])
    have h1 : e 1 = w := (hf 1 (by decide)).trans (by simp [upd_some])
    have h12 : e 12 = .int .i64 xs.length := (hf 12 (by decide)).trans (by simp [upd_some])
    by_cases hlt : i < xs.length
    · have hlt' : (i : Int) < xs.length := by omega
      have hltb : i < bs.length := by omega
      have hwi : IntKind.i64.wrap ((i : Int) + 1) = ((i + 1 : Nat) : Int) := by rw [show ((i : Int) + 1) = ((i + 1 : Nat) : Int) from by omega]; exact wrap_nat (by omega)
      obtain ⟨p, hp, hlp⟩ := hv.at hlt
      obtain ⟨q, hq, hlq⟩ := hw.at hltb
      by_cases he : xs[i] = bs[i]
      · have hd : decide (((xs[i].toNat : Nat) : Int) = bs[i].toNat) = true := by simp [he]
        simp only [k15_a, WK, vop, evAll, evOpt, evParts, vbuiltin, vun, vextract, Nat.reduceLT, Nat.reduceEqDiff, ↓reduceIte, reduceCtorEq, Nat.reduceAdd, Int.reduceLT, Int.reduceNeg, valloc_std, noSB, vhot, h0, h1, h12, h13, hlt', hp, hq, hlp, hlq, hd, hwi]
        refine ⟨i + 1, ⟨rfl, hlt, ?_⟩, by omega⟩
        rw [List.take_succ_eq_append_getElem hlt, List.take_succ_eq_append_getElem hltb, htk, he]
      · have hd : decide (((xs[i].toNat : Nat) : Int) = bs[i].toNat) = false := by
          simp only [decide_eq_false_iff_not]
          intro h
          exact he (UInt8.toNat_inj.1 (by omega))
        simp only [k15_a, WK, vop, evAll, evOpt, evParts, vbuiltin, vun, vextract, Nat.reduceLT, Nat.reduceEqDiff, ↓reduceIte, reduceCtorEq, Nat.reduceAdd, Int.reduceLT, Int.reduceNeg, valloc_std, noSB, vhot, h0, h1, h12, h13, hlt', hp, hq, hlp, hlq, hd, hwi]
        have : xs ≠ bs := by rintro rfl; exact he rfl
        simp [this]
    · have hlt' : ¬ (i : Int) < xs.length := by omega
      simp only [k15_a, WK, vop, evAll, evOpt, evParts, vbuiltin, vun, vextract, Nat.reduceLT, Nat.reduceEqDiff, ↓reduceIte, reduceCtorEq, Nat.reduceAdd, Int.reduceLT, Int.reduceNeg, valloc_std, noSB, vhot, h0, h1, h12, h13, hlt']
      have : xs = bs := by
        rw [List.take_of_length_le (by omega), List.take_of_length_le (by omega)] at htk
        exact htk
      simp [this]
  · have hne : decide ((xs.length : Int) = bs.length) = false := by simp; omega
    simp only [k15_a, WK, vop, evAll, evOpt, evParts, vbuiltin, vun, vextract, Nat.reduceLT, Nat.reduceEqDiff, ↓reduceIte, reduceCtorEq, Nat.reduceAdd, Int.reduceLT, Int.reduceNeg, valloc_std, noSB, vhot, List.getD_cons_zero, List.getD_cons_succ, hv.len, hw.len, hne]
    have : xs ≠ bs := by rintro rfl; exact hlen rfl
    simp [this]
end Go.Proofs.Ytmcadfejkcpblaa.Q
