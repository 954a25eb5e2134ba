import Derived.Test.YtlimedbanpfkgaaTk
set_option linter.unusedVariables false
set_option linter.unusedSimpArgs false
set_option maxRecDepth 100000
namespace Go.Proofs.Ytlimedbanpfkgaa.Q
open Go Go.RowKit Go.Proofs

theorem IT : IntT Try.prog 86 3 := ⟨by kernel_rfl, T3, by kernel_rfl, by kernel_rfl, by kernel_rfl, by kernel_rfl, by kernel_rfl⟩

/-- The bytes of a number. -/
def putN (x : Nat) : List UInt8 := if h : 127 < x then UInt8.ofNat (x % 128 + 128) :: putN (x / 128) else [UInt8.ofNat x]
termination_by x
decreasing_by omega

def putS (xs : List Int) : List UInt8 := xs.flatMap fun x => putN x.toNat

theorem putN_len (x : Nat) (k : Nat) (hk : x < 128 ^ (k + 1)) : (putN x).length ≤ k + 1 := by
  induction k generalizing x with
  | zero => rw [putN, dif_neg (by omega)]; simp
  | succ k ih =>
    rw [putN]
    split
    · simp only [List.length_cons]
      have := ih (x / 128) (by rw [Nat.pow_succ] at hk; omega)
      omega
    · simp

theorem and127i {x : Nat} (h : x < 2 ^ 63) : bitOp .and .i64 (x : Int) 127 = some ((x % 128 : Nat) : Int) := by
  simp only [bitOp, IntKind.bits]
  congr 1
  have h2 : (BitVec.ofInt 64 (x : Int) &&& BitVec.ofInt 64 127).toNat = x % 128 := by
    have h3 : (BitVec.ofInt 64 127) = BitVec.ofNat 64 127 := rfl
    rw [h3, BitVec.toNat_and, BitVec.ofInt_natCast, BitVec.toNat_ofNat, BitVec.toNat_ofNat, Nat.mod_eq_of_lt (by omega), Nat.mod_eq_of_lt (by omega)]
    exact Nat.and_two_pow_sub_one_eq_mod x 7
  exact (congrArg (fun n : Nat => IntKind.i64.wrap (n : Int)) h2).trans (wrap_i64 (by omega) (by omega))

theorem or128i {x : Nat} (h : x < 128) : bitOp .or .i64 (x : Int) 128 = some ((x + 128 : Nat) : Int) := by
  have := or_i64 (a := x) (c := 1) (s := 7) (by omega) (by omega)
  simpa using this

/-- The inner loop of Put. -/
def I14 (n : Nat) (σ0 : St) (out : List UInt8) (x : Nat) : Nat → (Nat → V) → St → Prop := fun y e σ => y < 2 ^ 63 ∧ e 7 = .int .i64 y ∧ ∃ bs, OwnV 5 n σ (e 5) bs ∧ Keep σ0 σ ∧ bs ++ putN y = out ++ putN x ∧ bs.length + 9 ≤ 9 + out.length + 9

theorem put_inner {n : Nat} {σ0 σ : St} (hn : n = σ0.toks.length) {out : List UInt8} {x : Nat} (hx : x < 2 ^ 63) (hlen : out.length ≤ 140737488355000) {e : Nat → V} (h7 : e 7 = .int .i64 x) (h5 : OwnV 5 n σ (e 5) out) (hk : Keep σ0 σ) :
    Ev Try.prog prims 43 (.loop k80_l1) e σ (fun ex e' σ' => ex = .exit 2 ∧ Keep σ0 σ' ∧ ∃ y bs, y ≤ 127 ∧ e' 7 = .int .i64 (y : Nat) ∧ OwnV 5 n σ' (e' 5) bs ∧ bs ++ putN y = out ++ putN x) := by
  have hpl : (putN x).length ≤ 9 := putN_len x 8 (by omega)
  refine Ev.loopF (I14 n σ0 out x) (fun y => y) x ⟨hx, h7, out, h5, hk, rfl, by omega⟩ ?_
  rintro y e σ ⟨hy, h7, bs, h5, hk, hbs, hbl⟩ hf
  have hlb : bs.length + (putN y).length = out.length + (putN x).length := by rw [← List.length_append, hbs, List.length_append]
  by_cases hgt : 127 < y
  · have hgt' : (127 : Int) < y := by omega
    have hb := buildByte BT (n := y % 128 + 128) (by omega)
    have hwb : IntKind.u8.wrap ((y % 128 + 128 : Nat) : Int) = ((y % 128 + 128 : Nat) : Int) := wrap_u8 (by omega) (by omega)
    have hor : bitOp .or .i64 ((y % 128 : Nat) : Int) 128 = some ((y % 128 + 128 : Nat) : Int) := or128i (by omega)
    have hsh : (y : Int) / 2 ^ (min (7 : Int).toNat IntKind.i64.bits) = ((y / 128 : Nat) : Int) := by
      have : min (7 : Int).toNat IntKind.i64.bits = 7 := by decide
      rw [this]
      omega
    obtain ⟨v', σ', ha, ho, hk'⟩ := h5.append BT hn hk T22 hb.2 (by simp; omega)
    simp only [k80_a, WK, vop, evAll, evOpt, evParts, vbuiltin, vun, vextract, Nat.reduceLT, Nat.reduceEqDiff, ↓reduceIte, reduceCtorEq, Nat.reduceAdd, Int.reduceLT, Int.reduceNeg, h7, hgt', and127i hy, hor, vconv, T3, T5, hwb, hb.1, ha, hsh]
    have hput : putN y = UInt8.ofNat (y % 128 + 128) :: putN (y / 128) := by rw [putN, dif_pos hgt]
    refine ⟨y / 128, ⟨by omega, by simp [upd_some], _, by simp only [upd_some, ↓reduceIte, Nat.reduceEqDiff]; exact ho, hk', ?_, ?_⟩, by omega⟩
    · rw [← hbs, hput, List.append_assoc]; rfl
    · have : (putN y).length = (putN (y / 128)).length + 1 := by rw [hput]; rfl
      simp
      omega
  · have hgt' : ¬ (127 : Int) < y := by omega
    simp only [k80_a, WK, vop, evAll, evOpt, evParts, vbuiltin, vun, vextract, Nat.reduceLT, Nat.reduceEqDiff, ↓reduceIte, reduceCtorEq, Nat.reduceAdd, Int.reduceLT, Int.reduceNeg, h7, hgt']
    exact ⟨hk, y, bs, by omega, rfl, h5, hbs⟩

theorem putS_take {xs : List Int} {i : Nat} (h : i < xs.length) : putS (xs.take (i + 1)) = putS (xs.take i) ++ putN (xs[i].toNat) := by
  unfold putS
  rw [List.take_succ_eq_append_getElem h, List.flatMap_append]
  simp only [List.flatMap_cons, List.flatMap_nil, List.append_nil]

theorem putS_len : ∀ {xs : List Int}, (∀ x ∈ xs, InI64 x) → (putS xs).length ≤ 9 * xs.length
  | [], _ => by simp [putS]
  | x :: xs, h => by
    have h1 := putS_len (xs := xs) fun y hy => h y (List.mem_cons_of_mem _ hy)
    have h2 := h x (List.mem_cons_self ..)
    unfold InI64 at h2
    have h3 := putN_len x.toNat 8 (by omega)
    simp only [putS, List.flatMap_cons, List.length_append, List.length_cons] at h1 ⊢
    omega

def I14o (n : Nat) (σ0 : St) (bs : List UInt8) (xs : List Int) : Nat → (Nat → V) → St → Prop := fun i e σ => e 19 = .int .i64 i ∧ i ≤ xs.length ∧ OwnV 5 n σ (e 5) (bs ++ putS (xs.take i)) ∧ Keep σ0 σ

theorem put_does {v w : V} {bs : List UInt8} {xs : List Int} (hv : BtsV v bs) (hw : IntsV w xs) (hlen : bs.length + 9 * xs.length ≤ 140737488300000) (σ : St) :
    ∃ r σ', Does Try.prog prims 80 [v, w] σ (.ret r) σ' ∧ Keep σ σ' ∧ OwnV 5 σ.toks.length σ' r (bs ++ putS xs) := by
  have key : ∃ r σ', Does Try.prog prims 80 [v, w] σ r σ' ∧ ∃ r', r = .ret r' ∧ Keep σ σ' ∧ OwnV 5 σ.toks.length σ' r' (bs ++ putS xs) := by
    apply k80_is.does (by simp)
    have hw1 : IntKind.i64.wrap (2 * (xs.length : Int)) = 2 * (xs.length : Int) := wrap_i64 (by omega) (by omega)
    have hw2 : IntKind.i64.wrap ((bs.length : Int) + 2 * (xs.length : Int)) = (bs.length : Int) + 2 * (xs.length : Int) := wrap_i64 (by omega) (by omega)
    have hmk := make0 BT (σ := σ) (c := (bs.length : Int) + 2 * (xs.length : Int)) (by omega) (by omega)
    have hk1 : Keep σ ⟨σ.objs, σ.toks ++ [true]⟩ := ⟨fun _ _ h => h, by simp, fun k h => tokLive_app h⟩
    have ho1 : OwnV 5 σ.toks.length ⟨σ.objs, σ.toks ++ [true]⟩ (.slice (.tok σ.toks.length 5) 1 [] 0) [] := .inr ⟨_, rfl, .inr ⟨_, rfl, tokLive_new _, Nat.le_refl _⟩⟩
    obtain ⟨v', σ', ha, ho, hk⟩ := ho1.append BT rfl hk1 T22 hv (by simp; omega)
    simp only [k80_a, WK, vop, evAll, evOpt, evParts, vbuiltin, vun, vextract, Nat.reduceLT, Nat.reduceEqDiff, ↓reduceIte, reduceCtorEq, Nat.reduceAdd, Int.reduceLT, Int.reduceNeg, List.getD_cons_zero, List.getD_cons_succ, hv.len T22, hw.len IT, hw1, hw2, hmk, ha]
    refine Ev.loopF (I14o σ.toks.length σ bs xs) (fun i => xs.length - i) 0 ⟨by simp [upd_some], by simp, by simpa [upd_some, putS] using ho, hk⟩ ?_
    rintro i e σ1 ⟨h19, hi, h5, hk1⟩ hf
    have h17 : e 17 = w := (hf 17 (by decide)).trans (by simp [upd_some])
    have h18 : e 18 = .int .i64 xs.length := (hf 18 (by decide)).trans (by simp [upd_some])
    by_cases hlt : i < xs.length
    · have hlt' : (i : Int) < xs.length := by omega
      have hI := hw.2 xs[i] (List.getElem_mem hlt)
      have hI2 : xs[i].toNat < 2 ^ 63 := by unfold InI64 at hI; omega
      have hwi : IntKind.i64.wrap ((i : Int) + 1) = ((i + 1 : Nat) : Int) := by rw [show ((i : Int) + 1) = ((i + 1 : Nat) : Int) from by omega]; exact wrap_nat (by omega)
      have hmx : vmm true (.int .i64 xs[i]) (.int .i64 0) = some (.int .i64 (xs[i].toNat : Nat)) := by
        simp only [vmm, if_true]
        congr 2
        split <;> omega
      simp only [k80_a, WK, vop, evAll, evOpt, evParts, vbuiltin, vun, vextract, Nat.reduceLT, Nat.reduceEqDiff, ↓reduceIte, reduceCtorEq, Nat.reduceAdd, Int.reduceLT, Int.reduceNeg, h17, h18, h19, hlt', hw.addr IT (Int.natCast_nonneg i) hlt', IntsV.load IT hlt, Int.toNat_natCast, hmx]
      have hpl := putS_len (xs := xs.take i) fun x hx => hw.2 x (List.mem_of_mem_take hx)
      rw [List.length_take, Nat.min_eq_left (Nat.le_of_lt hlt)] at hpl
      have hpn := putN_len xs[i].toNat 8 (by omega)
      clear hf
      refine Ev.cut (put_inner (out := bs ++ putS (xs.take i)) (x := xs[i].toNat) rfl hI2 (by rw [List.length_append]; omega) (by simp [upd_some]) (by first | exact h5 | (simp only [upd_some, ↓reduceIte, Nat.reduceEqDiff]; exact h5)) hk1) ?_
      rintro ex e' σ2 ⟨rfl, hk2, y, bs2, hy, h7, h5', heq⟩ hf2
      have g19 : e' 19 = .int .i64 i := (hf2 19 (by decide)).trans (by simp [upd_some, h19])
      clear hf2
      have hputy : putN y = [UInt8.ofNat y] := by rw [putN, dif_neg (by omega)]
      have hb := buildByte BT (n := y) (by omega)
      have hwb : IntKind.u8.wrap (y : Int) = y := wrap_u8 (by omega) (by omega)
      have hl2 : bs2.length + 1 = (bs ++ putS (xs.take i)).length + (putN xs[i].toNat).length := by rw [← List.length_append, ← heq, List.length_append, hputy]; rfl
      simp only [List.length_append] at hl2
      obtain ⟨v2, σ3, ha, ho, hk'⟩ := h5'.append BT rfl hk2 T22 hb.2 (by simp; omega)
      simp only [k80_a, WK, vop, evAll, evOpt, evParts, vbuiltin, vun, vextract, Nat.reduceLT, Nat.reduceEqDiff, ↓reduceIte, reduceCtorEq, Nat.reduceAdd, Int.reduceLT, Int.reduceNeg, h7, g19, vconv, T3, T5, hwb, hb.1, ha, hwi]
      refine ⟨i + 1, ⟨by simp [upd_some], hlt, ?_, hk'⟩, by omega⟩
      simp only [upd_some, ↓reduceIte, Nat.reduceEqDiff]
      rw [putS_take hlt, ← List.append_assoc, ← heq, hputy]
      exact ho
    · have hlt' : ¬ (i : Int) < xs.length := by omega
      simp only [k80_a, WK, vop, evAll, evOpt, evParts, vbuiltin, vun, vextract, Nat.reduceLT, Nat.reduceEqDiff, ↓reduceIte, reduceCtorEq, Nat.reduceAdd, Int.reduceLT, Int.reduceNeg, h17, h18, h19, hlt']
      have : xs.take i = xs := List.take_of_length_le (by omega)
      rw [this] at h5
      exact ⟨_, rfl, hk1, h5⟩
  obtain ⟨r, σ', h1, r', rfl, h2, h3⟩ := key
  exact ⟨r', σ', h1, h2, h3⟩

end Go.Proofs.Ytlimedbanpfkgaa.Q
