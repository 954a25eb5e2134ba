import Derived.Test.YtlimedbanpfkgaaTp
set_option linter.unusedVariables false
set_option linter.unusedSimpArgs false
set_option maxRecDepth 100000
namespace Go.Proofs.Ytlimedbanpfkgaa.Q
open Go Go.RowKit Go.Proofs

def I16 (n : Nat) (σ0 : St) (out : List UInt8) (x : Nat) : Nat → (Nat → V) → St → Prop := fun y e σ => y < 2 ^ 63 ∧ e 1 = .int .i64 y ∧ ∃ bs, OwnV 5 n σ (e 5) bs ∧ Keep σ0 σ ∧ bs ++ putN y = out ++ putN x ∧ bs.length ≤ out.length + 9

theorem refput_loop {n : Nat} {σ0 σ : St} (hn : n = σ0.toks.length) {out : List UInt8} {x : Nat} (hx : x < 2 ^ 63) (hlen : out.length ≤ 140737488355000) {e : Nat → V} (h1 : e 1 = .int .i64 x) (h5 : OwnV 5 n σ (e 5) out) (hk : Keep σ0 σ) :
    Ev Try.prog prims 27 (.loop k82_l0) e σ (fun ex e' σ' => ex = .exit 0 ∧ Keep σ0 σ' ∧ ∃ y bs, y ≤ 127 ∧ e' 1 = .int .i64 (y : Nat) ∧ OwnV 5 n σ' (e' 5) bs ∧ bs ++ putN y = out ++ putN x) := by
  have hpl : (putN x).length ≤ 9 := putN_len x 8 (by omega)
  refine Ev.loopF (I16 n σ0 out x) (fun y => y) x ⟨hx, h1, out, h5, hk, rfl, by omega⟩ ?_
  rintro y e σ ⟨hy, h1, bs, h5, hk, hbs, hbl⟩ hf
  have hlb : bs.length + (putN y).length = out.length + (putN x).length := by rw [← List.length_append, hbs, List.length_append]
  by_cases hgt : 127 < y
  · have hgt' : (128 : Int) ≤ y := by omega
    have hb := buildByte BT (n := y % 128 + 128) (by omega)
    have hwb : IntKind.u8.wrap ((y % 128 + 128 : Nat) : Int) = ((y % 128 + 128 : Nat) : Int) := wrap_u8 (by omega) (by omega)
    have hrem : Int.tmod (y : Int) 128 = ((y % 128 : Nat) : Int) := rfl
    have hadd : IntKind.i64.wrap (((y % 128 : Nat) : Int) + 128) = ((y % 128 + 128 : Nat) : Int) := by rw [show (((y % 128 : Nat) : Int) + 128) = ((y % 128 + 128 : Nat) : Int) from by omega]; exact wrap_nat (by omega)
    have hquo : Int.tdiv (y : Int) 128 = ((y / 128 : Nat) : Int) := rfl
    have hwq : IntKind.i64.wrap ((y / 128 : Nat) : Int) = ((y / 128 : Nat) : Int) := wrap_nat (by omega)
    obtain ⟨v', σ', ha, ho, hk'⟩ := h5.append BT hn hk T22 hb.2 (by simp; omega)
    simp only [k82_a, WK, vop, evAll, evOpt, evParts, vbuiltin, vun, vextract, Nat.reduceLT, Nat.reduceEqDiff, ↓reduceIte, reduceCtorEq, Nat.reduceAdd, Int.reduceLT, Int.reduceNeg, h1, hgt', hrem, hadd, vconv, T3, T5, hwb, hb.1, ha, hquo, hwq, Int.reduceEq]
    have hput : putN y = UInt8.ofNat (y % 128 + 128) :: putN (y / 128) := by rw [putN, dif_pos hgt]
    refine ⟨y / 128, ⟨by omega, by simp [upd_some], _, by simp only [upd_some, ↓reduceIte, Nat.reduceEqDiff]; exact ho, hk', ?_, ?_⟩, by omega⟩
    · rw [← hbs, hput, List.append_assoc]; rfl
    · have : (putN y).length = (putN (y / 128)).length + 1 := by rw [hput]; rfl
      simp
      omega
  · have hgt' : ¬ (128 : Int) ≤ y := by omega
    simp only [k82_a, WK, vop, evAll, evOpt, evParts, vbuiltin, vun, vextract, Nat.reduceLT, Nat.reduceEqDiff, ↓reduceIte, reduceCtorEq, Nat.reduceAdd, Int.reduceLT, Int.reduceNeg, h1, hgt']
    exact ⟨hk, y, bs, by omega, rfl, h5, hbs⟩

theorem refput_does {v : V} {bs : List UInt8} {x : Int} (hv : BtsV v bs) (hx : InI64 x) (hlen : bs.length ≤ 140737488300000) (σ : St) :
    ∃ r σ', Does Try.prog prims 82 [v, .int .i64 x] σ (.ret r) σ' ∧ Keep σ σ' ∧ OwnV 5 σ.toks.length σ' r (bs ++ putN x.toNat) := by
  have key : ∃ r σ', Does Try.prog prims 82 [v, .int .i64 x] σ r σ' ∧ ∃ r', r = .ret r' ∧ Keep σ σ' ∧ OwnV 5 σ.toks.length σ' r' (bs ++ putN x.toNat) := by
    apply k82_is.does (by simp)
    have hI2 : x.toNat < 2 ^ 63 := by unfold InI64 at hx; omega
    have hpl : (putN x.toNat).length ≤ 9 := putN_len x.toNat 8 (by omega)
    have ho1 : OwnV 5 σ.toks.length σ (.slice .exact 1 [] 0) [] := .inr ⟨_, rfl, .inl rfl⟩
    obtain ⟨v', σ', ha, ho, hk⟩ := ho1.append BT rfl (Keep.refl σ) T22 hv (by simp; omega)
    rw [List.nil_append] at ho
    have rest : ∀ (e : Nat → V), e 1 = .int .i64 (x.toNat : Nat) → e 5 = v' → Ev Try.prog prims 27 (.loop k82_l0) e σ' (blockK 0 (seqC Try.prog prims 27 ((CC.region k82_r7).seq CC.ret) (fnK Try.prog 27 [ResultVar.tmp 4] fun r σ' => ∃ r', r = .ret r' ∧ Keep σ σ' ∧ OwnV 5 σ.toks.length σ' r' (bs ++ putN x.toNat)))) := by
      intro e h1 h5
      refine Ev.cut (refput_loop (out := bs) (x := x.toNat) rfl hI2 (by omega) h1 (by rw [h5]; exact ho) hk) ?_
      rintro ex e' σ2 ⟨rfl, hk2, y, bs2, hy, h1, h5', heq⟩ _
      have hputy : putN y = [UInt8.ofNat y] := by rw [putN, dif_neg (by omega)]
      have hb := buildByte BT (n := y) (by omega)
      have hwb : IntKind.u8.wrap (y : Int) = y := wrap_u8 (by omega) (by omega)
      have hl2 : bs2.length + 1 = bs.length + (putN x.toNat).length := by rw [← List.length_append, ← heq, List.length_append, hputy]; rfl
      obtain ⟨v2, σ3, ha, ho, hk'⟩ := h5'.append BT rfl hk2 T22 hb.2 (by simp; omega)
      simp only [k82_a, WK, vop, evAll, evOpt, evParts, vbuiltin, vun, vextract, Nat.reduceLT, Nat.reduceEqDiff, ↓reduceIte, reduceCtorEq, Nat.reduceAdd, Int.reduceLT, Int.reduceNeg, h1, vconv, T3, T5, hwb, hb.1, ha]
      exact ⟨_, rfl, hk', by rw [← heq, hputy]; exact ho⟩
    by_cases hneg : x < 0
    · simp only [k82_a, WK, vop, evAll, evOpt, evParts, vbuiltin, vun, vextract, Nat.reduceLT, Nat.reduceEqDiff, ↓reduceIte, reduceCtorEq, Nat.reduceAdd, Int.reduceLT, Int.reduceNeg, List.getD_cons_zero, List.getD_cons_succ, build0 BT, ha, hneg]
      exact rest _ (by have : x.toNat = 0 := by omega
                       simp [upd_some, this]) (by simp [upd_some])
    · simp only [k82_a, WK, vop, evAll, evOpt, evParts, vbuiltin, vun, vextract, Nat.reduceLT, Nat.reduceEqDiff, ↓reduceIte, reduceCtorEq, Nat.reduceAdd, Int.reduceLT, Int.reduceNeg, List.getD_cons_zero, List.getD_cons_succ, build0 BT, ha, hneg]
      exact rest _ (by simp [upd_some]; omega) (by simp [upd_some])
  obtain ⟨r, σ', h1, r', rfl, h2, h3⟩ := key
  exact ⟨r', σ', h1, h2, h3⟩

/-- The put of one number to nothing. -/
theorem putone_does {x : Int} (hx : InI64 x) (σ : St) : vbuildSlice Try.prog 86 1 [(0, .int .i64 x)] = some (.slice .exact 1 [.int .i64 x] 1) ∧
    ∃ r σ', Does Try.prog prims 80 [.nils, .slice .exact 1 [.int .i64 x] 1] σ (.ret r) σ' ∧ Keep σ σ' ∧ OwnV 5 σ.toks.length σ' r (putN x.toNat) := by
  have hb := buildInt IT hx
  refine ⟨hb.1, ?_⟩
  have := put_does BtsV.nil hb.2 (by simp) σ
  simpa [putS] using this

end Go.Proofs.Ytlimedbanpfkgaa.Q
