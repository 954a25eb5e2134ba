/- A part of the proof: Cc, Cd, Tk, Tp, Vb, Vc, Vd, Vf, Vg, Vh, Vi, Ve, Vj, Vk, Vl, Tq, Vm, Vn, Ce, Cf, Cg. -/
import Derived.Test.YtplhelapcpcncaaMc5
set_option linter.unusedVariables false
set_option linter.unusedSimpArgs false
set_option maxRecDepth 100000
namespace Go.Proofs.Ytplhelapcpcncaa.Q
open Go Go.RowKit Go.Proofs
def limL (m : Mdl) (st : Int) (n : Nat) (f : Fun) : List (Int × Int) := [(1, (m.consts.length : Nat)), (2, f.locals), (3, f.locals), (4, st), (5, st), (7, (f.code.length : Nat)), (8, (f.code.length : Nat)), (9, (n : Nat)), (11, 1099511627777), (12, 14)]
def rightS (m : Mdl) (st : Int) (n : Nat) (f : Fun) (i : Ins) : Bool := match lookI (limL m st n f) i.op with
  | some l => (decide (0 ≤ i.a) && decide (i.a < l)) && (!decide (i.op = 12) || decide (3 ≤ i.a))
  | none => (decide (1 ≤ i.op) && decide (i.op ≤ 21)) && decide (i.a = 0)
theorem FZ : zeroT Try.prog 37 = some (.agg [.int .i64 0, .int .i64 0, .int .i64 0, .int .i64 0, .nils]) := by kernel_rfl
theorem FF1' (r o : Nat) : vfieldAddr Try.prog 37 (.optr r o) 1 = some (.optr r (o + 1)) := by kernel_rfl
theorem FF3' (r o : Nat) : vfieldAddr Try.prog 37 (.optr r o) 3 = some (.optr r (o + 3)) := by kernel_rfl
theorem FF4' (r o : Nat) : vfieldAddr Try.prog 37 (.optr r o) 4 = some (.optr r (o + 4)) := by kernel_rfl
theorem fun_load {σ : St} {w : V} {l : List Fun} (h : FunsS σ w l) {n : Nat} (hn : n < l.length) : ∃ p cf, vindexAddr Try.prog 23 w (.int .i64 (n : Int)) = some p ∧ FunS σ l[n] cf ∧ ∀ σ', Keep σ σ' → vload Try.prog σ'.objs 37 p = some (.agg cf) := by
  obtain ⟨cs, hr, hf⟩ := h
  obtain ⟨p, hp, hat⟩ := hr.at FT FS (by omega) hn (kk := .i64)
  have h5 := (hf n hn).len
  exact ⟨p, _, hp, hf n hn, fun σ' hk => (hat.keep hk).load FG (by rw [h5]; exact FS)⟩
/-- A variable of a function's kind that gets one. -/
theorem funmade (σ : St) {f : Fun} {cf : List V} {σ0 : St} (h : FunS σ0 f cf) (hk : Keep σ0 σ) : ∃ s1 s2 w : _, s1 = (⟨σ.objs ++ [Ob.cells [.int .i64 0, .int .i64 0, .int .i64 0, .int .i64 0, .nils]], σ.toks⟩ : St) ∧ vstore Try.prog s1 37 (.optr σ.objs.length 0) (.agg cf) = some s2 ∧ Keep σ s2 ∧ s2.objs[σ.objs.length]? = some (.cells [.int .i64 f.params, .int .i64 f.locals, .int .i64 f.zero, .int .i64 f.stack, w]) ∧ CodeS σ0 w f.code ∧ s2.objs.length = σ.objs.length + 1 := by
  obtain ⟨w, hc, hw⟩ := h
  obtain ⟨s1, hs1⟩ : ∃ s1 : St, s1 = ⟨σ.objs ++ [Ob.cells [.int .i64 0, .int .i64 0, .int .i64 0, .int .i64 0, .nils]], σ.toks⟩ := ⟨_, rfl⟩
  have k1 : Keep σ s1 := by rw [hs1]; exact (Keep.refl σ).push _
  have q1 : s1.objs[σ.objs.length]? = some (.cells [.int .i64 0, .int .i64 0, .int .i64 0, .int .i64 0, .nils]) := by rw [hs1]; exact push_new _ _
  obtain ⟨s2, e⟩ : ∃ s2 : St, s2 = ⟨s1.objs.set σ.objs.length (.cells cf), s1.toks⟩ := ⟨_, rfl⟩
  obtain ⟨k, hk2⟩ := KeepX.set_eq q1 e
  refine ⟨s1, s2, w, hs1, ?_, ⟨fun q o ho => k.1 q o (by have := (List.getElem?_eq_some_iff.1 ho).1; omega) (k1.1 q o ho), Nat.le_trans k1.2.1 k.2.1, fun j hj => k.2.2 j (k1.2.2 j hj)⟩, by rw [hk2, hc], hw, by rw [e, hs1]; simp⟩
  rw [vstore_agg (cs' := cf) q1 (by rw [hc]; exact FS) (by rw [hc]; rfl) (by rw [hc]; simp only [List.all_cons, List.all_nil, RowS.one hw]; rfl), e]
theorem right_does {σ : St} {m : Mdl} {c : List V} (hm : MdlS σ m c) (st : Int) {n : Nat} (hn : n < m.funcs.length) (i : Ins) :
    ∃ σ', Does Try.prog prims 23 [.agg c, .int .i64 st, .int .i64 (n : Int), .agg (insC i)] σ (.ret (.bool (rightS m st n m.funcs[n] i))) σ' ∧ Keep σ σ' := by
  have key : ∃ q σ', Does Try.prog prims 23 [.agg c, .int .i64 st, .int .i64 (n : Int), .agg (insC i)] σ q σ' ∧ q = .ret (.bool (rightS m st n m.funcs[n] i)) ∧ Keep σ σ' := by
    apply k23_is.does (by simp)
    obtain ⟨w1, w2, hc, hv, hf⟩ := hm
    obtain ⟨s1, hs1⟩ : ∃ s1 : St, s1 = ⟨(σ.objs ++ [Ob.cells c]) ++ [Ob.cells (insC i)], σ.toks⟩ := ⟨_, rfl⟩
    have k1 : Keep σ s1 := by rw [hs1]; exact ((Keep.refl σ).push _).push _
    have o1 : s1.objs[σ.objs.length]? = some (.cells [w1, w2]) := by rw [hs1, ← hc]; simp
    have o2 : s1.objs[σ.objs.length + 1]? = some (.cells (insC i)) := by rw [hs1]; simp
    have hlen : (σ.objs ++ [Ob.cells c]).length = σ.objs.length + 1 := by simp
    have hl1 : s1.objs.length = σ.objs.length + 2 := by rw [hs1]; simp
    obtain ⟨p, cf, hp, hF, hpl⟩ := fun_load hf hn
    obtain ⟨s2, s3, wc, hs2, st3, k3, o3, hcode, hl3⟩ := funmade s1 hF k1
    obtain ⟨f, hfe⟩ : ∃ f, f = m.funcs[n] := ⟨_, rfl⟩
    rw [← hfe] at hF o3 hcode ⊢
    obtain ⟨s4, hs4⟩ : ∃ s4 : St, s4 = ⟨s3.objs ++ [Ob.mp []], s3.toks⟩ := ⟨_, rfl⟩
    have k4 : Keep s3 s4 := by rw [hs4]; exact (Keep.refl s3).push _
    have hmk : vmakeMap s3 = (.omap s3.objs.length, s4) := by rw [hs4]; rfl
    have m0 : IsMp s4 s3.objs.length [] := by rw [IsMp, hs4]; exact push_new _ _
    have ldf : vload Try.prog s1.objs 23 (.optr σ.objs.length 1) = some w2 := by rw [vload_obj o1 FsG]; rfl
    have F : ∀ s', KeepX s3.objs.length s4 s' → vload Try.prog s'.objs 22 (.optr σ.objs.length 0) = some w1 ∧ vload Try.prog s'.objs 3 (.optr s1.objs.length 1) = some (.int .i64 f.locals) ∧ vload Try.prog s'.objs 35 (.optr s1.objs.length 4) = some wc ∧ vload Try.prog s'.objs 3 (.optr (σ.objs.length + 1) 0) = some (.int .i64 i.op) ∧ vload Try.prog s'.objs 3 (.optr (σ.objs.length + 1) 1) = some (.int .i64 i.a) := by
      intro s' hk
      have e1 := hk.1 _ _ (by omega) (k4.1 _ _ (k3.1 _ _ o1))
      have e2 := hk.1 _ _ (by omega) (k4.1 _ _ (k3.1 _ _ o2))
      have e3 := hk.1 _ _ (by omega) (k4.1 _ _ o3)
      exact ⟨by rw [vload_obj e1 VsG]; rfl, by rw [vload_obj e3 G3]; rfl, by rw [vload_obj e3 NsG]; rfl, by rw [vload_obj e2 G3]; rfl, by rw [vload_obj e2 G3]; rfl⟩
    have lv := hv.len
    have lc : vlen Try.prog 35 wc = some (.int .i64 (f.code.length : Nat)) := RowS.len hcode NT
    obtain ⟨a1, p1, m1, x1, _⟩ := m0.put (k := 1) (v := (m.consts.length : Nat)) rfl
    obtain ⟨a2, p2, m2, x2, _⟩ := m1.put (k := 2) (v := f.locals) rfl
    obtain ⟨a3, p3, m3, x3, _⟩ := m2.put (k := 3) (v := f.locals) rfl
    obtain ⟨a4, p4, m4, x4, _⟩ := m3.put (k := 4) (v := st) rfl
    obtain ⟨a5, p5, m5, x5, _⟩ := m4.put (k := 5) (v := st) rfl
    obtain ⟨a6, p6, m6, x6, _⟩ := m5.put (k := 7) (v := (f.code.length : Nat)) rfl
    obtain ⟨a7, p7, m7, x7, _⟩ := m6.put (k := 8) (v := (f.code.length : Nat)) rfl
    obtain ⟨a8, p8, m8, x8, _⟩ := m7.put (k := 9) (v := (n : Nat)) rfl
    obtain ⟨a9, p9, m9, x9, _⟩ := m8.put (k := 11) (v := 1099511627777) rfl
    obtain ⟨a10, p10, m10, x10, _⟩ := m9.put (k := 12) (v := 14) rfl
    have y1 := x1
    have y2 := y1.trans x2
    have y3 := y2.trans x3
    have y4 := y3.trans x4
    have y5 := y4.trans x5
    have y6 := y5.trans x6
    have y10 := (((y6.trans x7).trans x8).trans x9).trans x10
    obtain ⟨f0, _⟩ := F s4 (KeepX.refl _ _)
    obtain ⟨_, f1, _⟩ := F a1 y1
    obtain ⟨_, f2, _⟩ := F a2 y2
    obtain ⟨_, _, f5, _⟩ := F a5 y5
    obtain ⟨_, _, f6, _⟩ := F a6 y6
    obtain ⟨_, _, _, f9, f10⟩ := F a10 y10
    have lk := m10.look i.op
    have hlim : ([] ++ [((1 : Int), ((m.consts.length : Nat) : Int))] ++ [(2, f.locals)] ++ [(3, f.locals)] ++ [(4, st)] ++ [(5, st)] ++ [(7, ((f.code.length : Nat) : Int))] ++ [(8, ((f.code.length : Nat) : Int))] ++ [(9, ((n : Nat) : Int))] ++ [(11, 1099511627777)] ++ [(12, 14)]) = limL m st n f := rfl
    rw [hlim] at lk
    have kend : Keep σ a10 := by
      have := (k1.trans k3).trans k4
      exact ⟨fun q o ho => y10.1 q o (by have := (List.getElem?_eq_some_iff.1 ho).1; omega) (this.1 q o ho), Nat.le_trans this.2.1 y10.2.1, fun j hj => y10.2.2 j (this.2.2 j hj)⟩
    simp only [k23_a, WK, vop, evAll, evOpt, evParts, vbuiltin, vun, vextract, Nat.reduceLT, Nat.reduceEqDiff, ↓reduceIte, reduceCtorEq, Nat.reduceAdd, Int.reduceLT, Int.reduceNeg, valloc_std, noSB, vhot, vbox, vcells, hlen, ← hs1, MF1, MF0, ldf, hp, hpl s1 k1, FZ, ← hs2, st3, hmk, f0, lv, p1, FF1', f1, p2, f2, p3, p4, p5, FF4', f5, lc, p6, f6, p7, p8, p9, p10, NF0, NF1, f9, lk]
    have tf : ∀ p : Prop, p = True ∨ p = False := fun p => by by_cases h : p <;> simp [h]
    cases hk : lookI (limL m st n f) i.op with
    | some l =>
      have hR : rightS m st n f i = ((decide (0 ≤ i.a) && decide (i.a < l)) && (!decide (i.op = 12) || decide (3 ≤ i.a))) := by unfold rightS; rw [hk]
      rw [hR]
      simp only [Option.isSome_some, Option.getD_some]
      rcases tf (0 ≤ i.a) with h1 | h1 <;> rcases tf (i.a < l) with h2 | h2 <;> rcases tf (i.op = 12) with h3 | h3 <;> rcases tf (3 ≤ i.a) with h4 | h4 <;>
      (simp only [k23_a, WK, vop, evAll, evOpt, evParts, vbuiltin, vun, vextract, Nat.reduceLT, Nat.reduceEqDiff, ↓reduceIte, reduceCtorEq, Nat.reduceAdd, Int.reduceLT, Int.reduceNeg, valloc_std, noSB, vhot, NF0, NF1, f9, f10, h1, h2, h3, h4, Bool.true_and, Bool.false_and, Bool.true_or, Bool.false_or, Bool.and_true, Bool.and_false]
       exact kend)
    | none =>
      have hR : rightS m st n f i = ((decide (1 ≤ i.op) && decide (i.op ≤ 21)) && decide (i.a = 0)) := by unfold rightS; rw [hk]
      rw [hR]
      simp only [Option.isSome_none, Option.getD_none]
      rcases tf (1 ≤ i.op) with h1 | h1 <;> rcases tf (i.op ≤ 21) with h2 | h2 <;> rcases tf (i.a = 0) with h3 | h3 <;>
      (simp only [k23_a, WK, vop, evAll, evOpt, evParts, vbuiltin, vun, vextract, Nat.reduceLT, Nat.reduceEqDiff, ↓reduceIte, reduceCtorEq, Nat.reduceAdd, Int.reduceLT, Int.reduceNeg, valloc_std, noSB, vhot, NF0, NF1, f9, f10, h1, h2, h3, Bool.true_and, Bool.false_and, Bool.and_true, Bool.and_false]
       exact kend)
  obtain ⟨q, σ', h1, rfl, h2⟩ := key
  exact ⟨σ', h1, h2⟩
end Go.Proofs.Ytplhelapcpcncaa.Q

set_option linter.unusedVariables false
set_option linter.unusedSimpArgs false
set_option maxRecDepth 100000
namespace Go.Proofs.Ytplhelapcpcncaa.Q
open Go Go.RowKit Go.Proofs
end Go.Proofs.Ytplhelapcpcncaa.Q

set_option linter.unusedVariables false
set_option linter.unusedSimpArgs false
set_option maxRecDepth 100000
namespace Go.Proofs.Ytplhelapcpcncaa.Q
open Go Go.RowKit Go.Proofs
def valN : List UInt8 → Nat
  | [] => 0
  | b :: bs => b.toNat % 128 + 128 * valN bs
def runN : List UInt8 → Nat
  | [] => 0
  | b :: bs => if 127 < b.toNat then runN bs + 1 else 0
def takeS (bs : List UInt8) : Nat × Nat :=
  if bs.length ≤ runN bs ∨ 9 ≤ runN bs ∨ (0 < runN bs ∧ (bs.getD (runN bs) 0).toNat = 0) then (0, 0) else (valN (bs.take (runN bs + 1)), runN bs + 1)
theorem valN_append (a b : List UInt8) : valN (a ++ b) = valN a + 128 ^ a.length * valN b := by
  induction a with
  | nil => simp [valN]
  | cons x a ih => simp only [List.cons_append, valN, ih, List.length_cons, Nat.pow_succ]; rw [Nat.mul_add, ← Nat.mul_assoc, Nat.mul_comm 128 (128 ^ a.length)]; omega
theorem valN_lt (a : List UInt8) : valN a < 128 ^ a.length := by
  induction a with
  | nil => simp [valN]
  | cons x a ih => simp only [valN, List.length_cons, Nat.pow_succ]; omega
theorem valN_take_succ {bs : List UInt8} {i : Nat} (h : i < bs.length) : valN (bs.take (i + 1)) = valN (bs.take i) + 128 ^ i * (bs[i].toNat % 128) := by
  rw [List.take_succ_eq_append_getElem h, valN_append]
  simp [valN, Nat.min_eq_left (Nat.le_of_lt h)]
theorem runN_ge {bs : List UInt8} : ∀ {i : Nat}, i ≤ runN bs → ∀ j (h : j < bs.length), j < i → 127 < bs[j].toNat := by
  induction bs with
  | nil => intro i _ j h; simp at h
  | cons b bs ih =>
    intro i hi j h hj
    simp only [runN] at hi
    split at hi
    · cases j with
      | zero => simpa
      | succ j => simpa using ih (i := i - 1) (by omega) j (by simpa using h) (by omega)
    · omega
theorem runN_len (bs : List UInt8) : runN bs ≤ bs.length := by
  induction bs with
  | nil => simp [runN]
  | cons b bs ih => simp only [runN, List.length_cons]; split <;> omega
theorem runN_at {bs : List UInt8} : (h : runN bs < bs.length) → bs[runN bs].toNat ≤ 127 := by
  induction bs with
  | nil => intro h; simp at h
  | cons b bs ih =>
    intro h
    by_cases hb : 127 < b.toNat
    · simp only [runN, hb, if_true] at h ⊢
      exact ih (by simpa using h)
    · simp only [runN, hb, if_false] at h ⊢
      simpa using hb
theorem runN_lt {bs : List UInt8} {i : Nat} (hi : i ≤ runN bs) (h : i < bs.length) : 127 < bs[i].toNat ↔ i < runN bs := by
  constructor
  · intro hb
    rcases Nat.lt_or_ge i (runN bs) with h1 | h1
    · exact h1
    · have he : i = runN bs := by omega
      subst he
      have := runN_at h
      omega
  · intro h1
    exact runN_ge (i := i + 1) (by omega) i h (by omega)
theorem and127 : ∀ b : UInt8, bitOp .and .u8 (b.toNat : Int) 127 = some ((b.toNat % 128 : Nat) : Int) := by
  intro b
  have : ∀ n : Nat, n < 256 → bitOp .and .u8 (n : Int) 127 = some ((n % 128 : Nat) : Int) := by decide +kernel
  exact this _ b.toNat_lt
theorem or_i64 {a c s : Nat} (ha : a < 2 ^ s) (hc : c * 2 ^ s + a < 2 ^ 63) : bitOp .or .i64 (a : Int) ((c * 2 ^ s : Nat) : Int) = some ((a + c * 2 ^ s : Nat) : Int) := by
  have h1 : a ||| c * 2 ^ s = a + c * 2 ^ s := by
    have := Nat.shiftLeft_add_eq_or_of_lt ha c
    rw [Nat.shiftLeft_eq] at this
    rw [Nat.or_comm, ← this, Nat.add_comm]
  simp only [bitOp, IntKind.bits]
  congr 1
  have h2 : (BitVec.ofInt 64 (a : Int) ||| BitVec.ofInt 64 ((c * 2 ^ s : Nat) : Int)).toNat = a + c * 2 ^ s := by
    rw [BitVec.toNat_or, BitVec.ofInt_natCast, BitVec.ofInt_natCast, BitVec.toNat_ofNat, BitVec.toNat_ofNat, Nat.mod_eq_of_lt (by omega), Nat.mod_eq_of_lt (by omega), h1]
  exact (congrArg (fun n : Nat => IntKind.i64.wrap (n : Int)) h2).trans (wrap_i64 (by omega) (by omega))
def I12 (v : V) (σ : St) (bs : List UInt8) : Nat → (Nat → V) → St → Prop := fun i e σ' => σ' = σ ∧ e 0 = v ∧ e 5 = .int .i64 i ∧ e 4 = .int .i64 (valN (bs.take i) : Nat) ∧ i ≤ runN bs ∧ i ≤ 9
theorem take_does {v : V} {bs : List UInt8} (hv : BtsV v bs) (hlen : bs.length ≤ maxLen) (σ : St) : Does Try.prog prims 53 [v] σ (.ret (.tuple [.int .i64 ((takeS bs).1 : Nat), .int .i64 ((takeS bs).2 : Nat)])) σ := by
  apply k53_is.ret (by simp)
  have hrl := runN_len bs
  simp only [k53_a, WK, vop, evAll, evOpt, evParts, vbuiltin, vun, vextract, Nat.reduceLT, Nat.reduceEqDiff, ↓reduceIte, reduceCtorEq, Nat.reduceAdd, Int.reduceLT, Int.reduceNeg, valloc_std, noSB, vhot]
  refine Ev.loop' (I12 v σ bs) (fun i => 9 - i) 0 ?_ ?_
  · simp [I12, upd_some, valN]
  · rintro i e σ' ⟨rfl, h0, h5, h4, hi1, hi2⟩
    by_cases h1 : i < bs.length
    · have h1' : (i : Int) < bs.length := Int.ofNat_lt.2 h1
      by_cases h2 : i < 9
      · have h2' : (i : Int) < 9 := by omega
        have hn : ¬ (7 * (i : Int) < 0) := by omega
        have hw1 : IntKind.i64.wrap (7 * (i : Int)) = 7 * (i : Int) := wrap_i64 (by omega) (by omega)
        have ht : (7 * (i : Int)).toNat = 7 * i := by omega
        have hm : min (7 * i) IntKind.i64.bits = 7 * i := by simp only [IntKind.bits]; omega
        have hp : 128 ^ i = 2 ^ (7 * i) := by rw [Nat.pow_mul]
        have hpow : 2 ^ (7 * i) ≤ 2 ^ 56 := Nat.pow_le_pow_right (by omega) (by omega)
        have hlt := valN_lt (bs.take i)
        rw [List.length_take, Nat.min_eq_left (Nat.le_of_lt h1), hp] at hlt
        have hm128 : bs[i].toNat % 128 ≤ 127 := by omega
        have hmul : bs[i].toNat % 128 * 2 ^ (7 * i) ≤ 127 * 2 ^ 56 := Nat.mul_le_mul hm128 hpow
        have hc1 : IntKind.i64.wrap ((bs[i].toNat % 128 : Nat) : Int) = (bs[i].toNat % 128 : Nat) := wrap_nat (by omega)
        have hc2 : IntKind.i64.wrap (((bs[i].toNat % 128 : Nat) : Int) * 2 ^ (7 * i)) = ((bs[i].toNat % 128 * 2 ^ (7 * i) : Nat) : Int) := by
          have : ((bs[i].toNat % 128 : Nat) : Int) * 2 ^ (7 * i) = ((bs[i].toNat % 128 * 2 ^ (7 * i) : Nat) : Int) := by rw [Int.natCast_mul, Int.natCast_pow]; rfl
          rw [this]; exact wrap_nat (by omega)
        have hor := or_i64 (a := valN (bs.take i)) (c := bs[i].toNat % 128) hlt (by omega)
        have hval := valN_take_succ h1
        rw [hp, Nat.mul_comm (2 ^ (7 * i))] at hval
        rw [← hval] at hor
        have hwi : IntKind.i64.wrap ((i : Int) + 1) = ((i + 1 : Nat) : Int) := by rw [show ((i : Int) + 1) = ((i + 1 : Nat) : Int) from by omega]; exact wrap_nat (by omega)
        have hrun := runN_lt hi1 h1
        by_cases h3 : 127 < bs[i].toNat
        · have h3' : (127 : Int) < bs[i].toNat := Int.ofNat_lt.2 h3
          simp only [k53_a, WK, vop, evAll, evOpt, evParts, vbuiltin, vun, vextract, Nat.reduceLT, Nat.reduceEqDiff, ↓reduceIte, reduceCtorEq, Nat.reduceAdd, Int.reduceLT, Int.reduceNeg, valloc_std, noSB, vhot, h0, h5, h4, hv.len T22, hv.addr T22 S5 (Int.natCast_nonneg i) h1', BtsV.load G5 h1, h1', h2', h3', Int.toNat_natCast, and127, vconv, T5, T3, hc1, hw1, hn, ht, hm, hc2, hor, hwi]
          refine ⟨i + 1, ⟨rfl, ?_⟩, by omega⟩
          simp only [upd_some, Nat.reduceEqDiff, ↓reduceIte, h0, true_and]
          exact ⟨by have := hrun.1 h3; omega, by omega⟩
        · have h3' : ¬ (127 : Int) < bs[i].toNat := fun h => h3 (Int.ofNat_lt.1 h)
          have hri : i = runN bs := by
            have : ¬ i < runN bs := fun h => h3 (hrun.2 h)
            omega
          have hget : bs.getD (runN bs) 0 = bs[i] := by
            rw [← hri, List.getD_eq_getElem?_getD, List.getElem?_eq_getElem h1]
            rfl
          by_cases h4z : bs[i].toNat = 0
          · have hz : decide (((bs[i].toNat : Nat) : Int) = 0) = true := by simp [h4z]
            by_cases h5z : 0 < i
            · have h5' : (0 : Int) < i := by omega
              simp only [k53_a, WK, vop, evAll, evOpt, evParts, vbuiltin, vun, vextract, Nat.reduceLT, Nat.reduceEqDiff, ↓reduceIte, reduceCtorEq, Nat.reduceAdd, Int.reduceLT, Int.reduceNeg, valloc_std, noSB, vhot, h5', h0, h5, h4, hv.len T22, hv.addr T22 S5 (Int.natCast_nonneg i) h1', BtsV.load G5 h1, h1', h2', h3', hz, Int.toNat_natCast, and127, vconv, T5, T3, hc1, hw1, hn, ht, hm, hc2, hor, hwi]
              have : takeS bs = (0, 0) := by unfold takeS; rw [if_pos (.inr (.inr ⟨by omega, by rw [hget]; exact h4z⟩))]
              simp [this]
            · have h5' : ¬ (0 : Int) < i := by omega
              simp only [k53_a, WK, vop, evAll, evOpt, evParts, vbuiltin, vun, vextract, Nat.reduceLT, Nat.reduceEqDiff, ↓reduceIte, reduceCtorEq, Nat.reduceAdd, Int.reduceLT, Int.reduceNeg, valloc_std, noSB, vhot, h5', h0, h5, h4, hv.len T22, hv.addr T22 S5 (Int.natCast_nonneg i) h1', BtsV.load G5 h1, h1', h2', h3', hz, Int.toNat_natCast, and127, vconv, T5, T3, hc1, hw1, hn, ht, hm, hc2, hor, hwi]
              have : takeS bs = (valN (bs.take (i + 1)), i + 1) := by unfold takeS; rw [if_neg (by omega), hri]
              simp [this]
          · have hz : decide (((bs[i].toNat : Nat) : Int) = 0) = false := by simp only [decide_eq_false_iff_not]; omega
            simp only [k53_a, WK, vop, evAll, evOpt, evParts, vbuiltin, vun, vextract, Nat.reduceLT, Nat.reduceEqDiff, ↓reduceIte, reduceCtorEq, Nat.reduceAdd, Int.reduceLT, Int.reduceNeg, valloc_std, noSB, vhot, h0, h5, h4, hv.len T22, hv.addr T22 S5 (Int.natCast_nonneg i) h1', BtsV.load G5 h1, h1', h2', h3', hz, Int.toNat_natCast, and127, vconv, T5, T3, hc1, hw1, hn, ht, hm, hc2, hor, hwi]
            have : takeS bs = (valN (bs.take (i + 1)), i + 1) := by unfold takeS; rw [if_neg (by rw [hget]; omega), hri]
            simp [this]
      · have h2' : ¬ (i : Int) < 9 := by omega
        simp only [k53_a, WK, vop, evAll, evOpt, evParts, vbuiltin, vun, vextract, Nat.reduceLT, Nat.reduceEqDiff, ↓reduceIte, reduceCtorEq, Nat.reduceAdd, Int.reduceLT, Int.reduceNeg, valloc_std, noSB, vhot, h0, h5, h4, hv.len T22, h1', h2']
        have : takeS bs = (0, 0) := by unfold takeS; rw [if_pos (by omega)]
        simp [this]
    · have h1' : ¬ (i : Int) < bs.length := by omega
      simp only [k53_a, WK, vop, evAll, evOpt, evParts, vbuiltin, vun, vextract, Nat.reduceLT, Nat.reduceEqDiff, ↓reduceIte, reduceCtorEq, Nat.reduceAdd, Int.reduceLT, Int.reduceNeg, valloc_std, noSB, vhot, h0, h5, h4, hv.len T22, h1']
      have : takeS bs = (0, 0) := by unfold takeS; rw [if_pos (by omega)]
      simp [this]
theorem takeS_lt (l : List UInt8) : (takeS l).1 < 2 ^ 63 ∧ (takeS l).2 ≤ 9 ∧ (takeS l).2 ≤ l.length := by
  unfold takeS
  split
  · simp
  · rename_i h
    simp only [not_or, Nat.not_le] at h
    have h1 := valN_lt (l.take (runN l + 1))
    have h2 : 128 ^ (l.take (runN l + 1)).length ≤ 128 ^ 9 := Nat.pow_le_pow_right (by omega) (by rw [List.length_take]; omega)
    refine ⟨?_, by omega, by omega⟩
    have : (128 : Nat) ^ 9 = 2 ^ 63 := by decide
    simp only
    omega
end Go.Proofs.Ytplhelapcpcncaa.Q

set_option linter.unusedVariables false
set_option linter.unusedSimpArgs false
set_option maxRecDepth 100000
namespace Go.Proofs.Ytplhelapcpcncaa.Q
open Go Go.RowKit Go.Proofs
theorem IT : IntT Try.prog 70 3 := ⟨by kernel_rfl, T3, by kernel_rfl, by kernel_rfl, by kernel_rfl, by kernel_rfl, by kernel_rfl⟩
/-- The bytes of a number. -/
def putN (x : Nat) : List UInt8 := if h : 127 < x then UInt8.ofNat (x % 128 + 128) :: putN (x / 128) else [UInt8.ofNat x]
termination_by x
decreasing_by omega
def putS (xs : List Int) : List UInt8 := xs.flatMap fun x => putN x.toNat
theorem putN_len (x : Nat) (k : Nat) (hk : x < 128 ^ (k + 1)) : (putN x).length ≤ k + 1 := by
  induction k generalizing x with
  | zero => rw [putN, dif_neg (by omega)]; simp
  | succ k ih =>
    rw [putN]
    split
    · simp only [List.length_cons]
      have := ih (x / 128) (by rw [Nat.pow_succ] at hk; omega)
      omega
    · simp
theorem and127i {x : Nat} (h : x < 2 ^ 63) : bitOp .and .i64 (x : Int) 127 = some ((x % 128 : Nat) : Int) := by
  simp only [bitOp, IntKind.bits]
  congr 1
  have h2 : (BitVec.ofInt 64 (x : Int) &&& BitVec.ofInt 64 127).toNat = x % 128 := by
    have h3 : (BitVec.ofInt 64 127) = BitVec.ofNat 64 127 := rfl
    rw [h3, BitVec.toNat_and, BitVec.ofInt_natCast, BitVec.toNat_ofNat, BitVec.toNat_ofNat, Nat.mod_eq_of_lt (by omega), Nat.mod_eq_of_lt (by omega)]
    exact Nat.and_two_pow_sub_one_eq_mod x 7
  exact (congrArg (fun n : Nat => IntKind.i64.wrap (n : Int)) h2).trans (wrap_i64 (by omega) (by omega))
theorem or128i {x : Nat} (h : x < 128) : bitOp .or .i64 (x : Int) 128 = some ((x + 128 : Nat) : Int) := by
  have := or_i64 (a := x) (c := 1) (s := 7) (by omega) (by omega)
  simpa using this
/-- The inner loop of Put. -/
def I14 (n : Nat) (σ0 : St) (out : List UInt8) (x : Nat) : Nat → (Nat → V) → St → Prop := fun y e σ => y < 2 ^ 63 ∧ e 7 = .int .i64 y ∧ ∃ bs, OwnV 5 n σ (e 5) bs ∧ Keep σ0 σ ∧ bs ++ putN y = out ++ putN x ∧ bs.length + 9 ≤ 9 + out.length + 9
theorem put_inner {n : Nat} {σ0 σ : St} (hn : n = σ0.toks.length) {out : List UInt8} {x : Nat} (hx : x < 2 ^ 63) (hlen : out.length ≤ 140737488355000) {e : Nat → V} (h7 : e 7 = .int .i64 x) (h5 : OwnV 5 n σ (e 5) out) (hk : Keep σ0 σ) :
    Ev Try.prog prims 43 (.loop k49_l1) e σ (fun ex e' σ' => ex = .exit 2 ∧ Keep σ0 σ' ∧ ∃ y bs, y ≤ 127 ∧ e' 7 = .int .i64 (y : Nat) ∧ OwnV 5 n σ' (e' 5) bs ∧ bs ++ putN y = out ++ putN x) := by
  have hpl : (putN x).length ≤ 9 := putN_len x 8 (by omega)
  refine Ev.loopF (I14 n σ0 out x) (fun y => y) x ⟨hx, h7, out, h5, hk, rfl, by omega⟩ ?_
  rintro y e σ ⟨hy, h7, bs, h5, hk, hbs, hbl⟩ hf
  have hlb : bs.length + (putN y).length = out.length + (putN x).length := by rw [← List.length_append, hbs, List.length_append]
  by_cases hgt : 127 < y
  · have hgt' : (127 : Int) < y := by omega
    have hb := buildByte BT (n := y % 128 + 128) (by omega)
    have hwb : IntKind.u8.wrap ((y % 128 + 128 : Nat) : Int) = ((y % 128 + 128 : Nat) : Int) := wrap_u8 (by omega) (by omega)
    have hor : bitOp .or .i64 ((y % 128 : Nat) : Int) 128 = some ((y % 128 + 128 : Nat) : Int) := or128i (by omega)
    have hsh : (y : Int) / 2 ^ (min (7 : Int).toNat IntKind.i64.bits) = ((y / 128 : Nat) : Int) := by
      have : min (7 : Int).toNat IntKind.i64.bits = 7 := by decide
      rw [this]
      omega
    obtain ⟨v', σ', ha, ho, hk'⟩ := h5.append BT hn hk T22 hb.2 (by simp; omega)
    simp only [k49_a, WK, vop, evAll, evOpt, evParts, vbuiltin, vun, vextract, Nat.reduceLT, Nat.reduceEqDiff, ↓reduceIte, reduceCtorEq, Nat.reduceAdd, Int.reduceLT, Int.reduceNeg, valloc_std, noSB, vhot, h7, hgt', and127i hy, hor, vconv, T3, T5, hwb, hb.1, ha, hsh]
    have hput : putN y = UInt8.ofNat (y % 128 + 128) :: putN (y / 128) := by rw [putN, dif_pos hgt]
    refine ⟨y / 128, ⟨by omega, by simp [upd_some], _, by simp only [upd_some, ↓reduceIte, Nat.reduceEqDiff]; exact ho, hk', ?_, ?_⟩, by omega⟩
    · rw [← hbs, hput, List.append_assoc]; rfl
    · have : (putN y).length = (putN (y / 128)).length + 1 := by rw [hput]; rfl
      simp
      omega
  · have hgt' : ¬ (127 : Int) < y := by omega
    simp only [k49_a, WK, vop, evAll, evOpt, evParts, vbuiltin, vun, vextract, Nat.reduceLT, Nat.reduceEqDiff, ↓reduceIte, reduceCtorEq, Nat.reduceAdd, Int.reduceLT, Int.reduceNeg, valloc_std, noSB, vhot, h7, hgt']
    exact ⟨hk, y, bs, by omega, rfl, h5, hbs⟩
theorem putS_take {xs : List Int} {i : Nat} (h : i < xs.length) : putS (xs.take (i + 1)) = putS (xs.take i) ++ putN (xs[i].toNat) := by
  unfold putS
  rw [List.take_succ_eq_append_getElem h, List.flatMap_append]
  simp only [List.flatMap_cons, List.flatMap_nil, List.append_nil]
theorem putS_len : ∀ {xs : List Int}, (∀ x ∈ xs, InI64 x) → (putS xs).length ≤ 9 * xs.length
  | [], _ => by simp [putS]
  | x :: xs, h => by
    have h1 := putS_len (xs := xs) fun y hy => h y (List.mem_cons_of_mem _ hy)
    have h2 := h x (List.mem_cons_self ..)
    unfold InI64 at h2
    have h3 := putN_len x.toNat 8 (by omega)
    simp only [putS, List.flatMap_cons, List.length_append, List.length_cons] at h1 ⊢
    omega
def I14o (n : Nat) (σ0 : St) (bs : List UInt8) (xs : List Int) : Nat → (Nat → V) → St → Prop := fun i e σ => e 19 = .int .i64 i ∧ i ≤ xs.length ∧ OwnV 5 n σ (e 5) (bs ++ putS (xs.take i)) ∧ Keep σ0 σ
theorem put_does {v w : V} {bs : List UInt8} {xs : List Int} (hv : BtsV v bs) (hw : IntsV w xs) (hlen : bs.length + 9 * xs.length ≤ 140737488300000) (σ : St) :
    ∃ r σ', Does Try.prog prims 49 [v, w] σ (.ret r) σ' ∧ Keep σ σ' ∧ OwnV 5 σ.toks.length σ' r (bs ++ putS xs) := by
  have key : ∃ r σ', Does Try.prog prims 49 [v, w] σ r σ' ∧ ∃ r', r = .ret r' ∧ Keep σ σ' ∧ OwnV 5 σ.toks.length σ' r' (bs ++ putS xs) := by
    apply k49_is.does (by simp)
    have hw1 : IntKind.i64.wrap (2 * (xs.length : Int)) = 2 * (xs.length : Int) := wrap_i64 (by omega) (by omega)
    have hw2 : IntKind.i64.wrap ((bs.length : Int) + 2 * (xs.length : Int)) = (bs.length : Int) + 2 * (xs.length : Int) := wrap_i64 (by omega) (by omega)
    have hmk := make0 BT (σ := σ) (c := (bs.length : Int) + 2 * (xs.length : Int)) (by omega) (by omega)
    have hk1 : Keep σ ⟨σ.objs, σ.toks ++ [true]⟩ := ⟨fun _ _ h => h, by simp, fun k h => tokLive_app h⟩
    have ho1 : OwnV 5 σ.toks.length ⟨σ.objs, σ.toks ++ [true]⟩ (.slice (.tok σ.toks.length 5) 1 [] 0) [] := .inr ⟨_, rfl, .inr ⟨_, rfl, tokLive_new _, Nat.le_refl _⟩⟩
    obtain ⟨v', σ', ha, ho, hk⟩ := ho1.append BT rfl hk1 T22 hv (by simp; omega)
    simp only [k49_a, WK, vop, evAll, evOpt, evParts, vbuiltin, vun, vextract, Nat.reduceLT, Nat.reduceEqDiff, ↓reduceIte, reduceCtorEq, Nat.reduceAdd, Int.reduceLT, Int.reduceNeg, valloc_std, noSB, vhot, List.getD_cons_zero, List.getD_cons_succ, hv.len T22, hw.len IT, hw1, hw2, hmk, ha]
    refine Ev.loopF (I14o σ.toks.length σ bs xs) (fun i => xs.length - i) 0 ⟨by simp [upd_some], by simp, by simpa [upd_some, putS] using ho, hk⟩ ?_
    rintro i e σ1 ⟨h19, hi, h5, hk1⟩ hf
    have h17 : e 17 = w := (hf 17 (by decide)).trans (by simp [upd_some])
    have h18 : e 18 = .int .i64 xs.length := (hf 18 (by decide)).trans (by simp [upd_some])
    by_cases hlt : i < xs.length
    · have hlt' : (i : Int) < xs.length := by omega
      have hI := hw.2 xs[i] (List.getElem_mem hlt)
      have hI2 : xs[i].toNat < 2 ^ 63 := by unfold InI64 at hI; omega
      have hwi : IntKind.i64.wrap ((i : Int) + 1) = ((i + 1 : Nat) : Int) := by rw [show ((i : Int) + 1) = ((i + 1 : Nat) : Int) from by omega]; exact wrap_nat (by omega)
      have hmx : vmm true (.int .i64 xs[i]) (.int .i64 0) = some (.int .i64 (xs[i].toNat : Nat)) := by
        simp only [vmm, if_true]
        congr 2
        split <;> omega
      simp only [k49_a, WK, vop, evAll, evOpt, evParts, vbuiltin, vun, vextract, Nat.reduceLT, Nat.reduceEqDiff, ↓reduceIte, reduceCtorEq, Nat.reduceAdd, Int.reduceLT, Int.reduceNeg, valloc_std, noSB, vhot, h17, h18, h19, hlt', hw.addr IT (Int.natCast_nonneg i) hlt', IntsV.load IT hlt, Int.toNat_natCast, hmx]
      have hpl := putS_len (xs := xs.take i) fun x hx => hw.2 x (List.mem_of_mem_take hx)
      rw [List.length_take, Nat.min_eq_left (Nat.le_of_lt hlt)] at hpl
      have hpn := putN_len xs[i].toNat 8 (by omega)
      clear hf
      refine Ev.cut (put_inner (out := bs ++ putS (xs.take i)) (x := xs[i].toNat) rfl hI2 (by rw [List.length_append]; omega) (by simp [upd_some]) (by first | exact h5 | (simp only [upd_some, ↓reduceIte, Nat.reduceEqDiff]; exact h5)) hk1) ?_
      rintro ex e' σ2 ⟨rfl, hk2, y, bs2, hy, h7, h5', heq⟩ hf2
      have g19 : e' 19 = .int .i64 i := (hf2 19 (by decide)).trans (by simp [upd_some, h19])
      clear hf2
      have hputy : putN y = [UInt8.ofNat y] := by rw [putN, dif_neg (by omega)]
      have hb := buildByte BT (n := y) (by omega)
      have hwb : IntKind.u8.wrap (y : Int) = y := wrap_u8 (by omega) (by omega)
      have hl2 : bs2.length + 1 = (bs ++ putS (xs.take i)).length + (putN xs[i].toNat).length := by rw [← List.length_append, ← heq, List.length_append, hputy]; rfl
      simp only [List.length_append] at hl2
      obtain ⟨v2, σ3, ha, ho, hk'⟩ := h5'.append BT rfl hk2 T22 hb.2 (by simp; omega)
      simp only [k49_a, WK, vop, evAll, evOpt, evParts, vbuiltin, vun, vextract, Nat.reduceLT, Nat.reduceEqDiff, ↓reduceIte, reduceCtorEq, Nat.reduceAdd, Int.reduceLT, Int.reduceNeg, valloc_std, noSB, vhot, h7, g19, vconv, T3, T5, hwb, hb.1, ha, hwi]
      refine ⟨i + 1, ⟨by simp [upd_some], hlt, ?_, hk'⟩, by omega⟩
      simp only [upd_some, ↓reduceIte, Nat.reduceEqDiff]
      rw [putS_take hlt, ← List.append_assoc, ← heq, hputy]
      exact ho
    · have hlt' : ¬ (i : Int) < xs.length := by omega
      simp only [k49_a, WK, vop, evAll, evOpt, evParts, vbuiltin, vun, vextract, Nat.reduceLT, Nat.reduceEqDiff, ↓reduceIte, reduceCtorEq, Nat.reduceAdd, Int.reduceLT, Int.reduceNeg, valloc_std, noSB, vhot, h17, h18, h19, hlt']
      have : xs.take i = xs := List.take_of_length_le (by omega)
      rw [this] at h5
      exact ⟨_, rfl, hk1, h5⟩
  obtain ⟨r, σ', h1, r', rfl, h2, h3⟩ := key
  exact ⟨r', σ', h1, h2, h3⟩
end Go.Proofs.Ytplhelapcpcncaa.Q

set_option linter.unusedVariables false
set_option linter.unusedSimpArgs false
namespace Go.Proofs.Ytplhelapcpcncaa.Q
open Go Go.RowKit Go.Proofs
/-- The order of numbers. -/
def sgn (a b : Int) : Int := if a < b then -1 else if b < a then 1 else 0
/-- The first that is not 0. -/
def orI : List Int → Int
  | [] => 0
  | x :: l => if x = 0 then orI l else x
theorem nan_does (x : Int) (σ : St) : Does Try.prog prims 78 [.int .i64 x] σ (.ret (.bool false)) σ := by
  apply k78_is.ret (by simp)
  simp only [k78_a, WK, vop, evAll, evOpt, evParts, vbuiltin, vun, vextract, Nat.reduceLT, Nat.reduceEqDiff, ↓reduceIte, reduceCtorEq, Nat.reduceAdd, Int.reduceLT, Int.reduceNeg, valloc_std, noSB, vhot, List.getD_cons_zero]
theorem sgn_does (a b : Int) (σ : St) : Does Try.prog prims 73 [.int .i64 a, .int .i64 b] σ (.ret (.int .i64 (sgn a b))) σ := by
  apply k73_is.ret (by simp)
  simp only [k73_a, WK, vop, evAll, evOpt, evParts, vbuiltin, vun, vextract, Nat.reduceLT, Nat.reduceEqDiff, ↓reduceIte, reduceCtorEq, Nat.reduceAdd, Int.reduceLT, Int.reduceNeg, valloc_std, noSB, vhot, List.getD_cons_zero, List.getD_cons_succ]
  refine KD.ret (nan_does a σ) ?_
  simp only [k73_a, WK, vop, evAll, evOpt, evParts, vbuiltin, vun, vextract, Nat.reduceLT, Nat.reduceEqDiff, ↓reduceIte, reduceCtorEq, Nat.reduceAdd, Int.reduceLT, Int.reduceNeg, valloc_std, noSB, vhot, List.getD_cons_zero, List.getD_cons_succ]
  refine KD.ret (nan_does b σ) ?_
  unfold sgn
  by_cases h1 : a < b
  · simp only [k73_a, WK, vop, evAll, evOpt, evParts, vbuiltin, vun, vextract, Nat.reduceLT, Nat.reduceEqDiff, ↓reduceIte, reduceCtorEq, Nat.reduceAdd, Int.reduceLT, Int.reduceNeg, valloc_std, noSB, vhot, List.getD_cons_zero, List.getD_cons_succ, h1]
    try rfl
  · by_cases h2 : b < a
    · simp only [k73_a, WK, vop, evAll, evOpt, evParts, vbuiltin, vun, vextract, Nat.reduceLT, Nat.reduceEqDiff, ↓reduceIte, reduceCtorEq, Nat.reduceAdd, Int.reduceLT, Int.reduceNeg, valloc_std, noSB, vhot, List.getD_cons_zero, List.getD_cons_succ, h1, h2]
      try rfl
    · simp only [k73_a, WK, vop, evAll, evOpt, evParts, vbuiltin, vun, vextract, Nat.reduceLT, Nat.reduceEqDiff, ↓reduceIte, reduceCtorEq, Nat.reduceAdd, Int.reduceLT, Int.reduceNeg, valloc_std, noSB, vhot, List.getD_cons_zero, List.getD_cons_succ, h1, h2]
      try rfl
theorem or_does {w : V} {xs : List Int} (hw : IntsV w xs) (hl : xs.length ≤ 1000) (σ : St) : Does Try.prog prims 72 [w] σ (.ret (.int .i64 (orI xs))) σ := by
  apply k72_is.ret (by simp)
  simp only [k72_a, WK, vop, evAll, evOpt, evParts, vbuiltin, vun, vextract, Nat.reduceLT, Nat.reduceEqDiff, ↓reduceIte, reduceCtorEq, Nat.reduceAdd, Int.reduceLT, Int.reduceNeg, valloc_std, noSB, vhot, List.getD_cons_zero, hw.len IT]
  refine Ev.loopF (fun i e σ' => e 8 = .int .i64 (i : Nat) ∧ i ≤ xs.length ∧ orI xs = orI (xs.drop i) ∧ σ' = σ) (fun i => xs.length - i) 0 ⟨by simp [upd_some], by simp, by simp, rfl⟩ ?_
  rintro i e σ' ⟨h8, hi, hor, rfl⟩ hf
  have h7 : e 7 = .int .i64 xs.length := (hf 7 (by decide)).trans (by simp [upd_some])
  have h6 : e 6 = w := (hf 6 (by decide)).trans (by simp [upd_some])
  have h3 : e 3 = .int .i64 0 := (hf 3 (by decide)).trans (by simp [upd_some])
  clear hf
  by_cases hlt : i < xs.length
  · have hlt' : (i : Int) < xs.length := by omega
    have hwi : IntKind.i64.wrap ((i : Int) + 1) = ((i + 1 : Nat) : Int) := by rw [show ((i : Int) + 1) = ((i + 1 : Nat) : Int) from by omega]; exact wrap_nat (by omega)
    rw [List.drop_eq_getElem_cons hlt, orI] at hor
    by_cases hx : xs[i] = 0
    · rw [if_pos hx] at hor
      simp only [k72_a, WK, vop, evAll, evOpt, evParts, vbuiltin, vun, vextract, Nat.reduceLT, Nat.reduceEqDiff, ↓reduceIte, reduceCtorEq, Nat.reduceAdd, Int.reduceLT, Int.reduceNeg, valloc_std, noSB, vhot, h3, h6, h7, h8, hlt', hw.addr IT (Int.natCast_nonneg i) hlt', IntsV.load IT hlt, Int.toNat_natCast, hx, hwi]
      exact ⟨i + 1, ⟨by simp [upd_some], hlt, hor⟩, by omega⟩
    · rw [if_neg hx] at hor
      simp only [k72_a, WK, vop, evAll, evOpt, evParts, vbuiltin, vun, vextract, Nat.reduceLT, Nat.reduceEqDiff, ↓reduceIte, reduceCtorEq, Nat.reduceAdd, Int.reduceLT, Int.reduceNeg, valloc_std, noSB, vhot, h3, h6, h7, h8, hlt', hw.addr IT (Int.natCast_nonneg i) hlt', IntsV.load IT hlt, Int.toNat_natCast, hx]
      rw [hor]
  · have hlt' : ¬ (i : Int) < xs.length := by omega
    have : xs.drop i = [] := List.drop_of_length_le (by omega)
    rw [this, orI] at hor
    simp only [k72_a, WK, vop, evAll, evOpt, evParts, vbuiltin, vun, vextract, Nat.reduceLT, Nat.reduceEqDiff, ↓reduceIte, reduceCtorEq, Nat.reduceAdd, Int.reduceLT, Int.reduceNeg, valloc_std, noSB, vhot, h3, h6, h7, h8, hlt']
    rw [hor]
mutual
def cmpV : Val → Val → Int
  | .mk k n t l, .mk k' n' t' l' => orI [sgn k k', sgn n n', Lib.compareBytes t t', cmpL l l']
def cmpL : List Val → List Val → Int
  | [], [] => 0
  | [], _ :: _ => -1
  | _ :: _, [] => 1
  | a :: l, b :: m => if cmpV a b = 0 then cmpL l m else cmpV a b
end
theorem cmpL_nil (m : List Val) : cmpL [] m = if (0 : Nat) < m.length then -1 else 0 := by cases m <;> simp [cmpL]
theorem cmpL_cons_nil (a : Val) (l : List Val) : cmpL (a :: l) [] = 1 := by rw [cmpL]
theorem compareBytes_in : ∀ a b : List UInt8, Lib.compareBytes a b = -1 ∨ Lib.compareBytes a b = 0 ∨ Lib.compareBytes a b = 1
  | [], [] => by simp [Lib.compareBytes]
  | [], _ :: _ => by simp [Lib.compareBytes]
  | _ :: _, [] => by simp [Lib.compareBytes]
  | a :: l, b :: m => by
    rw [Lib.compareBytes]
    split
    · simp
    · split
      · simp
      · exact compareBytes_in l m
theorem sgn_in (a b : Int) : sgn a b = -1 ∨ sgn a b = 0 ∨ sgn a b = 1 := by
  unfold sgn; split
  · simp
  · split <;> simp
theorem orI_in : ∀ {l : List Int}, (∀ x ∈ l, x = -1 ∨ x = 0 ∨ x = 1) → orI l = -1 ∨ orI l = 0 ∨ orI l = 1
  | [], _ => by simp [orI]
  | x :: l, h => by
    rw [orI]
    split
    · exact orI_in fun y hy => h y (List.mem_cons_of_mem _ hy)
    · exact h x (List.mem_cons_self ..)
theorem cmp_in : ∀ (n : Nat) (a b : Val), weight a ≤ n → cmpV a b = -1 ∨ cmpV a b = 0 ∨ cmpV a b = 1
  | 0, a, b, h => by have := weight_pos a; omega
  | n + 1, .mk k m t l, .mk k' m' t' l', h => by
    rw [weight] at h
    have rows : ∀ (l m : List Val), weights l ≤ n → cmpL l m = -1 ∨ cmpL l m = 0 ∨ cmpL l m = 1 := by
      intro l
      induction l with
      | nil => intro m _; cases m <;> simp [cmpL]
      | cons a l ih =>
        intro m hl
        rw [weights] at hl
        cases m with
        | nil => simp [cmpL]
        | cons b m =>
          rw [cmpL]
          split
          · exact ih m (by omega)
          · exact cmp_in n a b (by omega)
    rw [cmpV]
    refine orI_in ?_
    intro x hx
    simp only [List.mem_cons, List.not_mem_nil, or_false] at hx
    rcases hx with rfl | rfl | rfl | rfl
    · exact sgn_in _ _
    · exact sgn_in _ _
    · exact compareBytes_in _ _
    · exact rows l l' (by omega)
theorem cmpV_in (a b : Val) : cmpV a b = -1 ∨ cmpV a b = 0 ∨ cmpV a b = 1 := cmp_in _ a b (Nat.le_refl _)
theorem cmpL_in : ∀ (l m : List Val), cmpL l m = -1 ∨ cmpL l m = 0 ∨ cmpL l m = 1
  | [], m => by cases m <;> simp [cmpL]
  | a :: l, [] => by simp [cmpL]
  | a :: l, b :: m => by
    rw [cmpL]
    split
    · exact cmpL_in l m
    · exact cmpV_in a b
theorem in64 {x : Int} (h : x = -1 ∨ x = 0 ∨ x = 1) : InI64 x := by unfold InI64; omega
theorem buildInts4 {a b c d : Int} (h : ∀ x ∈ [a, b, c, d], InI64 x) : ∃ v, vbuildSlice Try.prog 70 4 [(0, .int .i64 a), (1, .int .i64 b), (2, .int .i64 c), (3, .int .i64 d)] = some v ∧ IntsV v [a, b, c, d] := by
  refine ⟨.slice .exact 1 [i64V a, i64V b, i64V c, i64V d] 4, ?_, .inr ⟨.exact, rfl⟩, h⟩
  simp [vbuildSlice, IT.u, IT.s, IT.z, vcells, vfill, zeroCellsV, setAll, i64V]
  simp [List.range, List.range.loop]
/-- What is known of a comparison of the parts. -/
def CmpOk (F : FuncId) (l : List Val) : Prop := ∀ a ∈ l, ∀ (b : Val) (c1 c2 : List V) (σ : St), ValC a c1 → ValC b c2 → ∃ σ', Does Try.prog prims F [.agg c1, .agg c2] σ (.ret (.int .i64 (cmpV a b))) σ' ∧ Keep σ σ'
def I59 (σ0 : St) (l m : List Val) : Nat → (Nat → V) → St → Prop := fun i e σ => e 13 = .int .i64 i ∧ i ≤ l.length ∧ i ≤ m.length ∧ cmpL l m = cmpL (l.drop i) (m.drop i) ∧ Keep σ0 σ
theorem comparefunc_does {F : FuncId} {l m : List Val} (H : CmpOk F l) {v w : V} (hv : ValsW l v) (hw : ValsW m w) (hl : l.length ≤ 4294967296) (σ : St) :
    ∃ σ', Does Try.prog prims 75 [v, w, .func F []] σ (.ret (.int .i64 (cmpL l m))) σ' ∧ Keep σ σ' := by
  have key : ∃ q σ', Does Try.prog prims 75 [v, w, .func F []] σ q σ' ∧ q = .ret (.int .i64 (cmpL l m)) ∧ Keep σ σ' := by
    apply k75_is.does (by simp)
    simp only [k75_a, WK, vop, evAll, evOpt, evParts, vbuiltin, vun, vextract, Nat.reduceLT, Nat.reduceEqDiff, ↓reduceIte, reduceCtorEq, Nat.reduceAdd, Int.reduceLT, Int.reduceNeg, valloc_std, noSB, vhot, List.getD_cons_zero, List.getD_cons_succ, hv.len]
    refine Ev.loopF (I59 σ l m) (fun i => l.length - i) 0 ⟨by simp [upd_some], by simp, by simp, by simp, Keep.refl σ⟩ ?_
    rintro i e σ1 ⟨h13, hi, him, heq, hk⟩ hf
    have h12 : e 12 = .int .i64 l.length := (hf 12 (by decide)).trans (by simp [upd_some])
    have h11 : e 11 = v := (hf 11 (by decide)).trans (by simp [upd_some])
    have h0 : e 0 = v := (hf 0 (by decide)).trans (by simp [upd_some])
    have h1 : e 1 = w := (hf 1 (by decide)).trans (by simp [upd_some])
    have h2 : e 2 = .func F [] := (hf 2 (by decide)).trans (by simp [upd_some])
    clear hf
    by_cases hlt : i < l.length
    · have hlt' : (i : Int) < l.length := by omega
      have hwi : IntKind.i64.wrap ((i : Int) + 1) = ((i + 1 : Nat) : Int) := by rw [show ((i : Int) + 1) = ((i + 1 : Nat) : Int) from by omega]; exact wrap_nat (by omega)
      obtain ⟨cs, c, ha, hld, hc⟩ := hv.get hlt
      obtain ⟨s2, hs2⟩ : ∃ s2 : St, s2 = ⟨(σ1.objs ++ [Ob.cells val0C]).set σ1.objs.length (Ob.cells c), σ1.toks⟩ := ⟨_, rfl⟩
      have q2 : IsV s2 σ1.objs.length c := by rw [hs2]; exact IsV.made
      have k2 : Keep σ1 s2 := by rw [hs2]; exact (Keep.refl σ1).madeV _ _
      rw [List.drop_eq_getElem_cons hlt] at heq
      by_cases hge : (m.length : Int) ≤ (i : Int)
      · have hmi : m.drop i = [] := List.drop_of_length_le (by omega)
        rw [hmi, cmpL_cons_nil] at heq
        simp only [k75_a, WK, vop, evAll, evOpt, evParts, vbuiltin, vun, vextract, Nat.reduceLT, Nat.reduceEqDiff, ↓reduceIte, reduceCtorEq, Nat.reduceAdd, Int.reduceLT, Int.reduceNeg, valloc_std, noSB, vhot, h1, h11, h12, h13, hlt', ha, hld, VZ24, vbox, vcells, IsV.new hc.len (show val0C.length = 4 from rfl) hc.one, ← hs2, hw.len, hge]
        exact ⟨by rw [heq], hk.trans k2⟩
      · have hltm : i < m.length := by omega
        obtain ⟨cs', c', ha', hld', hc'⟩ := hw.get hltm
        rw [List.drop_eq_getElem_cons hltm, cmpL] at heq
        obtain ⟨s3, hs3⟩ : ∃ s3 : St, s3 = ⟨(s2.objs ++ [Ob.cells val0C]).set s2.objs.length (Ob.cells c'), s2.toks⟩ := ⟨_, rfl⟩
        have q3 : IsV s3 s2.objs.length c' := by rw [hs3]; exact IsV.made
        have k3 : Keep s2 s3 := by rw [hs3]; exact (Keep.refl s2).madeV _ _
        have p3 := k3.atV q2
        obtain ⟨s4, d4, k4⟩ := H l[i] (List.getElem_mem hlt) m[i] c c' s3 hc hc'
        simp only [k75_a, WK, vop, evAll, evOpt, evParts, vbuiltin, vun, vextract, Nat.reduceLT, Nat.reduceEqDiff, ↓reduceIte, reduceCtorEq, Nat.reduceAdd, Int.reduceLT, Int.reduceNeg, valloc_std, noSB, vhot, h1, h2, h11, h12, h13, hlt', ha, hld, VZ24, vbox, vcells, IsV.new hc.len (show val0C.length = 4 from rfl) hc.one, ← hs2, hw.len, hge, ha', hld', IsV.new hc'.len (show val0C.length = 4 from rfl) hc'.one, ← hs3, p3.load hc.len, q3.load hc'.len]
        refine KD.ret d4 ?_
        by_cases hz : cmpV l[i] m[i] = 0
        · rw [if_pos hz] at heq
          simp only [k75_a, WK, vop, evAll, evOpt, evParts, vbuiltin, vun, vextract, Nat.reduceLT, Nat.reduceEqDiff, ↓reduceIte, reduceCtorEq, Nat.reduceAdd, Int.reduceLT, Int.reduceNeg, valloc_std, noSB, vhot, h13, hz, hwi]
          exact ⟨i + 1, ⟨by simp [upd_some], hlt, hltm, heq, ((hk.trans k2).trans k3).trans k4⟩, by omega⟩
        · rw [if_neg hz] at heq
          simp only [k75_a, WK, vop, evAll, evOpt, evParts, vbuiltin, vun, vextract, Nat.reduceLT, Nat.reduceEqDiff, ↓reduceIte, reduceCtorEq, Nat.reduceAdd, Int.reduceLT, Int.reduceNeg, valloc_std, noSB, vhot, h13, hz]
          exact ⟨by rw [heq], ((hk.trans k2).trans k3).trans k4⟩
    · have hlt' : ¬ (i : Int) < l.length := by omega
      have hli : l.drop i = [] := List.drop_of_length_le (by omega)
      rw [hli, cmpL_nil, List.length_drop] at heq
      by_cases hs : (l.length : Int) < m.length
      · rw [if_pos (by omega)] at heq
        simp only [k75_a, WK, vop, evAll, evOpt, evParts, vbuiltin, vun, vextract, Nat.reduceLT, Nat.reduceEqDiff, ↓reduceIte, reduceCtorEq, Nat.reduceAdd, Int.reduceLT, Int.reduceNeg, valloc_std, noSB, vhot, h0, h1, h11, h12, h13, hlt', hv.len, hw.len, hs]
        exact ⟨by rw [heq], hk⟩
      · rw [if_neg (by omega)] at heq
        simp only [k75_a, WK, vop, evAll, evOpt, evParts, vbuiltin, vun, vextract, Nat.reduceLT, Nat.reduceEqDiff, ↓reduceIte, reduceCtorEq, Nat.reduceAdd, Int.reduceLT, Int.reduceNeg, valloc_std, noSB, vhot, h0, h1, h11, h12, h13, hlt', hv.len, hw.len, hs]
        exact ⟨by rw [heq], hk⟩
  obtain ⟨q, σ', h1, rfl, h3⟩ := key
  exact ⟨σ', h1, h3⟩
theorem compare_ok : ∀ (n : Nat), n ≤ 4294967296 → ∀ {a b : Val} {c1 c2 : List V} (σ : St), weight a ≤ n → ValC a c1 → ValC b c2 → ∃ σ', Does Try.prog prims 62 [.agg c1, .agg c2] σ (.ret (.int .i64 (cmpV a b))) σ' ∧ Keep σ σ' := by
  intro n
  induction n with
  | zero => intro _ a b c1 c2 σ h; have := weight_pos a; omega
  | succ n ih =>
    intro hn a b c1 c2 σ hwt ha hb
    have key : ∃ q σ', Does Try.prog prims 62 [.agg c1, .agg c2] σ q σ' ∧ q = .ret (.int .i64 (cmpV a b)) ∧ Keep σ σ' := by
      obtain ⟨k, m, t, l, w, rfl, rfl, hw, ik, im⟩ := ha.inv
      obtain ⟨k', m', t', l', w', rfl, rfl, hw', ik', im'⟩ := hb.inv
      rw [weight] at hwt
      have hll := weights_len l
      have H : CmpOk 62 l := fun x hx b d1 d2 σ h1 h2 => by
        have := weights_mem hx
        exact ih (by omega) σ (by omega) h1 h2
      apply k62_is.does (by simp)
      obtain ⟨σ2, hσ2⟩ : ∃ σ2 : St, σ2 = ⟨(σ.objs ++ [Ob.cells [.int .i64 k, .int .i64 m, .str t, w]]) ++ [Ob.cells [.int .i64 k', .int .i64 m', .str t', w']], σ.toks⟩ := ⟨_, rfl⟩
      have hk2 : Keep σ σ2 := by rw [hσ2]; exact ((Keep.refl σ).push _).push _
      have q2 : IsV σ2 σ.objs.length [.int .i64 k, .int .i64 m, .str t, w] := by rw [hσ2]; show ((σ.objs ++ [_]) ++ [_])[_]? = _; rw [List.getElem?_append_left (by simp)]; exact push_new _ _
      have p2 : IsV σ2 (σ.objs.length + 1) [.int .i64 k', .int .i64 m', .str t', w'] := by rw [hσ2]; simp [IsV]
      obtain ⟨σ3, d3, k3⟩ := comparefunc_does H hw hw' (by omega) σ2
      have hI : ∀ x ∈ [sgn k k', sgn m m', Lib.compareBytes t t', cmpL l l'], InI64 x := by
        intro x hx
        simp only [List.mem_cons, List.not_mem_nil, or_false] at hx
        rcases hx with rfl | rfl | rfl | rfl
        · exact in64 (sgn_in _ _)
        · exact in64 (sgn_in _ _)
        · exact in64 (compareBytes_in _ _)
        · exact in64 (cmpL_in _ _)
      obtain ⟨b4, hb4, hb4i⟩ := buildInts4 hI
      have dor := or_does hb4i (by simp) σ3
      simp only [k62_a, WK, vop, evAll, evOpt, evParts, vbuiltin, vun, vextract, Nat.reduceLT, Nat.reduceEqDiff, ↓reduceIte, reduceCtorEq, Nat.reduceAdd, Int.reduceLT, Int.reduceNeg, valloc_std, noSB, vhot, List.getD_cons_zero, List.getD_cons_succ, vbox, vcells, List.length_append, List.length_cons, List.length_nil, ← hσ2, FV0, FV1, FV2, FV3, q2.kind, p2.kind]
      refine KD.ret (sgn_does _ _ _) ?_
      simp only [k62_a, WK, vop, evAll, evOpt, evParts, vbuiltin, vun, vextract, Nat.reduceLT, Nat.reduceEqDiff, ↓reduceIte, reduceCtorEq, Nat.reduceAdd, Int.reduceLT, Int.reduceNeg, valloc_std, noSB, vhot, FV0, FV1, FV2, FV3, q2.num, p2.num]
      refine KD.ret (sgn_does _ _ _) ?_
      simp only [k62_a, WK, vop, evAll, evOpt, evParts, vbuiltin, vun, vextract, Nat.reduceLT, Nat.reduceEqDiff, ↓reduceIte, reduceCtorEq, Nat.reduceAdd, Int.reduceLT, Int.reduceNeg, valloc_std, noSB, vhot, FV0, FV1, FV2, FV3, q2.text, p2.text]
      refine KD.ret (Does_compare t t' σ2) ?_
      simp only [k62_a, WK, vop, evAll, evOpt, evParts, vbuiltin, vun, vextract, Nat.reduceLT, Nat.reduceEqDiff, ↓reduceIte, reduceCtorEq, Nat.reduceAdd, Int.reduceLT, Int.reduceNeg, valloc_std, noSB, vhot, FV0, FV1, FV2, FV3, q2.list, p2.list]
      refine KD.ret d3 ?_
      simp only [k62_a, WK, vop, evAll, evOpt, evParts, vbuiltin, vun, vextract, Nat.reduceLT, Nat.reduceEqDiff, ↓reduceIte, reduceCtorEq, Nat.reduceAdd, Int.reduceLT, Int.reduceNeg, valloc_std, noSB, vhot, hb4]
      refine KD.ret dor ?_
      simp only [k62_a, WK, vop, evAll, evOpt, evParts, vbuiltin, vun, vextract, Nat.reduceLT, Nat.reduceEqDiff, ↓reduceIte, reduceCtorEq, Nat.reduceAdd, Int.reduceLT, Int.reduceNeg, valloc_std, noSB, vhot, q2.kind, q2.num, q2.text, q2.list, p2.kind, p2.num, p2.text, p2.list]
      rw [cmpV]
      exact ⟨rfl, hk2.trans k3⟩
    obtain ⟨q, σ', h1, rfl, h3⟩ := key
    exact ⟨σ', h1, h3⟩
theorem compare_does {a b : Val} {c1 c2 : List V} (σ : St) (hw : weight a ≤ 4294967296) (ha : ValC a c1) (hb : ValC b c2) : ∃ σ', Does Try.prog prims 62 [.agg c1, .agg c2] σ (.ret (.int .i64 (cmpV a b))) σ' ∧ Keep σ σ' :=
  compare_ok _ (Nat.le_refl _) σ hw ha hb
end Go.Proofs.Ytplhelapcpcncaa.Q

set_option linter.unusedVariables false
set_option linter.unusedSimpArgs false
namespace Go.Proofs.Ytplhelapcpcncaa.Q
open Go Go.RowKit Go.Proofs
theorem compareBytes_eq : ∀ a b : List UInt8, Lib.compareBytes a b = if a = b then 0 else if bytesLt a b = true then -1 else 1
  | [], [] => by simp [Lib.compareBytes]
  | [], _ :: _ => by simp [Lib.compareBytes, bytesLt]
  | _ :: _, [] => by simp [Lib.compareBytes, bytesLt]
  | a :: l, b :: m => by
    rw [Lib.compareBytes, bytesLt]
    by_cases h1 : a < b
    · have hne : ¬ a = b := by rintro rfl; exact absurd h1 (by simp)
      simp [h1, hne]
    · by_cases h2 : b < a
      · have hne : ¬ a = b := by rintro rfl; exact absurd h2 (by simp)
        have : (a == b) = false := by simpa using hne
        simp [h1, h2, hne, this]
      · have he : a = b := by
          have e1 : ¬ a.toNat < b.toNat := h1
          have e2 : ¬ b.toNat < a.toNat := h2
          exact UInt8.toNat_inj.1 (by omega)
        subst he
        rw [if_neg h1, if_neg h2, compareBytes_eq l m]
        simp
theorem sgn_eq {a b : Int} (h : a = b) : sgn a b = 0 := by subst h; simp [sgn]
theorem sgn_lt {a b : Int} (h : a < b) : sgn a b = -1 := by simp [sgn, h]
theorem sgn_gt {a b : Int} (h : b < a) : sgn a b = 1 := by
  have : ¬ a < b := by omega
  simp [sgn, h, this]
def I27 (σ0 : St) (q p : Nat) (l m : List Val) (c d : List V) : Nat → (Nat → V) → St → Prop := fun i e σ => e 5 = .int .i64 i ∧ i ≤ l.length ∧ i ≤ m.length ∧ cmpL l m = cmpL (l.drop i) (m.drop i) ∧ Keep σ0 σ ∧ IsV σ q c ∧ IsV σ p d
theorem refcompare_ok : ∀ (n : Nat), n ≤ 4294967296 → ∀ {a b : Val} {c1 c2 : List V} (σ : St), weight a ≤ n → ValC a c1 → ValC b c2 → ∃ σ', Does Try.prog prims 67 [.agg c1, .agg c2] σ (.ret (.int .i64 (cmpV a b))) σ' ∧ Keep σ σ' := by
  intro n
  induction n with
  | zero => intro _ a b c1 c2 σ h; have := weight_pos a; omega
  | succ n ih =>
    intro hn a b c1 c2 σ hwt ha hb
    have key : ∃ q σ', Does Try.prog prims 67 [.agg c1, .agg c2] σ q σ' ∧ q = .ret (.int .i64 (cmpV a b)) ∧ Keep σ σ' := by
      obtain ⟨k, m, t, l, w, rfl, rfl, hw, ik, im⟩ := ha.inv
      obtain ⟨k', m', t', l', w', rfl, rfl, hw', ik', im'⟩ := hb.inv
      rw [weight] at hwt
      have hll := weights_len l
      have H : CmpOk 67 l := fun x hx b d1 d2 σ h1 h2 => by
        have := weights_mem hx
        exact ih (by omega) σ (by omega) h1 h2
      apply k67_is.does (by simp)
      obtain ⟨c, hc⟩ : ∃ c : List V, c = [.int .i64 k, .int .i64 m, .str t, w] := ⟨_, rfl⟩
      obtain ⟨d, hd⟩ : ∃ d : List V, d = [.int .i64 k', .int .i64 m', .str t', w'] := ⟨_, rfl⟩
      obtain ⟨σ2, hσ2⟩ : ∃ σ2 : St, σ2 = ⟨(σ.objs ++ [Ob.cells c]) ++ [Ob.cells d], σ.toks⟩ := ⟨_, rfl⟩
      have hk2 : Keep σ σ2 := by rw [hσ2]; exact ((Keep.refl σ).push _).push _
      have q2 : IsV σ2 σ.objs.length c := by rw [hσ2]; show ((σ.objs ++ [_]) ++ [_])[_]? = _; rw [List.getElem?_append_left (by simp)]; exact push_new _ _
      have p2 : IsV σ2 (σ.objs.length + 1) d := by rw [hσ2]; simp [IsV]
      have q2' := q2
      have p2' := p2
      rw [hc] at q2'
      rw [hd] at p2'
      rw [← hc, ← hd]
      simp only [k67_a, WK, vop, evAll, evOpt, evParts, vbuiltin, vun, vextract, Nat.reduceLT, Nat.reduceEqDiff, ↓reduceIte, reduceCtorEq, Nat.reduceAdd, Int.reduceLT, Int.reduceNeg, valloc_std, noSB, vhot, List.getD_cons_zero, List.getD_cons_succ, vbox, vcells, List.length_append, List.length_cons, List.length_nil, ← hσ2, FV0, FV1, FV2, FV3, q2'.kind, p2'.kind]
      rw [cmpV]
      by_cases hk : k = k'
      case neg =>
        simp only [hk, k67_a, WK, vop, evAll, evOpt, evParts, vbuiltin, vun, vextract, Nat.reduceLT, Nat.reduceEqDiff, ↓reduceIte, reduceCtorEq, Nat.reduceAdd, Int.reduceLT, Int.reduceNeg, valloc_std, noSB, vhot, FV0, q2'.kind, p2'.kind]
        by_cases hlt : k < k'
        · simp only [hlt, k67_a, WK, vop, evAll, evOpt, evParts, vbuiltin, vun, vextract, Nat.reduceLT, Nat.reduceEqDiff, ↓reduceIte, reduceCtorEq, Nat.reduceAdd, Int.reduceLT, Int.reduceNeg, valloc_std, noSB, vhot]
          rw [orI, sgn_lt hlt]
          exact ⟨rfl, hk2⟩
        · simp only [hlt, k67_a, WK, vop, evAll, evOpt, evParts, vbuiltin, vun, vextract, Nat.reduceLT, Nat.reduceEqDiff, ↓reduceIte, reduceCtorEq, Nat.reduceAdd, Int.reduceLT, Int.reduceNeg, valloc_std, noSB, vhot]
          rw [orI, sgn_gt (by omega)]
          exact ⟨rfl, hk2⟩
      rw [orI, sgn_eq hk, if_pos rfl]
      simp only [hk, k67_a, WK, vop, evAll, evOpt, evParts, vbuiltin, vun, vextract, Nat.reduceLT, Nat.reduceEqDiff, ↓reduceIte, reduceCtorEq, Nat.reduceAdd, Int.reduceLT, Int.reduceNeg, valloc_std, noSB, vhot, FV1, q2'.num, p2'.num]
      by_cases hm : m = m'
      case neg =>
        simp only [hm, k67_a, WK, vop, evAll, evOpt, evParts, vbuiltin, vun, vextract, Nat.reduceLT, Nat.reduceEqDiff, ↓reduceIte, reduceCtorEq, Nat.reduceAdd, Int.reduceLT, Int.reduceNeg, valloc_std, noSB, vhot, FV1, q2'.num, p2'.num]
        by_cases hlt : m < m'
        · simp only [hlt, k67_a, WK, vop, evAll, evOpt, evParts, vbuiltin, vun, vextract, Nat.reduceLT, Nat.reduceEqDiff, ↓reduceIte, reduceCtorEq, Nat.reduceAdd, Int.reduceLT, Int.reduceNeg, valloc_std, noSB, vhot]
          rw [orI, sgn_lt hlt]
          exact ⟨rfl, hk2⟩
        · simp only [hlt, k67_a, WK, vop, evAll, evOpt, evParts, vbuiltin, vun, vextract, Nat.reduceLT, Nat.reduceEqDiff, ↓reduceIte, reduceCtorEq, Nat.reduceAdd, Int.reduceLT, Int.reduceNeg, valloc_std, noSB, vhot]
          rw [orI, sgn_gt (by omega)]
          exact ⟨rfl, hk2⟩
      rw [orI, sgn_eq hm, if_pos rfl]
      simp only [hm, k67_a, WK, vop, evAll, evOpt, evParts, vbuiltin, vun, vextract, Nat.reduceLT, Nat.reduceEqDiff, ↓reduceIte, reduceCtorEq, Nat.reduceAdd, Int.reduceLT, Int.reduceNeg, valloc_std, noSB, vhot, FV2, q2'.text, p2'.text, strBin]
      have hcb := compareBytes_eq t t'
      by_cases ht : t = t'
      case neg =>
        rw [if_neg ht] at hcb
        simp only [ht, k67_a, WK, vop, evAll, evOpt, evParts, vbuiltin, vun, vextract, Nat.reduceLT, Nat.reduceEqDiff, ↓reduceIte, reduceCtorEq, Nat.reduceAdd, Int.reduceLT, Int.reduceNeg, valloc_std, noSB, vhot, FV2, q2'.text, p2'.text, strBin]
        cases hlt : bytesLt t t' with
        | true =>
          rw [hlt, if_pos rfl] at hcb
          simp only [k67_a, WK, vop, evAll, evOpt, evParts, vbuiltin, vun, vextract, Nat.reduceLT, Nat.reduceEqDiff, ↓reduceIte, reduceCtorEq, Nat.reduceAdd, Int.reduceLT, Int.reduceNeg, valloc_std, noSB, vhot]
          rw [orI, hcb]
          exact ⟨rfl, hk2⟩
        | false =>
          rw [hlt, if_neg (by simp)] at hcb
          simp only [k67_a, WK, vop, evAll, evOpt, evParts, vbuiltin, vun, vextract, Nat.reduceLT, Nat.reduceEqDiff, ↓reduceIte, reduceCtorEq, Nat.reduceAdd, Int.reduceLT, Int.reduceNeg, valloc_std, noSB, vhot]
          rw [orI, hcb]
          exact ⟨rfl, hk2⟩
      rw [if_pos ht] at hcb
      rw [orI, hcb, if_pos rfl]
      have hor : orI [cmpL l l'] = cmpL l l' := by
        rw [orI, orI]
        split
        · rename_i h; exact h.symm
        · rfl
      rw [hor]
      simp only [ht, k67_a, WK, vop, evAll, evOpt, evParts, vbuiltin, vun, vextract, Nat.reduceLT, Nat.reduceEqDiff, ↓reduceIte, reduceCtorEq, Nat.reduceAdd, Int.reduceLT, Int.reduceNeg, valloc_std, noSB, vhot]
      refine Ev.loopF (I27 σ σ.objs.length (σ.objs.length + 1) l l' c d) (fun i => l.length - i) 0 ⟨by simp [upd_some], by simp, by simp, by simp, hk2, q2, p2⟩ ?_
      rintro i e σ1 ⟨h5, hi, him, heq, hkk, q1, p1⟩ hf
      have h2 : e 2 = .optr σ.objs.length 0 := (hf 2 (by decide)).trans (by simp [upd_some])
      have h3 : e 3 = .optr (σ.objs.length + 1) 0 := (hf 3 (by decide)).trans (by simp [upd_some])
      clear hf
      have q1' := q1
      have p1' := p1
      rw [hc] at q1'
      rw [hd] at p1'
      by_cases hlt : i < l.length
      · have hlt' : (i : Int) < l.length := by omega
        by_cases hltm : i < l'.length
        · have hltm' : (i : Int) < l'.length := by omega
          have hwi : IntKind.i64.wrap ((i : Int) + 1) = ((i + 1 : Nat) : Int) := by rw [show ((i : Int) + 1) = ((i + 1 : Nat) : Int) from by omega]; exact wrap_nat (by omega)
          obtain ⟨cs, c0, ha0, hld, hc0⟩ := hw.get hlt
          obtain ⟨cs', c0', ha', hld', hc'⟩ := hw'.get hltm
          rw [List.drop_eq_getElem_cons hlt, List.drop_eq_getElem_cons hltm, cmpL] at heq
          obtain ⟨s4, d4, k4⟩ := H l[i] (List.getElem_mem hlt) l'[i] c0 c0' σ1 hc0 hc'
          simp only [k67_a, WK, vop, evAll, evOpt, evParts, vbuiltin, vun, vextract, Nat.reduceLT, Nat.reduceEqDiff, ↓reduceIte, reduceCtorEq, Nat.reduceAdd, Int.reduceLT, Int.reduceNeg, valloc_std, noSB, vhot, h2, h3, h5, FV3, q1'.list, p1'.list, hw.len, hw'.len, hlt', hltm', ha0, hld, ha', hld']
          refine KD.ret d4 ?_
          by_cases hz : cmpV l[i] l'[i] = 0
          · rw [if_pos hz] at heq
            simp only [k67_a, WK, vop, evAll, evOpt, evParts, vbuiltin, vun, vextract, Nat.reduceLT, Nat.reduceEqDiff, ↓reduceIte, reduceCtorEq, Nat.reduceAdd, Int.reduceLT, Int.reduceNeg, valloc_std, noSB, vhot, h5, hz, hwi]
            exact ⟨i + 1, ⟨by simp [upd_some], hlt, hltm, heq, hkk.trans k4, k4.atV q1, k4.atV p1⟩, by omega⟩
          · rw [if_neg hz] at heq
            simp only [k67_a, WK, vop, evAll, evOpt, evParts, vbuiltin, vun, vextract, Nat.reduceLT, Nat.reduceEqDiff, ↓reduceIte, reduceCtorEq, Nat.reduceAdd, Int.reduceLT, Int.reduceNeg, valloc_std, noSB, vhot, h5, hz]
            exact ⟨by rw [heq], hkk.trans k4⟩
        · have hltm' : ¬ (i : Int) < l'.length := by omega
          have hmi : l'.drop i = [] := List.drop_of_length_le (by omega)
          rw [List.drop_eq_getElem_cons hlt, hmi, cmpL_cons_nil] at heq
          have e1 : ¬ (l.length : Int) < l'.length := by omega
          have e2 : (l'.length : Int) < l.length := by omega
          simp only [k67_a, WK, vop, evAll, evOpt, evParts, vbuiltin, vun, vextract, Nat.reduceLT, Nat.reduceEqDiff, ↓reduceIte, reduceCtorEq, Nat.reduceAdd, Int.reduceLT, Int.reduceNeg, valloc_std, noSB, vhot, h2, h3, h5, FV3, q1'.list, p1'.list, hw.len, hw'.len, hlt', hltm', e1, e2]
          exact ⟨by rw [heq], hkk⟩
      · have hlt' : ¬ (i : Int) < l.length := by omega
        have hli : l.drop i = [] := List.drop_of_length_le (by omega)
        rw [hli, cmpL_nil, List.length_drop] at heq
        have e2 : ¬ (l'.length : Int) < l.length := by omega
        by_cases hs : (l.length : Int) < l'.length
        · rw [if_pos (by omega)] at heq
          simp only [k67_a, WK, vop, evAll, evOpt, evParts, vbuiltin, vun, vextract, Nat.reduceLT, Nat.reduceEqDiff, ↓reduceIte, reduceCtorEq, Nat.reduceAdd, Int.reduceLT, Int.reduceNeg, valloc_std, noSB, vhot, h2, h3, h5, FV3, q1'.list, p1'.list, hw.len, hw'.len, hlt', hs]
          exact ⟨by rw [heq], hkk⟩
        · rw [if_neg (by omega)] at heq
          simp only [k67_a, WK, vop, evAll, evOpt, evParts, vbuiltin, vun, vextract, Nat.reduceLT, Nat.reduceEqDiff, ↓reduceIte, reduceCtorEq, Nat.reduceAdd, Int.reduceLT, Int.reduceNeg, valloc_std, noSB, vhot, h2, h3, h5, FV3, q1'.list, p1'.list, hw.len, hw'.len, hlt', hs, e2]
          exact ⟨by rw [heq], hkk⟩
    obtain ⟨q, σ', h1, rfl, h3⟩ := key
    exact ⟨σ', h1, h3⟩
theorem refcompare_does {a b : Val} {c1 c2 : List V} (σ : St) (hw : weight a ≤ 4294967296) (ha : ValC a c1) (hb : ValC b c2) : ∃ σ', Does Try.prog prims 67 [.agg c1, .agg c2] σ (.ret (.int .i64 (cmpV a b))) σ' ∧ Keep σ σ' :=
  refcompare_ok _ (Nat.le_refl _) σ hw ha hb
/-! ### Weights -/
def I28 (σ0 : St) (s : Nat) (l : List Val) : Nat → (Nat → V) → St → Prop := fun i e σ => e 13 = .int .i64 i ∧ i ≤ l.length ∧ e 3 = .int .i64 (s + weights (l.take i) : Nat) ∧ Keep σ0 σ
theorem weight_ok : ∀ (n : Nat), n ≤ 4294967296 → ∀ {a : Val} {c1 : List V} (σ : St), weight a ≤ n → ValC a c1 → ∃ σ', Does Try.prog prims 40 [.agg c1] σ (.ret (.int .i64 (weight a : Nat))) σ' ∧ Keep σ σ' := by
  intro n
  induction n with
  | zero => intro _ a c1 σ h; have := weight_pos a; omega
  | succ n ih =>
    intro hn a c1 σ hwt ha
    have key : ∃ q σ', Does Try.prog prims 40 [.agg c1] σ q σ' ∧ q = .ret (.int .i64 (weight a : Nat)) ∧ Keep σ σ' := by
      obtain ⟨k, m, t, l, w, rfl, rfl, hw, ik, im⟩ := ha.inv
      rw [weight] at hwt ⊢
      have hll := weights_len l
      apply k40_is.does (by simp)
      obtain ⟨σ2, hσ2⟩ : ∃ σ2 : St, σ2 = ⟨σ.objs ++ [Ob.cells [.int .i64 k, .int .i64 m, .str t, w]], σ.toks⟩ := ⟨_, rfl⟩
      have hk2 : Keep σ σ2 := by rw [hσ2]; exact (Keep.refl σ).push _
      have q2 : IsV σ2 σ.objs.length [.int .i64 k, .int .i64 m, .str t, w] := by rw [hσ2]; exact push_new _ _
      have w1 : IntKind.i64.wrap (1 + (t.length : Int)) = ((1 + t.length : Nat) : Int) := by rw [wrap_i64 (by omega) (by omega)]; omega
      simp only [k40_a, WK, vop, evAll, evOpt, evParts, vbuiltin, vun, vextract, Nat.reduceLT, Nat.reduceEqDiff, ↓reduceIte, reduceCtorEq, Nat.reduceAdd, Int.reduceLT, Int.reduceNeg, valloc_std, noSB, vhot, List.getD_cons_zero, vbox, vcells, ← hσ2, FV2, FV3, q2.text, q2.list, vlen_str T9, hw.len, w1]
      refine Ev.loopF (I28 σ (1 + t.length) l) (fun i => l.length - i) 0 ⟨by simp [upd_some], by simp, by simp [upd_some, weights], hk2⟩ ?_
      rintro i e σ1 ⟨h13, hi, h3, hk⟩ hf
      have h11 : e 11 = w := (hf 11 (by decide)).trans (by simp [upd_some])
      have h12 : e 12 = .int .i64 l.length := (hf 12 (by decide)).trans (by simp [upd_some])
      clear hf
      by_cases hlt : i < l.length
      · have hlt' : (i : Int) < l.length := by omega
        have hwi : IntKind.i64.wrap ((i : Int) + 1) = ((i + 1 : Nat) : Int) := by rw [show ((i : Int) + 1) = ((i + 1 : Nat) : Int) from by omega]; exact wrap_nat (by omega)
        obtain ⟨cs, c, ha0, hld, hc⟩ := hw.get hlt
        obtain ⟨s2, hs2⟩ : ∃ s2 : St, s2 = ⟨(σ1.objs ++ [Ob.cells val0C]).set σ1.objs.length (Ob.cells c), σ1.toks⟩ := ⟨_, rfl⟩
        have p2 : IsV s2 σ1.objs.length c := by rw [hs2]; exact IsV.made
        have k2 : Keep σ1 s2 := by rw [hs2]; exact (Keep.refl σ1).madeV _ _
        have hmem := weights_mem (List.getElem_mem hlt)
        obtain ⟨s3, d3, k3⟩ := ih (by omega) s2 (by omega) hc
        have hts := weights_take_succ hlt
        have htl := weights_take_le l (i + 1)
        have w2 : IntKind.i64.wrap (((1 + t.length + weights (l.take i) : Nat) : Int) + (weight l[i] : Nat)) = ((1 + t.length + weights (l.take (i + 1)) : Nat) : Int) := by rw [wrap_i64 (by omega) (by omega)]; omega
        simp only [k40_a, WK, vop, evAll, evOpt, evParts, vbuiltin, vun, vextract, Nat.reduceLT, Nat.reduceEqDiff, ↓reduceIte, reduceCtorEq, Nat.reduceAdd, Int.reduceLT, Int.reduceNeg, valloc_std, noSB, vhot, h3, h11, h12, h13, hlt', ha0, hld, VZ24, vbox, vcells, IsV.new hc.len (show val0C.length = 4 from rfl) hc.one, ← hs2, p2.load hc.len]
        refine KD.ret d3 ?_
        simp only [k40_a, WK, vop, evAll, evOpt, evParts, vbuiltin, vun, vextract, Nat.reduceLT, Nat.reduceEqDiff, ↓reduceIte, reduceCtorEq, Nat.reduceAdd, Int.reduceLT, Int.reduceNeg, valloc_std, noSB, vhot, h3, h13, w2, hwi]
        exact ⟨i + 1, ⟨by simp [upd_some], hlt, by simp [upd_some], (hk.trans k2).trans k3⟩, by omega⟩
      · have hlt' : ¬ (i : Int) < l.length := by omega
        simp only [k40_a, WK, vop, evAll, evOpt, evParts, vbuiltin, vun, vextract, Nat.reduceLT, Nat.reduceEqDiff, ↓reduceIte, reduceCtorEq, Nat.reduceAdd, Int.reduceLT, Int.reduceNeg, valloc_std, noSB, vhot, h3, h11, h12, h13, hlt']
        rw [List.take_of_length_le (by omega)]
        exact ⟨rfl, hk⟩
    obtain ⟨q, σ', h1, rfl, h3⟩ := key
    exact ⟨σ', h1, h3⟩
theorem weight_does {a : Val} {c1 : List V} (σ : St) (hw : weight a ≤ 4294967296) (ha : ValC a c1) : ∃ σ', Does Try.prog prims 40 [.agg c1] σ (.ret (.int .i64 (weight a : Nat))) σ' ∧ Keep σ σ' :=
  weight_ok _ (Nat.le_refl _) σ hw ha
end Go.Proofs.Ytplhelapcpcncaa.Q

set_option linter.unusedVariables false
set_option linter.unusedSimpArgs false
namespace Go.Proofs.Ytplhelapcpcncaa.Q
open Go Go.RowKit Go.Proofs
/-! ### How large -/
def IsN (σ : St) (p : Nat) (x : Nat) : Prop := σ.objs[p]? = some (.cells [.int .i64 (x : Nat)])
theorem IsN.load {σ : St} {p x : Nat} (h : IsN σ p x) : vload Try.prog σ.objs 3 (.optr p 0) = some (.int .i64 (x : Nat)) := by rw [vload_obj h G3]; rfl
theorem IsN.put {σ : St} {p x : Nat} (h : IsN σ p x) (y : Nat) : vstore Try.prog σ 3 (.optr p 0) (.int .i64 (y : Nat)) = some ⟨σ.objs.set p (Ob.cells [.int .i64 (y : Nat)]), σ.toks⟩ := by
  rw [vstore_obj h S3 rfl (by simp)]; rfl
theorem KeepX.atV {σ σ' : St} {p : Nat} (h : KeepX p σ σ') {q : Nat} {c : List V} (hne : q ≠ p) (hq : IsV σ q c) : IsV σ' q c := h.1 _ _ hne hq
theorem IsN.lt {σ : St} {p x : Nat} (h : IsN σ p x) : p < σ.objs.length := (List.getElem?_eq_some_iff.1 h).1
end Go.Proofs.Ytplhelapcpcncaa.Q

set_option linter.unusedVariables false
set_option linter.unusedSimpArgs false
namespace Go.Proofs.Ytplhelapcpcncaa.Q
open Go Go.RowKit Go.Proofs
/-! ### Types and their texts -/
inductive Ty where
  | int | bool | text
  | list (e : Ty) | mapI (e : Ty) | mapT (e : Ty)
  deriving DecidableEq
def intB : List UInt8 := [105, 110, 116]
def boolB : List UInt8 := [98, 111, 111, 108]
def textB : List UInt8 := [116, 101, 120, 116]
def mI : List UInt8 := [123, 105, 110, 116, 58]
def mT : List UInt8 := [123, 116, 101, 120, 116, 58]
def tyB : Ty → List UInt8
  | .int => intB
  | .bool => boolB
  | .text => textB
  | .list e => 91 :: (tyB e ++ [93])
  | .mapI e => mI ++ tyB e ++ [125]
  | .mapT e => mT ++ tyB e ++ [125]
def tyD : Ty → Nat
  | .int => 1 | .bool => 1 | .text => 1
  | .list e => tyD e + 1 | .mapI e => tyD e + 1 | .mapT e => tyD e + 1
def isPre (p l : List UInt8) : Bool := decide (p.length ≤ l.length) && decide (l.take p.length = p)
def mid (k : Nat) (s : List UInt8) : List UInt8 := s.dropLast.drop k
/-- The type of a text, of a depth at most r. -/
def tyOf : Nat → List UInt8 → Option Ty
  | 0, _ => none
  | r + 1, s => if s = intB then some .int else if s = boolB then some .bool else if s = textB then some .text
    else if s.length < 2 ∨ r = 0 then none
    else if isPre [91] s.dropLast = true then (if s.getLast? = some 93 then (tyOf r (mid 1 s)).map .list else none)
    else if isPre mI s.dropLast = true then (if s.getLast? = some 125 then (tyOf r (mid 5 s)).map .mapI else none)
    else if isPre mT s.dropLast = true then (if s.getLast? = some 125 then (tyOf r (mid 6 s)).map .mapT else none)
    else none
theorem isPre_append (p l : List UInt8) : isPre p (p ++ l) = true := by simp [isPre]
theorem dropLast_snoc (l : List UInt8) (x : UInt8) : (l ++ [x]).dropLast = l := List.dropLast_concat
theorem isPre_split {p s : List UInt8} {x : UInt8} (h : isPre p s.dropLast = true) (hx : s.getLast? = some x) : s = p ++ mid p.length s ++ [x] := by
  simp only [isPre, Bool.and_eq_true, decide_eq_true_eq] at h
  have h1 : s.dropLast ++ [x] = s := by
    rw [List.getLast?_eq_some_iff] at hx
    obtain ⟨ys, rfl⟩ := hx
    rw [List.dropLast_concat]
  conv => lhs; rw [← h1, ← List.take_append_drop p.length s.dropLast, h.2]
  rfl
theorem tyOf_some : ∀ {r : Nat} {s : List UInt8} {T : Ty}, tyOf r s = some T → s = tyB T ∧ tyD T ≤ r
  | 0, s, T, h => by cases h
  | r + 1, s, T, h => by
    rw [tyOf] at h
    split at h
    · rename_i hs; injection h with h; subst h; exact ⟨hs, by simp [tyD]⟩
    split at h
    · rename_i hs; injection h with h; subst h; exact ⟨hs, by simp [tyD]⟩
    split at h
    · rename_i hs; injection h with h; subst h; exact ⟨hs, by simp [tyD]⟩
    split at h
    · cases h
    split at h
    · rename_i hp
      split at h
      · rename_i hl
        rw [Option.map_eq_some_iff] at h
        obtain ⟨e, he, rfl⟩ := h
        obtain ⟨h1, h2⟩ := tyOf_some he
        have := isPre_split hp hl
        refine ⟨?_, by simp [tyD]; omega⟩
        rw [this, show ([91] : List UInt8).length = 1 from rfl, h1]
        rfl
      · cases h
    split at h
    · rename_i hp
      split at h
      · rename_i hl
        rw [Option.map_eq_some_iff] at h
        obtain ⟨e, he, rfl⟩ := h
        obtain ⟨h1, h2⟩ := tyOf_some he
        have := isPre_split hp hl
        refine ⟨?_, by simp [tyD]; omega⟩
        rw [this, show mI.length = 5 from rfl, h1]
        rfl
      · cases h
    split at h
    · rename_i hp
      split at h
      · rename_i hl
        rw [Option.map_eq_some_iff] at h
        obtain ⟨e, he, rfl⟩ := h
        obtain ⟨h1, h2⟩ := tyOf_some he
        have := isPre_split hp hl
        refine ⟨?_, by simp [tyD]; omega⟩
        rw [this, show mT.length = 6 from rfl, h1]
        rfl
      · cases h
    · cases h
theorem tyB_len : ∀ T : Ty, 3 ≤ (tyB T).length ∧ (tyB T).length ≤ 7 * tyD T
  | .int => by simp [tyB, tyD, intB]
  | .bool => by simp [tyB, tyD, boolB]
  | .text => by simp [tyB, tyD, textB]
  | .list e => by have := tyB_len e; simp [tyB, tyD]; omega
  | .mapI e => by have := tyB_len e; simp [tyB, tyD, mI]; omega
  | .mapT e => by have := tyB_len e; simp [tyB, tyD, mT]; omega
theorem tyD_pos (T : Ty) : 1 ≤ tyD T := by cases T <;> simp [tyD]
theorem tyOf_tyB : ∀ {T : Ty} {r : Nat}, tyD T ≤ r → tyOf r (tyB T) = some T
  | T, 0, h => by have := tyD_pos T; omega
  | .int, r + 1, h => by rw [tyOf, show tyB .int = intB from rfl]; exact if_pos rfl
  | .bool, r + 1, h => by rw [tyOf, show tyB .bool = boolB from rfl, if_neg (by decide)]; exact if_pos rfl
  | .text, r + 1, h => by rw [tyOf, show tyB .text = textB from rfl, if_neg (by decide), if_neg (by decide)]; exact if_pos rfl
  | .list e, r + 1, h => by
    have hl := tyB_len e
    have hr : r ≠ 0 := by have := tyD_pos e; simp only [tyD] at h; omega
    have hb1 : ¬ tyB (.list e) = intB := by simp [tyB, intB]
    have hb2 : ¬ tyB (.list e) = boolB := by simp [tyB, boolB]
    have hb3 : ¬ tyB (.list e) = textB := by simp [tyB, textB]
    have hd : (tyB (.list e)).dropLast = [91] ++ tyB e := by rw [tyB, ← List.cons_append, dropLast_snoc]; rfl
    have hg : (tyB (.list e)).getLast? = some 93 := by rw [tyB, ← List.cons_append, List.getLast?_concat]
    rw [tyOf, if_neg hb1, if_neg hb2, if_neg hb3, if_neg (by rw [tyB]; simp [hr]), hd, if_pos (isPre_append _ _), if_pos hg]
    have : mid 1 (tyB (.list e)) = tyB e := by rw [mid, hd]; rfl
    rw [this, tyOf_tyB (by simp only [tyD] at h; omega)]
    rfl
  | .mapI e, r + 1, h => by
    have hl := tyB_len e
    have hr : r ≠ 0 := by have := tyD_pos e; simp only [tyD] at h; omega
    have hb1 : ¬ tyB (.mapI e) = intB := by simp [tyB, intB, mI]
    have hb2 : ¬ tyB (.mapI e) = boolB := by simp [tyB, boolB, mI]
    have hb3 : ¬ tyB (.mapI e) = textB := by simp [tyB, textB, mI]
    have hd : (tyB (.mapI e)).dropLast = mI ++ tyB e := by rw [tyB, dropLast_snoc]
    have hg : (tyB (.mapI e)).getLast? = some 125 := by rw [tyB, List.getLast?_concat]
    have hp : ¬ isPre [91] (tyB (.mapI e)).dropLast = true := by rw [hd]; simp [isPre, mI]
    rw [tyOf, if_neg hb1, if_neg hb2, if_neg hb3, if_neg (by rw [tyB]; simp [hr, mI]), if_neg hp, hd, if_pos (isPre_append _ _), if_pos hg]
    have : mid 5 (tyB (.mapI e)) = tyB e := by rw [mid, hd]; rfl
    rw [this, tyOf_tyB (by simp only [tyD] at h; omega)]
    rfl
  | .mapT e, r + 1, h => by
    have hl := tyB_len e
    have hr : r ≠ 0 := by have := tyD_pos e; simp only [tyD] at h; omega
    have hb1 : ¬ tyB (.mapT e) = intB := by simp [tyB, intB, mT]
    have hb2 : ¬ tyB (.mapT e) = boolB := by simp [tyB, boolB, mT]
    have hb3 : ¬ tyB (.mapT e) = textB := by simp [tyB, textB, mT]
    have hd : (tyB (.mapT e)).dropLast = mT ++ tyB e := by rw [tyB, dropLast_snoc]
    have hg : (tyB (.mapT e)).getLast? = some 125 := by rw [tyB, List.getLast?_concat]
    have hp : ¬ isPre [91] (tyB (.mapT e)).dropLast = true := by rw [hd]; simp [isPre, mT]
    have hp2 : ¬ isPre mI (tyB (.mapT e)).dropLast = true := by rw [hd]; simp [isPre, mT, mI]
    rw [tyOf, if_neg hb1, if_neg hb2, if_neg hb3, if_neg (by rw [tyB]; simp [hr, mT]), if_neg hp, if_neg hp2, hd, if_pos (isPre_append _ _), if_pos hg]
    have : mid 6 (tyB (.mapT e)) = tyB e := by rw [mid, hd]; rfl
    rw [this, tyOf_tyB (by simp only [tyD] at h; omega)]
    rfl
theorem tyOf_iff {r : Nat} {s : List UInt8} {T : Ty} : tyOf r s = some T ↔ s = tyB T ∧ tyD T ≤ r :=
  ⟨tyOf_some, fun ⟨h1, h2⟩ => by rw [h1]; exact tyOf_tyB h2⟩
end Go.Proofs.Ytplhelapcpcncaa.Q

set_option linter.unusedVariables false
set_option linter.unusedSimpArgs false
namespace Go.Proofs.Ytplhelapcpcncaa.Q
open Go Go.RowKit Go.Proofs
theorem ofVal_str {a : ByteArray} : ofVal (.string a) = some (.str a.data.toList) := rfl
theorem str_hi {s : List UInt8} {n : Nat} (h : n ≤ s.length) {k : IntKind} : vslice Try.prog 9 (.str s) none (some (.int k (n : Int))) none = some (.str (s.take n)) := by
  have := vbounds_hi (len := s.length) (k := k) (n := n) (by omega) (by omega)
  simp [vslice, T9, this]
theorem str_lo {s : List UInt8} {n : Nat} (h : n ≤ s.length) {k : IntKind} : vslice Try.prog 9 (.str s) (some (.int k (n : Int))) none none = some (.str (s.drop n)) := by
  have := vbounds_lo (len := s.length) (k := k) (n := n) (by omega) (by omega)
  have h2 : List.take (s.length - n) (List.drop n s) = List.drop n s := List.take_of_length_le (by rw [List.length_drop]; omega)
  simp [vslice, T9, this, h2]
theorem str_lohi {s : List UInt8} {n m : Nat} (h : n ≤ m) (hm : m ≤ s.length) {k k' : IntKind} : vslice Try.prog 9 (.str s) (some (.int k (n : Int))) (some (.int k' (m : Int))) none = some (.str ((s.take m).drop n)) := by
  have := vbounds_lohi (len := s.length) (k := k) (k' := k') (n := n) (m := m) (by omega) (by omega) (by omega)
  simp [vslice, T9, this, List.drop_take]
theorem str_at {s : List UInt8} {n : Nat} {c : UInt8} (h : s[n]? = some c) {k : IntKind} : vindex Try.prog 9 (.str s) (.int k (n : Int)) = some (.int .u8 (c.toNat : Int)) := by
  simp [vindex, T9, h]
theorem u8_eq {c d : UInt8} : decide ((c.toNat : Int) = (d.toNat : Int)) = decide (c = d) := by
  rw [decide_eq_decide]
  constructor
  · intro h; exact UInt8.toNat_inj.1 (by omega)
  · rintro rfl; rfl
theorem hasprefix_does (s p : List UInt8) (σ : St) : Does Try.prog prims 80 [.str s, .str p] σ (.ret (.bool (isPre p s))) σ := by
  apply k80_is.ret (by simp)
  unfold isPre
  by_cases h : (p.length : Int) ≤ s.length
  · have h' : p.length ≤ s.length := by omega
    simp only [k80_a, WK, vop, evAll, evOpt, evParts, vbuiltin, vun, vextract, Nat.reduceLT, Nat.reduceEqDiff, ↓reduceIte, reduceCtorEq, Nat.reduceAdd, Int.reduceLT, Int.reduceNeg, valloc_std, noSB, vhot, List.getD_cons_zero, List.getD_cons_succ, vlen_str T9, h, T9, str_hi h', strBin, h', Bool.true_and]
  · have h' : ¬ p.length ≤ s.length := by omega
    simp only [k80_a, WK, vop, evAll, evOpt, evParts, vbuiltin, vun, vextract, Nat.reduceLT, Nat.reduceEqDiff, ↓reduceIte, reduceCtorEq, Nat.reduceAdd, Int.reduceLT, Int.reduceNeg, valloc_std, noSB, vhot, List.getD_cons_zero, List.getD_cons_succ, vlen_str T9, h, h', Bool.false_and]
def cutS (s p : List UInt8) : List UInt8 := if isPre p s then s.drop p.length else s
theorem cut1_does (s p : List UInt8) (σ : St) : Does Try.prog prims 76 [.str s, .str p] σ (.ret (.tuple [.str (cutS s p), .bool (isPre p s)])) σ := by
  apply k76_is.ret (by simp)
  simp only [k76_a, WK, vop, evAll, evOpt, evParts, vbuiltin, vun, vextract, Nat.reduceLT, Nat.reduceEqDiff, ↓reduceIte, reduceCtorEq, Nat.reduceAdd, Int.reduceLT, Int.reduceNeg, valloc_std, noSB, vhot, ofVal_str, List.getD_cons_zero, List.getD_cons_succ]
  refine KD.ret (hasprefix_does s p σ) ?_
  unfold cutS
  cases h : isPre p s with
  | false => simp only [k76_a, WK, vop, evAll, evOpt, evParts, vbuiltin, vun, vextract, Nat.reduceLT, Nat.reduceEqDiff, ↓reduceIte, reduceCtorEq, Nat.reduceAdd, Int.reduceLT, Int.reduceNeg, valloc_std, noSB, vhot, List.getD_cons_zero, List.getD_cons_succ]
  | true =>
    have h' : p.length ≤ s.length := by
      simp only [isPre, Bool.and_eq_true, decide_eq_true_eq] at h
      exact h.1
    simp only [k76_a, WK, vop, evAll, evOpt, evParts, vbuiltin, vun, vextract, Nat.reduceLT, Nat.reduceEqDiff, ↓reduceIte, reduceCtorEq, Nat.reduceAdd, Int.reduceLT, Int.reduceNeg, valloc_std, noSB, vhot, List.getD_cons_zero, List.getD_cons_succ, vlen_str T9, T9, str_lo h']
theorem cut_does (s p : List UInt8) (σ : St) : Does Try.prog prims 69 [.str s, .str p] σ (.ret (.tuple [.str (cutS s p), .bool (isPre p s)])) σ := by
  apply k69_is.ret (by simp)
  simp only [k69_a, WK, vop, evAll, evOpt, evParts, vbuiltin, vun, vextract, Nat.reduceLT, Nat.reduceEqDiff, ↓reduceIte, reduceCtorEq, Nat.reduceAdd, Int.reduceLT, Int.reduceNeg, valloc_std, noSB, vhot, ofVal_str, List.getD_cons_zero, List.getD_cons_succ]
  refine KD.ret (cut1_does s p σ) ?_
  simp only [k69_a, WK, vop, evAll, evOpt, evParts, vbuiltin, vun, vextract, Nat.reduceLT, Nat.reduceEqDiff, ↓reduceIte, reduceCtorEq, Nat.reduceAdd, Int.reduceLT, Int.reduceNeg, valloc_std, noSB, vhot, List.getD_cons_zero, List.getD_cons_succ]
def strsV (l : List (List UInt8)) : List V := l.map .str
theorem TS98 : Try.prog.underlying 49 = some (.slice 9) := by kernel_rfl
theorem build2S (a b : List UInt8) : vbuildSlice Try.prog 49 2 [(0, .str a), (1, .str b)] = some (.slice .exact 1 [.str a, .str b] 2) := by kernel_rfl
theorem str2_addr0 (a b : List UInt8) : vindexAddr Try.prog 49 (.slice .exact 1 [.str a, .str b] 2) (.int .i64 ((0 : Nat) : Int)) = some (.eptr [.str a, .str b] 0) := by simp [vindexAddr, TS98, S9]
theorem str2_addr1 (a b : List UInt8) : vindexAddr Try.prog 49 (.slice .exact 1 [.str a, .str b] 2) (.int .i64 ((1 : Nat) : Int)) = some (.eptr [.str a, .str b] 1) := by simp [vindexAddr, TS98, S9]
theorem str2_load0 (a b : List UInt8) (objs : List Ob) : vload Try.prog objs 9 (.eptr [.str a, .str b] 0) = some (.str a) := by simp [vload, vcellsAt, vpart, G9]
theorem str2_load1 (a b : List UInt8) (objs : List Ob) : vload Try.prog objs 9 (.eptr [.str a, .str b] 1) = some (.str b) := by simp [vload, vcellsAt, vpart, G9]
theorem str2_len (a b : List UInt8) : vlen Try.prog 49 (.slice .exact 1 [.str a, .str b] 2) = some (.int .i64 2) := by simp [vlen, TS98]
set_option maxRecDepth 100000 in
set_option maxHeartbeats 1000000 in
theorem kind_does : ∀ (r : Nat), r ≤ 3 → ∀ (s : List UInt8) (σ : St), s.length ≤ 4294967296 → Does Try.prog prims 57 [.str s, .int .i64 ((4 - r : Nat) : Int)] σ (.ret (.bool (tyOf (r + 1) s).isSome)) σ := by
  intro r
  induction r with
  | zero =>
    intro hr s σ hl
    apply k57_is.ret (by simp)
    rw [tyOf]
    by_cases h1 : s = [105, 110, 116]
    · subst h1
      simp only [k57_a, WK, vop, evAll, evOpt, evParts, vbuiltin, vun, vextract, Nat.reduceLT, Nat.reduceEqDiff, ↓reduceIte, reduceCtorEq, Nat.reduceAdd, Int.reduceLT, Int.reduceNeg, valloc_std, noSB, vhot, List.getD_cons_zero, List.getD_cons_succ, ofVal_str, strBin, eq_self, Nat.sub_zero, Int.reduceLE, Int.cast_ofNat_Int, intB]
      rfl
    by_cases h2 : s = [98, 111, 111, 108]
    · subst h2
      simp only [k57_a, WK, vop, evAll, evOpt, evParts, vbuiltin, vun, vextract, Nat.reduceLT, Nat.reduceEqDiff, ↓reduceIte, reduceCtorEq, Nat.reduceAdd, Int.reduceLT, Int.reduceNeg, valloc_std, noSB, vhot, List.getD_cons_zero, List.getD_cons_succ, ofVal_str, strBin, h1, eq_self, Nat.sub_zero, Int.reduceLE, Int.cast_ofNat_Int, intB, boolB]
      rfl
    by_cases h3 : s = [116, 101, 120, 116]
    · subst h3
      simp only [k57_a, WK, vop, evAll, evOpt, evParts, vbuiltin, vun, vextract, Nat.reduceLT, Nat.reduceEqDiff, ↓reduceIte, reduceCtorEq, Nat.reduceAdd, Int.reduceLT, Int.reduceNeg, valloc_std, noSB, vhot, List.getD_cons_zero, List.getD_cons_succ, ofVal_str, strBin, h1, h2, eq_self, Nat.sub_zero, Int.reduceLE, Int.cast_ofNat_Int, intB, boolB, textB]
      rfl
    rw [if_neg (show ¬ s = intB from h1), if_neg (show ¬ s = boolB from h2), if_neg (show ¬ s = textB from h3), if_pos (.inr rfl)]
    by_cases hlen : (s.length : Int) < 2
    · simp only [k57_a, WK, vop, evAll, evOpt, evParts, vbuiltin, vun, vextract, Nat.reduceLT, Nat.reduceEqDiff, ↓reduceIte, reduceCtorEq, Nat.reduceAdd, Int.reduceLT, Int.reduceNeg, valloc_std, noSB, vhot, List.getD_cons_zero, List.getD_cons_succ, ofVal_str, strBin, h1, h2, h3, vlen_str T9, hlen, Option.isSome_none]
    · simp only [k57_a, WK, vop, evAll, evOpt, evParts, vbuiltin, vun, vextract, Nat.reduceLT, Nat.reduceEqDiff, ↓reduceIte, reduceCtorEq, Nat.reduceAdd, Int.reduceLT, Int.reduceNeg, valloc_std, noSB, vhot, List.getD_cons_zero, List.getD_cons_succ, ofVal_str, strBin, h1, h2, h3, vlen_str T9, hlen, Nat.sub_zero, Int.reduceLE, Int.cast_ofNat_Int, Option.isSome_none]
  | succ r ih =>
    intro hr s σ hl
    apply k57_is.ret (by simp)
    rw [tyOf]
    have hd4 : ((4 - (r + 1) : Nat) : Int) ≤ 4 := by omega
    have hd4' : ¬ (4 : Int) ≤ ((4 - (r + 1) : Nat) : Int) := by omega
    obtain ⟨d, hd⟩ : ∃ d : Int, d = ((4 - (r + 1) : Nat) : Int) := ⟨_, rfl⟩
    rw [← hd] at hd4 hd4' ⊢
    by_cases h1 : s = [105, 110, 116]
    · subst h1
      simp only [k57_a, WK, vop, evAll, evOpt, evParts, vbuiltin, vun, vextract, Nat.reduceLT, Nat.reduceEqDiff, ↓reduceIte, reduceCtorEq, Nat.reduceAdd, Int.reduceLT, Int.reduceNeg, valloc_std, noSB, vhot, List.getD_cons_zero, List.getD_cons_succ, ofVal_str, strBin, eq_self, hd4, intB]
      rfl
    by_cases h2 : s = [98, 111, 111, 108]
    · subst h2
      simp only [k57_a, WK, vop, evAll, evOpt, evParts, vbuiltin, vun, vextract, Nat.reduceLT, Nat.reduceEqDiff, ↓reduceIte, reduceCtorEq, Nat.reduceAdd, Int.reduceLT, Int.reduceNeg, valloc_std, noSB, vhot, List.getD_cons_zero, List.getD_cons_succ, ofVal_str, strBin, h1, eq_self, hd4, intB, boolB]
      rfl
    by_cases h3 : s = [116, 101, 120, 116]
    · subst h3
      simp only [k57_a, WK, vop, evAll, evOpt, evParts, vbuiltin, vun, vextract, Nat.reduceLT, Nat.reduceEqDiff, ↓reduceIte, reduceCtorEq, Nat.reduceAdd, Int.reduceLT, Int.reduceNeg, valloc_std, noSB, vhot, List.getD_cons_zero, List.getD_cons_succ, ofVal_str, strBin, h1, h2, eq_self, hd4, intB, boolB, textB]
      rfl
    rw [if_neg (show ¬ s = intB from h1), if_neg (show ¬ s = boolB from h2), if_neg (show ¬ s = textB from h3)]
    by_cases hlen : (s.length : Int) < 2
    · rw [if_pos (.inl (by omega))]
      simp only [k57_a, WK, vop, evAll, evOpt, evParts, vbuiltin, vun, vextract, Nat.reduceLT, Nat.reduceEqDiff, ↓reduceIte, reduceCtorEq, Nat.reduceAdd, Int.reduceLT, Int.reduceNeg, valloc_std, noSB, vhot, List.getD_cons_zero, List.getD_cons_succ, ofVal_str, strBin, h1, h2, h3, vlen_str T9, hlen, Option.isSome_none]
    rw [if_neg (by omega)]
    have w1 : IntKind.i64.wrap ((s.length : Int) - 1) = ((s.length - 1 : Nat) : Int) := by rw [wrap_i64 (by omega) (by omega)]; omega
    have w2 : IntKind.i64.wrap (d + 1) = ((4 - r : Nat) : Int) := by rw [wrap_i64 (by omega) (by omega)]; omega
    obtain ⟨c, hc⟩ : ∃ c, s[s.length - 1]? = some c := ⟨_, List.getElem?_eq_getElem (by omega)⟩
    have hg : s.getLast? = some c := by rw [List.getLast?_eq_getElem?]; exact hc
    have hdl : s.take (s.length - 1) = s.dropLast := (List.dropLast_eq_take).symm
    have c93 : decide ((c.toNat : Int) = 93) = decide (c = 93) := u8_eq (d := 93)
    have c125 : decide ((c.toNat : Int) = 125) = decide (c = 125) := u8_eq (d := 125)
    have ln : ∀ k, (mid k s).length ≤ 4294967296 := fun k => by unfold mid; rw [List.length_drop, List.length_dropLast]; omega
    have hsome : ∀ x : UInt8, (s.getLast? = some x) = (c = x) := fun x => by rw [hg, Option.some.injEq]
    simp only [hsome]
    simp only [k57_a, WK, vop, evAll, evOpt, evParts, vbuiltin, vun, vextract, Nat.reduceLT, Nat.reduceEqDiff, ↓reduceIte, reduceCtorEq, Nat.reduceAdd, Int.reduceLT, Int.reduceNeg, valloc_std, noSB, vhot, List.getD_cons_zero, List.getD_cons_succ, ofVal_str, strBin, h1, h2, h3, vlen_str T9, hlen, hd4', w1, T9, str_hi (show s.length - 1 ≤ s.length by omega), hdl]
    refine KD.ret (cut_does s.dropLast [91] σ) ?_
    cases hp : isPre [91] s.dropLast with
    | true =>
      have hcut : cutS s.dropLast [91] = mid 1 s := by unfold cutS; rw [if_pos hp]; rfl
      by_cases hcc : c = 93
      · have hb : decide ((c.toNat : Int) = 93) = true := by rw [c93]; exact decide_eq_true hcc
        have hcc' : (c = 93) = True := eq_true hcc
        simp only [k57_a, WK, vop, evAll, evOpt, evParts, vbuiltin, vun, vextract, Nat.reduceLT, Nat.reduceEqDiff, ↓reduceIte, reduceCtorEq, Nat.reduceAdd, Int.reduceLT, Int.reduceNeg, valloc_std, noSB, vhot, List.getD_cons_zero, List.getD_cons_succ, vlen_str T9, w1, w2, str_at hc, hb, hcc', hcut, eq_self, if_true]
        refine KD.ret (ih (by omega) (mid 1 s) σ (ln 1)) ?_
        simp only [k57_a, WK, vop, evAll, evOpt, evParts, vbuiltin, vun, vextract, Nat.reduceLT, Nat.reduceEqDiff, ↓reduceIte, reduceCtorEq, Nat.reduceAdd, Int.reduceLT, Int.reduceNeg, valloc_std, noSB, vhot, Option.isSome_map]
      · have hb : decide ((c.toNat : Int) = 93) = false := by rw [c93]; exact decide_eq_false hcc
        have hcc' : (c = 93) = False := eq_false hcc
        simp only [k57_a, WK, vop, evAll, evOpt, evParts, vbuiltin, vun, vextract, Nat.reduceLT, Nat.reduceEqDiff, ↓reduceIte, reduceCtorEq, Nat.reduceAdd, Int.reduceLT, Int.reduceNeg, valloc_std, noSB, vhot, List.getD_cons_zero, List.getD_cons_succ, vlen_str T9, w1, w2, str_at hc, hb, hcc', hcut, if_true, if_false, Option.isSome_none]
    | false =>
      simp only [k57_a, WK, vop, evAll, evOpt, evParts, vbuiltin, vun, vextract, Nat.reduceLT, Nat.reduceEqDiff, ↓reduceIte, reduceCtorEq, Nat.reduceAdd, Int.reduceLT, Int.reduceNeg, valloc_std, noSB, vhot, ofVal_str, build2S, str2_len, Bool.false_eq_true, if_false]
      refine Ev.loopF (fun i e σ' => e 49 = .int .i64 (i : Nat) ∧ i ≤ 2 ∧ (1 ≤ i → isPre mI s.dropLast = false) ∧ (2 ≤ i → isPre mT s.dropLast = false) ∧ σ' = σ) (fun i => 2 - i) 0 ?_ ?_
      · exact ⟨by simp [upd_some], by omega, fun h => by omega, fun h => by omega, rfl⟩
      rintro i e σ' ⟨h49, hi, hm1, hm2, hσ⟩ hf
      subst hσ
      have h47 : e 47 = .slice .exact 1 [.str mI, .str mT] 2 := (hf 47 (by decide)).trans (by simp [upd_some, mI, mT])
      have h48 : e 48 = .int .i64 2 := (hf 48 (by decide)).trans (by simp [upd_some])
      have h0 : e 0 = .str s := (hf 0 (by decide)).trans (by simp [upd_some])
      have he1 : e 1 = .int .i64 d := (hf 1 (by decide)).trans (by simp [upd_some])
      clear hf
      have i3 : i = 0 ∨ i = 1 ∨ i = 2 := by omega
      rcases i3 with rfl | rfl | rfl
      · have hlt : ((0 : Nat) : Int) < 2 := by omega
        have hwi : IntKind.i64.wrap (((0 : Nat) : Int) + 1) = ((1 : Nat) : Int) := by rw [wrap_i64 (by omega) (by omega)]; omega
        simp only [k57_a, WK, vop, evAll, evOpt, evParts, vbuiltin, vun, vextract, Nat.reduceLT, Nat.reduceEqDiff, ↓reduceIte, reduceCtorEq, Nat.reduceAdd, Int.reduceLT, Int.reduceNeg, valloc_std, noSB, vhot, h0, he1, h47, h48, h49, hlt, str2_addr0, str2_load0, vlen_str T9, w1, T9, str_hi (show s.length - 1 ≤ s.length by omega), hdl]
        refine KD.ret (cut_does s.dropLast mI σ') ?_
        cases hp2 : isPre mI s.dropLast with
        | true =>
          have hcut : cutS s.dropLast mI = mid 5 s := by unfold cutS; rw [if_pos hp2]; rfl
          by_cases hcc : c = 125
          · have hb : decide ((c.toNat : Int) = 125) = true := by rw [c125]; exact decide_eq_true hcc
            have hcc' : (c = 125) = True := eq_true hcc
            simp only [k57_a, WK, vop, evAll, evOpt, evParts, vbuiltin, vun, vextract, Nat.reduceLT, Nat.reduceEqDiff, ↓reduceIte, reduceCtorEq, Nat.reduceAdd, Int.reduceLT, Int.reduceNeg, valloc_std, noSB, vhot, h0, he1, h49, vlen_str T9, w1, w2, str_at hc, hb, hcc', hcut, eq_self, if_true]
            refine KD.ret (ih (by omega) (mid 5 s) σ' (ln 5)) ?_
            simp only [k57_a, WK, vop, evAll, evOpt, evParts, vbuiltin, vun, vextract, Nat.reduceLT, Nat.reduceEqDiff, ↓reduceIte, reduceCtorEq, Nat.reduceAdd, Int.reduceLT, Int.reduceNeg, valloc_std, noSB, vhot, Option.isSome_map]
          · have hb : decide ((c.toNat : Int) = 125) = false := by rw [c125]; exact decide_eq_false hcc
            have hcc' : (c = 125) = False := eq_false hcc
            simp only [k57_a, WK, vop, evAll, evOpt, evParts, vbuiltin, vun, vextract, Nat.reduceLT, Nat.reduceEqDiff, ↓reduceIte, reduceCtorEq, Nat.reduceAdd, Int.reduceLT, Int.reduceNeg, valloc_std, noSB, vhot, h0, he1, h49, vlen_str T9, w1, w2, str_at hc, hb, hcc', hcut, if_true, if_false, Option.isSome_none]
        | false =>
          simp only [k57_a, WK, vop, evAll, evOpt, evParts, vbuiltin, vun, vextract, Nat.reduceLT, Nat.reduceEqDiff, ↓reduceIte, reduceCtorEq, Nat.reduceAdd, Int.reduceLT, Int.reduceNeg, valloc_std, noSB, vhot, h49, hwi]
          exact ⟨1, ⟨by simp [upd_some], by omega, fun _ => by first | exact hp2 | exact trivial, fun h => by omega⟩, by omega⟩
      · have hlt : ((1 : Nat) : Int) < 2 := by omega
        have hwi : IntKind.i64.wrap (((1 : Nat) : Int) + 1) = ((2 : Nat) : Int) := by rw [wrap_i64 (by omega) (by omega)]; omega
        have hp1 := hm1 (by omega)
        simp only [k57_a, WK, vop, evAll, evOpt, evParts, vbuiltin, vun, vextract, Nat.reduceLT, Nat.reduceEqDiff, ↓reduceIte, reduceCtorEq, Nat.reduceAdd, Int.reduceLT, Int.reduceNeg, valloc_std, noSB, vhot, h0, he1, h47, h48, h49, hlt, str2_addr1, str2_load1, vlen_str T9, w1, T9, str_hi (show s.length - 1 ≤ s.length by omega), hdl]
        refine KD.ret (cut_does s.dropLast mT σ') ?_
        simp only [hp1, Bool.false_eq_true, if_false]
        cases hp2 : isPre mT s.dropLast with
        | true =>
          have hcut : cutS s.dropLast mT = mid 6 s := by unfold cutS; rw [if_pos hp2]; rfl
          by_cases hcc : c = 125
          · have hb : decide ((c.toNat : Int) = 125) = true := by rw [c125]; exact decide_eq_true hcc
            have hcc' : (c = 125) = True := eq_true hcc
            simp only [k57_a, WK, vop, evAll, evOpt, evParts, vbuiltin, vun, vextract, Nat.reduceLT, Nat.reduceEqDiff, ↓reduceIte, reduceCtorEq, Nat.reduceAdd, Int.reduceLT, Int.reduceNeg, valloc_std, noSB, vhot, h0, he1, h49, vlen_str T9, w1, w2, str_at hc, hb, hcc', hcut, eq_self, if_true]
            refine KD.ret (ih (by omega) (mid 6 s) σ' (ln 6)) ?_
            simp only [k57_a, WK, vop, evAll, evOpt, evParts, vbuiltin, vun, vextract, Nat.reduceLT, Nat.reduceEqDiff, ↓reduceIte, reduceCtorEq, Nat.reduceAdd, Int.reduceLT, Int.reduceNeg, valloc_std, noSB, vhot, Option.isSome_map]
          · have hb : decide ((c.toNat : Int) = 125) = false := by rw [c125]; exact decide_eq_false hcc
            have hcc' : (c = 125) = False := eq_false hcc
            simp only [k57_a, WK, vop, evAll, evOpt, evParts, vbuiltin, vun, vextract, Nat.reduceLT, Nat.reduceEqDiff, ↓reduceIte, reduceCtorEq, Nat.reduceAdd, Int.reduceLT, Int.reduceNeg, valloc_std, noSB, vhot, h0, he1, h49, vlen_str T9, w1, w2, str_at hc, hb, hcc', hcut, if_true, if_false, Option.isSome_none]
        | false =>
          simp only [k57_a, WK, vop, evAll, evOpt, evParts, vbuiltin, vun, vextract, Nat.reduceLT, Nat.reduceEqDiff, ↓reduceIte, reduceCtorEq, Nat.reduceAdd, Int.reduceLT, Int.reduceNeg, valloc_std, noSB, vhot, h49, hwi]
          exact ⟨2, ⟨by simp [upd_some], by omega, fun _ => by first | exact hp1 | exact trivial, fun _ => by first | exact hp2 | exact trivial⟩, by omega⟩
      · have hlt : ¬ ((2 : Nat) : Int) < 2 := by omega
        have hp1 := hm1 (by omega)
        have hp2 := hm2 (by omega)
        simp only [k57_a, WK, vop, evAll, evOpt, evParts, vbuiltin, vun, vextract, Nat.reduceLT, Nat.reduceEqDiff, ↓reduceIte, reduceCtorEq, Nat.reduceAdd, Int.reduceLT, Int.reduceNeg, valloc_std, noSB, vhot, h47, h48, h49, hlt, hp1, hp2, Bool.false_eq_true, if_false, Option.isSome_none]
/-- The type that a text is. -/
def tyS (s : List UInt8) : Option Ty := tyOf 4 s
theorem type_does (s : List UInt8) (hl : s.length ≤ 4294967296) (σ : St) : Does Try.prog prims 39 [.str s] σ (.ret (.bool (tyS s).isSome)) σ := by
  apply k39_is.ret (by simp)
  simp only [k39_a, WK, vop, evAll, evOpt, evParts, vbuiltin, vun, vextract, Nat.reduceLT, Nat.reduceEqDiff, ↓reduceIte, reduceCtorEq, Nat.reduceAdd, Int.reduceLT, Int.reduceNeg, valloc_std, noSB, vhot, List.getD_cons_zero, List.getD_cons_succ]
  refine KD.ret (kind_does 3 (by omega) s σ hl) ?_
  simp only [k39_a, WK, vop, evAll, evOpt, evParts, vbuiltin, vun, vextract, Nat.reduceLT, Nat.reduceEqDiff, ↓reduceIte, reduceCtorEq, Nat.reduceAdd, Int.reduceLT, Int.reduceNeg, valloc_std, noSB, vhot]
  rfl
end Go.Proofs.Ytplhelapcpcncaa.Q

set_option linter.unusedVariables false
set_option linter.unusedSimpArgs false
namespace Go.Proofs.Ytplhelapcpcncaa.Q
open Go Go.RowKit Go.Proofs
def is1 (s : List UInt8) : Bool := decide (2 < s.length) && (decide (s[0]? = some 91) && decide (s.getLast? = some 93))
def isM (k : Nat) (m s : List UInt8) : Bool := decide (k < s.length) && (decide (s.take m.length = m) && decide (s.getLast? = some 125))
def innerS (s : List UInt8) : Option (List UInt8) := if is1 s then some (mid 1 s) else if isM 6 mI s then some (mid 5 s) else if isM 7 mT s then some (mid 6 s) else none
def depF : Nat → List UInt8 → Nat
  | 0, _ => 0
  | n + 1, s => if s = intB ∨ s = boolB ∨ s = textB then 1 else match innerS s with
    | none => 0
    | some t => if 200 < s.length then 0 else if depF n t = 0 then 0 else depF n t + 1
theorem wrap_len {s : List UInt8} (h : 0 < s.length) (hl : s.length ≤ 4294967296) : IntKind.i64.wrap ((s.length : Int) - 1) = ((s.length - 1 : Nat) : Int) := by rw [wrap_i64 (by omega) (by omega)]; omega
theorem mid_slice {s : List UInt8} {k : Nat} (h : k ≤ s.length - 1) : vslice Try.prog 9 (.str s) (some (.int .i64 (k : Int))) (some (.int .i64 ((s.length - 1 : Nat) : Int))) none = some (.str (mid k s)) := by
  rw [str_lohi h (by omega)]
  unfold mid
  rw [List.dropLast_eq_take]
end Go.Proofs.Ytplhelapcpcncaa.Q

set_option linter.unusedVariables false
set_option linter.unusedSimpArgs false
namespace Go.Proofs.Ytplhelapcpcncaa.Q
open Go Go.RowKit Go.Proofs
/-! ### The two ways to tell a type are one -/
theorem mid_wrap (p t : List UInt8) (x : UInt8) : mid p.length (p ++ t ++ [x]) = t := by
  unfold mid
  rw [dropLast_snoc, List.drop_left]
theorem tyS_iff {s : List UInt8} {T : Ty} : tyS s = some T ↔ s = tyB T ∧ tyD T ≤ 4 := tyOf_iff
/-! ### What a type is made of -/
def listS (s : List UInt8) : List UInt8 := match tyS s with
  | some (.list e) => tyB e
  | _ => []
def isListS (s : List UInt8) : Bool := match tyS s with
  | some (.list e) => true
  | _ => false
def keyS (s : List UInt8) : List UInt8 := match tyS s with
  | some (.mapI e) => intB
  | some (.mapT e) => textB
  | _ => []
def valS (s : List UInt8) : List UInt8 := match tyS s with
  | some (.mapI e) => tyB e
  | some (.mapT e) => tyB e
  | _ => []
def isMapS (s : List UInt8) : Bool := match tyS s with
  | some (.mapI e) => true
  | some (.mapT e) => true
  | _ => false
def tyK : Ty → Int
  | .int => 1 | .bool => 2 | .text => 3 | .list _ => 4 | .mapI _ => 5 | .mapT _ => 5
def kindS (s : List UInt8) : Int := match tyS s with
  | some T => tyK T
  | none => 0
theorem tyB_first (T : Ty) : ∃ c, (tyB T)[0]? = some c ∧ ((c = 91) ↔ ∃ e, T = .list e) ∧ ((c = 123) ↔ (∃ e, T = .mapI e) ∨ ∃ e, T = .mapT e) := by
  cases T with
  | int => exact ⟨_, rfl, by simp, by simp⟩
  | bool => exact ⟨_, rfl, by simp, by simp⟩
  | text => exact ⟨_, rfl, by simp, by simp⟩
  | list e => exact ⟨_, rfl, by simp, by simp⟩
  | mapI e => exact ⟨_, rfl, by simp, by simp⟩
  | mapT e => exact ⟨_, rfl, by simp, by simp⟩
theorem vlist_does (s : List UInt8) (hl : s.length ≤ 4294967296) (σ : St) : Does Try.prog prims 58 [.str s] σ (.ret (.tuple [.str (listS s), .bool (isListS s)])) σ := by
  apply k58_is.ret (by simp)
  unfold listS isListS
  simp only [k58_a, WK, vop, evAll, evOpt, evParts, vbuiltin, vun, vextract, Nat.reduceLT, Nat.reduceEqDiff, ↓reduceIte, reduceCtorEq, Nat.reduceAdd, Int.reduceLT, Int.reduceNeg, valloc_std, noSB, vhot, List.getD_cons_zero, List.getD_cons_succ, ofVal_str]
  refine KD.ret (type_does s hl σ) ?_
  cases h : tyS s with
  | none => simp only [k58_a, WK, vop, evAll, evOpt, evParts, vbuiltin, vun, vextract, Nat.reduceLT, Nat.reduceEqDiff, ↓reduceIte, reduceCtorEq, Nat.reduceAdd, Int.reduceLT, Int.reduceNeg, valloc_std, noSB, vhot, List.getD_cons_zero, List.getD_cons_succ, ofVal_str, Option.isSome_none]
  | some T =>
    obtain ⟨rfl, h4⟩ := tyS_iff.1 h
    obtain ⟨c, hc, h1, _⟩ := tyB_first T
    have i0 : vindex Try.prog 9 (.str (tyB T)) (.int .i64 0) = some (.int .u8 (c.toNat : Int)) := str_at (n := 0) hc
    have c91 : decide ((c.toNat : Int) = 91) = decide (c = 91) := u8_eq (d := 91)
    by_cases hcc : c = 91
    · obtain ⟨e, rfl⟩ := h1.1 hcc
      have b : decide ((c.toNat : Int) = 91) = true := by rw [c91]; exact decide_eq_true hcc
      have w1 := wrap_len (s := tyB (.list e)) (by have := tyB_len (.list e); omega) hl
      have ms : vslice Try.prog 9 (.str (tyB (.list e))) (some (.int .i64 1)) (some (.int .i64 (((tyB (.list e)).length - 1 : Nat) : Int))) none = some (.str (mid 1 (tyB (.list e)))) := mid_slice (k := 1) (by have := tyB_len (.list e); omega)
      have hm : mid 1 (tyB (.list e)) = tyB e := mid_wrap [91] (tyB e) 93
      simp only [k58_a, WK, vop, evAll, evOpt, evParts, vbuiltin, vun, vextract, Nat.reduceLT, Nat.reduceEqDiff, ↓reduceIte, reduceCtorEq, Nat.reduceAdd, Int.reduceLT, Int.reduceNeg, valloc_std, noSB, vhot, List.getD_cons_zero, List.getD_cons_succ, ofVal_str, Option.isSome_some, i0, b, w1, ms, hm, T9, vlen_str T9]
    · have b : decide ((c.toNat : Int) = 91) = false := by rw [c91]; exact decide_eq_false hcc
      have hT : ∀ e, T ≠ .list e := fun e he => hcc (h1.2 ⟨e, he⟩)
      cases T with
      | list e => exact absurd rfl (hT e)
      | _ => simp only [k58_a, WK, vop, evAll, evOpt, evParts, vbuiltin, vun, vextract, Nat.reduceLT, Nat.reduceEqDiff, ↓reduceIte, reduceCtorEq, Nat.reduceAdd, Int.reduceLT, Int.reduceNeg, valloc_std, noSB, vhot, List.getD_cons_zero, List.getD_cons_succ, ofVal_str, Option.isSome_some, i0, b]
/-! ### strings.Cut at a colon -/
theorem indexByte_int (l : List UInt8) : Lib.indexByte ([105, 110, 116, 58] ++ l) 58 = 3 := by
  simp [Lib.indexByte]
theorem indexByte_text (l : List UInt8) : Lib.indexByte ([116, 101, 120, 116, 58] ++ l) 58 = 4 := by
  simp [Lib.indexByte]
theorem index_does (a : List UInt8) (n : Nat) (hn : Lib.indexByte a 58 = (n : Int)) (hl : 2 ≤ a.length) (σ : St) : Does Try.prog prims 81 [.str a, .str [58]] σ (.ret (.int .i64 (n : Int))) σ := by
  apply k81_is.ret (by simp)
  have i0 : vindex Try.prog 9 (.str [58]) (.int .i64 0) = some (.int .u8 58) := str_at (n := 0) (c := 58) rfl
  have l1 : vlen Try.prog 9 (.str [58]) = some (.int .i64 1) := vlen_str T9
  have hne : decide (([58] : List UInt8) = a) = false := by
    apply decide_eq_false
    rintro rfl
    simp at hl
  simp only [k81_a, WK, vop, evAll, evOpt, evParts, vbuiltin, vun, vextract, Nat.reduceLT, Nat.reduceEqDiff, ↓reduceIte, reduceCtorEq, Nat.reduceAdd, Int.reduceLT, Int.reduceNeg, valloc_std, noSB, vhot, List.getD_cons_zero, List.getD_cons_succ, ofVal_str, l1, T9, strBin, hne, i0, show decide ((1 : Int) = 0) = false from rfl, show decide ((1 : Int) = 1) = true from rfl]
  refine KD.ret (Does_indexByte a 58 σ) ?_
  have : Lib.indexByte a (58 : Int).toNat.toUInt8 = (n : Int) := hn
  simp only [k81_a, WK, vop, evAll, evOpt, evParts, vbuiltin, vun, vextract, Nat.reduceLT, Nat.reduceEqDiff, ↓reduceIte, reduceCtorEq, Nat.reduceAdd, Int.reduceLT, Int.reduceNeg, valloc_std, noSB, vhot, this]
theorem cut0_does (a : List UInt8) (n : Nat) (hn : Lib.indexByte a 58 = (n : Int)) (hl : 2 ≤ a.length) (h2 : n + 1 ≤ a.length) (hb : a.length ≤ 4294967296) (σ : St) : Does Try.prog prims 77 [.str a, .str [58]] σ (.ret (.tuple [.str (a.take n), .str (a.drop (n + 1)), .bool true])) σ := by
  apply k77_is.ret (by simp)
  simp only [k77_a, WK, vop, evAll, evOpt, evParts, vbuiltin, vun, vextract, Nat.reduceLT, Nat.reduceEqDiff, ↓reduceIte, reduceCtorEq, Nat.reduceAdd, Int.reduceLT, Int.reduceNeg, valloc_std, noSB, vhot, List.getD_cons_zero, List.getD_cons_succ, ofVal_str]
  refine KD.ret (index_does a n hn hl σ) ?_
  have l1 : vlen Try.prog 9 (.str [58]) = some (.int .i64 1) := vlen_str T9
  have hge : (0 : Int) ≤ (n : Int) := by omega
  have w1 : IntKind.i64.wrap ((n : Int) + 1) = ((n + 1 : Nat) : Int) := by rw [wrap_i64 (by omega) (by omega)]; omega
  have s1 : vslice Try.prog 9 (.str a) none (some (.int .i64 (n : Int))) none = some (.str (a.take n)) := str_hi (by omega)
  have s2 : vslice Try.prog 9 (.str a) (some (.int .i64 ((n + 1 : Nat) : Int))) none none = some (.str (a.drop (n + 1))) := str_lo (by omega)
  simp only [k77_a, WK, vop, evAll, evOpt, evParts, vbuiltin, vun, vextract, Nat.reduceLT, Nat.reduceEqDiff, ↓reduceIte, reduceCtorEq, Nat.reduceAdd, Int.reduceLT, Int.reduceNeg, valloc_std, noSB, vhot, List.getD_cons_zero, List.getD_cons_succ, ofVal_str, hge, l1, T9, w1, s1, s2]
theorem strcut_does (a : List UInt8) (n : Nat) (hn : Lib.indexByte a 58 = (n : Int)) (hl : 2 ≤ a.length) (h2 : n + 1 ≤ a.length) (hb : a.length ≤ 4294967296) (σ : St) : Does Try.prog prims 71 [.str a, .str [58]] σ (.ret (.tuple [.str (a.take n), .str (a.drop (n + 1)), .bool true])) σ := by
  apply k71_is.ret (by simp)
  simp only [k71_a, WK, vop, evAll, evOpt, evParts, vbuiltin, vun, vextract, Nat.reduceLT, Nat.reduceEqDiff, ↓reduceIte, reduceCtorEq, Nat.reduceAdd, Int.reduceLT, Int.reduceNeg, valloc_std, noSB, vhot, List.getD_cons_zero, List.getD_cons_succ, ofVal_str]
  refine KD.ret (cut0_does a n hn hl h2 hb σ) ?_
  simp only [k71_a, WK, vop, evAll, evOpt, evParts, vbuiltin, vun, vextract, Nat.reduceLT, Nat.reduceEqDiff, ↓reduceIte, reduceCtorEq, Nat.reduceAdd, Int.reduceLT, Int.reduceNeg, valloc_std, noSB, vhot, List.getD_cons_zero, List.getD_cons_succ]
theorem vmap_does (s : List UInt8) (hl : s.length ≤ 4294967296) (σ : St) : Does Try.prog prims 61 [.str s] σ (.ret (.tuple [.str (keyS s), .str (valS s), .bool (isMapS s)])) σ := by
  apply k61_is.ret (by simp)
  unfold keyS valS isMapS
  simp only [k61_a, WK, vop, evAll, evOpt, evParts, vbuiltin, vun, vextract, Nat.reduceLT, Nat.reduceEqDiff, ↓reduceIte, reduceCtorEq, Nat.reduceAdd, Int.reduceLT, Int.reduceNeg, valloc_std, noSB, vhot, List.getD_cons_zero, List.getD_cons_succ, ofVal_str]
  refine KD.ret (type_does s hl σ) ?_
  cases h : tyS s with
  | none => simp only [k61_a, WK, vop, evAll, evOpt, evParts, vbuiltin, vun, vextract, Nat.reduceLT, Nat.reduceEqDiff, ↓reduceIte, reduceCtorEq, Nat.reduceAdd, Int.reduceLT, Int.reduceNeg, valloc_std, noSB, vhot, List.getD_cons_zero, List.getD_cons_succ, ofVal_str, Option.isSome_none]
  | some T =>
    obtain ⟨rfl, h4⟩ := tyS_iff.1 h
    obtain ⟨c, hc, _, h1⟩ := tyB_first T
    have i0 : vindex Try.prog 9 (.str (tyB T)) (.int .i64 0) = some (.int .u8 (c.toNat : Int)) := str_at (n := 0) hc
    have c91 : decide ((c.toNat : Int) = 123) = decide (c = 123) := u8_eq (d := 123)
    by_cases hcc : c = 123
    · have b : decide ((c.toNat : Int) = 123) = true := by rw [c91]; exact decide_eq_true hcc
      rcases h1.1 hcc with ⟨e, rfl⟩ | ⟨e, rfl⟩
      · have w1 := wrap_len (s := tyB (.mapI e)) (by have := tyB_len (.mapI e); omega) hl
        have hlen : (tyB (.mapI e)).length = (tyB e).length + 6 := by simp [tyB, mI]
        have ms : vslice Try.prog 9 (.str (tyB (.mapI e))) (some (.int .i64 1)) (some (.int .i64 (((tyB (.mapI e)).length - 1 : Nat) : Int))) none = some (.str (mid 1 (tyB (.mapI e)))) := mid_slice (k := 1) (by omega)
        have hm : mid 1 (tyB (.mapI e)) = [105, 110, 116, 58] ++ tyB e := mid_wrap [123] ([105, 110, 116, 58] ++ tyB e) 125
        have hcut := strcut_does ([105, 110, 116, 58] ++ tyB e) 3 (indexByte_int _) (by simp) (by simp) (by simp; omega) σ
        simp only [k61_a, WK, vop, evAll, evOpt, evParts, vbuiltin, vun, vextract, Nat.reduceLT, Nat.reduceEqDiff, ↓reduceIte, reduceCtorEq, Nat.reduceAdd, Int.reduceLT, Int.reduceNeg, valloc_std, noSB, vhot, List.getD_cons_zero, List.getD_cons_succ, ofVal_str, Option.isSome_some, i0, b, w1, ms, hm, T9, vlen_str T9]
        refine KD.ret hcut ?_
        simp only [k61_a, WK, vop, evAll, evOpt, evParts, vbuiltin, vun, vextract, Nat.reduceLT, Nat.reduceEqDiff, ↓reduceIte, reduceCtorEq, Nat.reduceAdd, Int.reduceLT, Int.reduceNeg, valloc_std, noSB, vhot, List.getD_cons_zero, List.getD_cons_succ]
        rfl
      · have w1 := wrap_len (s := tyB (.mapT e)) (by have := tyB_len (.mapT e); omega) hl
        have hlen : (tyB (.mapT e)).length = (tyB e).length + 7 := by simp [tyB, mT]
        have ms : vslice Try.prog 9 (.str (tyB (.mapT e))) (some (.int .i64 1)) (some (.int .i64 (((tyB (.mapT e)).length - 1 : Nat) : Int))) none = some (.str (mid 1 (tyB (.mapT e)))) := mid_slice (k := 1) (by omega)
        have hm : mid 1 (tyB (.mapT e)) = [116, 101, 120, 116, 58] ++ tyB e := mid_wrap [123] ([116, 101, 120, 116, 58] ++ tyB e) 125
        have hcut := strcut_does ([116, 101, 120, 116, 58] ++ tyB e) 4 (indexByte_text _) (by simp) (by simp) (by simp; omega) σ
        simp only [k61_a, WK, vop, evAll, evOpt, evParts, vbuiltin, vun, vextract, Nat.reduceLT, Nat.reduceEqDiff, ↓reduceIte, reduceCtorEq, Nat.reduceAdd, Int.reduceLT, Int.reduceNeg, valloc_std, noSB, vhot, List.getD_cons_zero, List.getD_cons_succ, ofVal_str, Option.isSome_some, i0, b, w1, ms, hm, T9, vlen_str T9]
        refine KD.ret hcut ?_
        simp only [k61_a, WK, vop, evAll, evOpt, evParts, vbuiltin, vun, vextract, Nat.reduceLT, Nat.reduceEqDiff, ↓reduceIte, reduceCtorEq, Nat.reduceAdd, Int.reduceLT, Int.reduceNeg, valloc_std, noSB, vhot, List.getD_cons_zero, List.getD_cons_succ]
        rfl
    · have b : decide ((c.toNat : Int) = 123) = false := by rw [c91]; exact decide_eq_false hcc
      have hT : ∀ e, T ≠ .mapI e := fun e he => hcc (h1.2 (.inl ⟨e, he⟩))
      have hT' : ∀ e, T ≠ .mapT e := fun e he => hcc (h1.2 (.inr ⟨e, he⟩))
      cases T with
      | mapI e => exact absurd rfl (hT e)
      | mapT e => exact absurd rfl (hT' e)
      | _ => simp only [k61_a, WK, vop, evAll, evOpt, evParts, vbuiltin, vun, vextract, Nat.reduceLT, Nat.reduceEqDiff, ↓reduceIte, reduceCtorEq, Nat.reduceAdd, Int.reduceLT, Int.reduceNeg, valloc_std, noSB, vhot, List.getD_cons_zero, List.getD_cons_succ, ofVal_str, Option.isSome_some, i0, b]
end Go.Proofs.Ytplhelapcpcncaa.Q

set_option linter.unusedVariables false
set_option linter.unusedSimpArgs false
namespace Go.Proofs.Ytplhelapcpcncaa.Q
open Go Go.RowKit Go.Proofs
theorem sgn_refl (a : Int) : sgn a a = 0 := sgn_eq rfl
theorem cb_refl (a : List UInt8) : Lib.compareBytes a a = 0 := by rw [compareBytes_eq, if_pos rfl]
/-- One ahead of the rest. -/
def lex (x r : Int) : Int := if x = 0 then r else x
theorem cmp_refl : ∀ (n : Nat) (a : Val), weight a ≤ n → cmpV a a = 0
  | 0, a, h => by have := weight_pos a; omega
  | n + 1, .mk k m t l, h => by
    rw [weight] at h
    have rows : ∀ (l : List Val), weights l ≤ n → cmpL l l = 0 := by
      intro l
      induction l with
      | nil => intro _; simp [cmpL]
      | cons a l ih =>
        intro hl
        rw [weights] at hl
        rw [cmpL, if_pos (cmp_refl n a (by omega))]
        exact ih (by omega)
    rw [cmpV, sgn_refl, sgn_refl, cb_refl, rows l (by omega)]
    rfl
theorem cmpV_refl (a : Val) : cmpV a a = 0 := cmp_refl _ a (Nat.le_refl _)
end Go.Proofs.Ytplhelapcpcncaa.Q

set_option linter.unusedVariables false
set_option linter.unusedSimpArgs false
namespace Go.Proofs.Ytplhelapcpcncaa.Q
open Go Go.RowKit Go.Proofs
/-! ### Values without parts -/
def flatV (k n : Int) (t : List UInt8) : Val := .mk k n t []
def flatC (k n : Int) (t : List UInt8) : List V := [.int .i64 k, .int .i64 n, .str t, .nils]
section
variable (σ : St)
/-! ### First values -/
def zeroS (s : List UInt8) : List V := flatC (kindS s) 0 []
theorem same_does {a b : Val} {c1 c2 : List V} (hw : weight a ≤ 4294967296) (ha : ValC a c1) (hb : ValC b c2) : ∃ σ', Does Try.prog prims 56 [.agg c1, .agg c2] σ (.ret (.bool (decide (cmpV a b = 0)))) σ' ∧ Keep σ σ' := by
  obtain ⟨s1, hs1⟩ : ∃ s1 : St, s1 = ⟨(σ.objs ++ [Ob.cells c1]) ++ [Ob.cells c2], σ.toks⟩ := ⟨_, rfl⟩
  have k1 : Keep σ s1 := by rw [hs1]; exact ((Keep.refl σ).push _).push _
  have p1 : IsV s1 σ.objs.length c1 := by rw [hs1]; show ((σ.objs ++ [_]) ++ [_])[_]? = _; rw [List.getElem?_append_left (by simp)]; exact push_new _ _
  have p2 : IsV s1 (σ.objs.length + 1) c2 := by
    rw [hs1]
    have : (σ.objs.length + 1) = (σ.objs ++ [Ob.cells c1]).length := by simp
    unfold IsV
    rw [this]
    exact push_new _ _
  obtain ⟨s2, d2, k2⟩ := refcompare_does s1 hw ha hb
  refine ⟨s2, ?_, k1.trans k2⟩
  apply k56_is.ret (by simp)
  simp only [k56_a, WK, vop, evAll, evOpt, evParts, vbuiltin, vun, vextract, Nat.reduceLT, Nat.reduceEqDiff, ↓reduceIte, reduceCtorEq, Nat.reduceAdd, Int.reduceLT, Int.reduceNeg, valloc_std, noSB, vhot, List.getD_cons_zero, List.getD_cons_succ, vbox, vcells, List.length_append, List.length_cons, List.length_nil, ← hs1, p1.load ha.len, p2.load hb.len]
  refine KD.ret d2 ?_
  simp only [k56_a, WK, vop, evAll, evOpt, evParts, vbuiltin, vun, vextract, Nat.reduceLT, Nat.reduceEqDiff, ↓reduceIte, reduceCtorEq, Nat.reduceAdd, Int.reduceLT, Int.reduceNeg, valloc_std, noSB, vhot]
end
end Go.Proofs.Ytplhelapcpcncaa.Q

set_option linter.unusedVariables false
set_option linter.unusedSimpArgs false
namespace Go.Proofs.Ytplhelapcpcncaa.Q
open Go Go.RowKit Go.Proofs
/-! ### Whether a value is one of a type -/
def fitInt : Val → Bool
  | .mk k n t l => decide (k = 1) && (decide (t = []) && decide ((l.length : Int) = 0))
def fitBool : Val → Bool
  | .mk k n t l => decide (k = 2) && ((decide (n = 0) || decide (n = 1)) && (decide (t = []) && decide ((l.length : Int) = 0)))
def fitText : Val → Bool
  | .mk k n t l => decide (n = 0) && (decide (k = 3) && (decide ((t.length : Int) ≤ 256) && decide ((l.length : Int) = 0)))
def fitList (f : Val → Bool) : Val → Bool
  | .mk k n t l => decide (n = 0) && (decide (t = []) && (decide (k = 4) && (decide ((l.length : Int) ≤ 64) && l.all f)))
def okAt (fk fv : Val → Bool) (l : List Val) (j : Nat) : Bool := match l[j]? with
  | none => true
  | some y => if j % 2 = 0 then fk y && (decide (j = 0) || match l[j - 2]? with
      | some x => decide (cmpV x y < 0)
      | none => true) else fv y
def okAll (fk fv : Val → Bool) (l : List Val) : Bool := (List.range l.length).all (okAt fk fv l)
def fitMap (fk fv : Val → Bool) : Val → Bool
  | .mk k n t l => decide (n = 0) && (decide (t = []) && (decide (k = 5) && (decide ((l.length : Int) % 2 = 0) && (decide ((l.length : Int) ≤ 128) && okAll fk fv l))))
def fitsT : Ty → Val → Bool
  | .int => fitInt
  | .bool => fitBool
  | .text => fitText
  | .list e => fitList (fitsT e)
  | .mapI e => fitMap fitInt (fitsT e)
  | .mapT e => fitMap fitText (fitsT e)
theorem okAll_true {fk fv : Val → Bool} {l : List Val} (h : ∀ j, j < l.length → okAt fk fv l j = true) : okAll fk fv l = true := by
  rw [okAll, List.all_eq_true]
  intro j hj
  exact h j (List.mem_range.1 hj)
theorem okAll_false {fk fv : Val → Bool} {l : List Val} {j : Nat} (hj : j < l.length) (h : okAt fk fv l j = false) : okAll fk fv l = false := by
  rw [← Bool.not_eq_true, okAll, List.all_eq_true]
  intro h2
  have := h2 j (List.mem_range.2 hj)
  rw [h] at this
  cases this
theorem okAt_even0 {fk fv : Val → Bool} {l : List Val} (h : 0 < l.length) : okAt fk fv l 0 = fk l[0] := by
  rw [okAt, List.getElem?_eq_getElem h]; simp
theorem okAt_even {fk fv : Val → Bool} {l : List Val} {j : Nat} (h : j < l.length) (he : j % 2 = 0) (h0 : 2 ≤ j) : okAt fk fv l j = (fk l[j] && decide (cmpV l[j - 2] l[j] < 0)) := by
  have : ¬ j = 0 := by omega
  rw [okAt, List.getElem?_eq_getElem h]
  simp only [he, if_true]
  rw [List.getElem?_eq_getElem (show j - 2 < l.length by omega)]
  simp [this]
theorem okAt_odd {fk fv : Val → Bool} {l : List Val} {j : Nat} (h : j < l.length) (he : j % 2 = 1) : okAt fk fv l j = fv l[j] := by
  rw [okAt, List.getElem?_eq_getElem h]
  simp only [he]
  rfl
/-- The function tells it of a type. -/
def FitOk (F : FuncId) (s : List UInt8) (f : Val → Bool) : Prop := ∀ (v : Val) (c : List V) (σ : St), weight v ≤ 4294967296 → ValC v c → ∃ σ', Does Try.prog prims F [.agg c, .str s] σ (.ret (.bool (f v))) σ' ∧ Keep σ σ'
section
variable {k n : Int} {t : List UInt8} {l : List Val} {w : V}
set_option maxRecDepth 100000
theorem fits_int : FitOk 41 intB fitInt := by
  intro v c σ hwt ha
  have key : ∃ q σ', Does Try.prog prims 41 [.agg c, .str intB] σ q σ' ∧ q = .ret (.bool (fitInt v)) ∧ Keep σ σ' := by
    obtain ⟨k, n, t, l, w, rfl, rfl, hw, ik, im⟩ := ha.inv
    apply k41_is.does (by simp)
    obtain ⟨σ2, hσ2⟩ : ∃ σ2 : St, σ2 = ⟨σ.objs ++ [Ob.cells [.int .i64 k, .int .i64 n, .str t, w]], σ.toks⟩ := ⟨_, rfl⟩
    have hk2 : Keep σ σ2 := by rw [hσ2]; exact (Keep.refl σ).push _
    have q2 : IsV σ2 σ.objs.length [.int .i64 k, .int .i64 n, .str t, w] := by rw [hσ2]; exact push_new _ _
    have b1 : decide (intB = [105, 110, 116]) = true := rfl
    unfold fitInt
    simp only [k41_a, WK, vop, evAll, evOpt, evParts, vbuiltin, vun, vextract, Nat.reduceLT, Nat.reduceEqDiff, ↓reduceIte, reduceCtorEq, Nat.reduceAdd, Int.reduceLT, Int.reduceNeg, valloc_std, noSB, vhot, List.getD_cons_zero, List.getD_cons_succ, vbox, vcells, ← hσ2, ofVal_str, strBin, b1, FV0, FV1, FV2, FV3, q2.kind, q2.num, q2.text, q2.list, hw.len]
    rcases (((Classical.em (k = 1)).elim (fun h0 => Or.inr ((Classical.em (t = [])).elim (fun h1 => Or.inr ((Classical.em ((l.length : Int) = 0)).elim (fun h2 => Or.inr (⟨h0, h1, h2⟩)) (fun h2 => Or.inl ⟨h0, h1, h2⟩))) (fun h1 => Or.inl ⟨h0, h1⟩))) (fun h0 => Or.inl h0)) : (¬ (k = 1) ∨ (k = 1) ∧ ¬ (t = []) ∨ (k = 1) ∧ (t = []) ∧ ¬ ((l.length : Int) = 0) ∨ (k = 1) ∧ (t = []) ∧ ((l.length : Int) = 0))) with h | h | h | h <;>
    · simp only [k41_a, WK, vop, evAll, evOpt, evParts, vbuiltin, vun, vextract, Nat.reduceLT, Nat.reduceEqDiff, ↓reduceIte, reduceCtorEq, Nat.reduceAdd, Int.reduceLT, Int.reduceNeg, valloc_std, noSB, vhot, List.getD_cons_zero, List.getD_cons_succ, ofVal_str, strBin, FV0, FV1, FV2, FV3, q2.kind, q2.num, q2.text, q2.list, hw.len, h, eq_self, Bool.true_and, Bool.false_and, Bool.and_true]
      exact hk2
  obtain ⟨q, σ', h1, rfl, h3⟩ := key
  exact ⟨σ', h1, h3⟩
theorem fits_bool : FitOk 41 boolB fitBool := by
  intro v c σ hwt ha
  have key : ∃ q σ', Does Try.prog prims 41 [.agg c, .str boolB] σ q σ' ∧ q = .ret (.bool (fitBool v)) ∧ Keep σ σ' := by
    obtain ⟨k, n, t, l, w, rfl, rfl, hw, ik, im⟩ := ha.inv
    apply k41_is.does (by simp)
    obtain ⟨σ2, hσ2⟩ : ∃ σ2 : St, σ2 = ⟨σ.objs ++ [Ob.cells [.int .i64 k, .int .i64 n, .str t, w]], σ.toks⟩ := ⟨_, rfl⟩
    have hk2 : Keep σ σ2 := by rw [hσ2]; exact (Keep.refl σ).push _
    have q2 : IsV σ2 σ.objs.length [.int .i64 k, .int .i64 n, .str t, w] := by rw [hσ2]; exact push_new _ _
    have b1 : decide (boolB = [105, 110, 116]) = false := rfl
    have b2 : decide (boolB = [98, 111, 111, 108]) = true := rfl
    have e10 : ((1 : Int) = 0) = False := eq_false (by decide)
    unfold fitBool
    simp only [k41_a, WK, vop, evAll, evOpt, evParts, vbuiltin, vun, vextract, Nat.reduceLT, Nat.reduceEqDiff, ↓reduceIte, reduceCtorEq, Nat.reduceAdd, Int.reduceLT, Int.reduceNeg, valloc_std, noSB, vhot, List.getD_cons_zero, List.getD_cons_succ, ofVal_str, strBin, FV0, FV1, FV2, FV3, q2.kind, q2.num, q2.text, q2.list, hw.len, vbox, vcells, ← hσ2, b1, b2]
    have hn : n = 0 ∨ (¬ n = 0 ∧ n = 1) ∨ (¬ n = 0 ∧ ¬ n = 1) := by omega
    rcases hn with hn | hn | hn <;>
    · rcases (((Classical.em (k = 2)).elim (fun h0 => Or.inr ((Classical.em (t = [])).elim (fun h1 => Or.inr ((Classical.em ((l.length : Int) = 0)).elim (fun h2 => Or.inr (⟨h0, h1, h2⟩)) (fun h2 => Or.inl ⟨h0, h1, h2⟩))) (fun h1 => Or.inl ⟨h0, h1⟩))) (fun h0 => Or.inl h0)) : (¬ (k = 2) ∨ (k = 2) ∧ ¬ (t = []) ∨ (k = 2) ∧ (t = []) ∧ ¬ ((l.length : Int) = 0) ∨ (k = 2) ∧ (t = []) ∧ ((l.length : Int) = 0))) with h | h | h | h <;>
      · simp only [k41_a, WK, vop, evAll, evOpt, evParts, vbuiltin, vun, vextract, Nat.reduceLT, Nat.reduceEqDiff, ↓reduceIte, reduceCtorEq, Nat.reduceAdd, Int.reduceLT, Int.reduceNeg, valloc_std, noSB, vhot, List.getD_cons_zero, List.getD_cons_succ, ofVal_str, strBin, FV0, FV1, FV2, FV3, q2.kind, q2.num, q2.text, q2.list, hw.len, h, hn, e10, eq_self, Bool.true_and, Bool.false_and, Bool.and_true, Bool.or_true, Bool.or_false, Bool.true_or, Bool.false_or]
        exact hk2
  obtain ⟨q, σ', h1, rfl, h3⟩ := key
  exact ⟨σ', h1, h3⟩
theorem fits_text : FitOk 41 textB fitText := by
  intro v c σ hwt ha
  have key : ∃ q σ', Does Try.prog prims 41 [.agg c, .str textB] σ q σ' ∧ q = .ret (.bool (fitText v)) ∧ Keep σ σ' := by
    obtain ⟨k, n, t, l, w, rfl, rfl, hw, ik, im⟩ := ha.inv
    apply k41_is.does (by simp)
    obtain ⟨σ2, hσ2⟩ : ∃ σ2 : St, σ2 = ⟨σ.objs ++ [Ob.cells [.int .i64 k, .int .i64 n, .str t, w]], σ.toks⟩ := ⟨_, rfl⟩
    have hk2 : Keep σ σ2 := by rw [hσ2]; exact (Keep.refl σ).push _
    have q2 : IsV σ2 σ.objs.length [.int .i64 k, .int .i64 n, .str t, w] := by rw [hσ2]; exact push_new _ _
    have b1 : decide (textB = [105, 110, 116]) = false := rfl
    have b2 : decide (textB = [98, 111, 111, 108]) = false := rfl
    have b3 : decide (textB = [116, 101, 120, 116]) = true := rfl
    unfold fitText
    simp only [k41_a, WK, vop, evAll, evOpt, evParts, vbuiltin, vun, vextract, Nat.reduceLT, Nat.reduceEqDiff, ↓reduceIte, reduceCtorEq, Nat.reduceAdd, Int.reduceLT, Int.reduceNeg, valloc_std, noSB, vhot, List.getD_cons_zero, List.getD_cons_succ, ofVal_str, strBin, FV0, FV1, FV2, FV3, q2.kind, q2.num, q2.text, q2.list, hw.len, vbox, vcells, ← hσ2, b1, b2, b3]
    rcases (((Classical.em (n = 0)).elim (fun h0 => Or.inr ((Classical.em (k = 3)).elim (fun h1 => Or.inr ((Classical.em ((t.length : Int) ≤ 256)).elim (fun h2 => Or.inr ((Classical.em ((l.length : Int) = 0)).elim (fun h3 => Or.inr (⟨h0, h1, h2, h3⟩)) (fun h3 => Or.inl ⟨h0, h1, h2, h3⟩))) (fun h2 => Or.inl ⟨h0, h1, h2⟩))) (fun h1 => Or.inl ⟨h0, h1⟩))) (fun h0 => Or.inl h0)) : (¬ (n = 0) ∨ (n = 0) ∧ ¬ (k = 3) ∨ (n = 0) ∧ (k = 3) ∧ ¬ ((t.length : Int) ≤ 256) ∨ (n = 0) ∧ (k = 3) ∧ ((t.length : Int) ≤ 256) ∧ ¬ ((l.length : Int) = 0) ∨ (n = 0) ∧ (k = 3) ∧ ((t.length : Int) ≤ 256) ∧ ((l.length : Int) = 0))) with h | h | h | h | h <;>
    · simp only [k41_a, WK, vop, evAll, evOpt, evParts, vbuiltin, vun, vextract, Nat.reduceLT, Nat.reduceEqDiff, ↓reduceIte, reduceCtorEq, Nat.reduceAdd, Int.reduceLT, Int.reduceNeg, valloc_std, noSB, vhot, List.getD_cons_zero, List.getD_cons_succ, ofVal_str, strBin, FV0, FV1, FV2, FV3, q2.kind, q2.num, q2.text, q2.list, hw.len, vlen_str T9, h, b1, b2, b3, eq_self, Bool.true_and, Bool.false_and, Bool.and_true]
      exact hk2
  obtain ⟨q, σ', h1, rfl, h3⟩ := key
  exact ⟨σ', h1, h3⟩
/-! ### All parts of a list -/
def IsS (σ : St) (p : Nat) (s : List UInt8) : Prop := σ.objs[p]? = some (.cells [.str s])
theorem IsS.load {σ : St} {p : Nat} {s : List UInt8} (h : IsS σ p s) : vload Try.prog σ.objs 9 (.optr p 0) = some (.str s) := by rw [vload_obj h G9]; rfl
theorem clos_does {s : List UInt8} {f : Val → Bool} (H : FitOk 41 s f) {v : Val} {c : List V} {σ : St} {p : Nat} (hp : IsS σ p s) (hwt : weight v ≤ 4294967296) (ha : ValC v c) : ∃ σ', Does Try.prog prims 60 [.agg c, .optr p 0] σ (.ret (.bool (!f v))) σ' ∧ Keep σ σ' := by
  obtain ⟨s1, hs1⟩ : ∃ s1 : St, s1 = ⟨σ.objs ++ [Ob.cells c], σ.toks⟩ := ⟨_, rfl⟩
  have k1 : Keep σ s1 := by rw [hs1]; exact (Keep.refl σ).push _
  have q1 : IsV s1 σ.objs.length c := by rw [hs1]; exact push_new _ _
  have p1 : IsS s1 p s := k1.1 _ _ hp
  obtain ⟨s2, d2, k2⟩ := H v c s1 hwt ha
  refine ⟨s2, ?_, k1.trans k2⟩
  apply k60_is.ret (by simp)
  simp only [k60_a, WK, vop, evAll, evOpt, evParts, vbuiltin, vun, vextract, Nat.reduceLT, Nat.reduceEqDiff, ↓reduceIte, reduceCtorEq, Nat.reduceAdd, Int.reduceLT, Int.reduceNeg, valloc_std, noSB, vhot, List.getD_cons_zero, List.getD_cons_succ, vbox, vcells, ← hs1, q1.load ha.len, p1.load]
  refine KD.ret d2 ?_
  simp only [k60_a, WK, vop, evAll, evOpt, evParts, vbuiltin, vun, vextract, Nat.reduceLT, Nat.reduceEqDiff, ↓reduceIte, reduceCtorEq, Nat.reduceAdd, Int.reduceLT, Int.reduceNeg, valloc_std, noSB, vhot]
def I92 (σ0 : St) (f : Val → Bool) (l : List Val) : Nat → (Nat → V) → St → Prop := fun i e σ => e 8 = .int .i64 i ∧ i ≤ l.length ∧ (l.take i).all f = true ∧ Keep σ0 σ
theorem all_take_succ {f : Val → Bool} {l : List Val} {i : Nat} (h : i < l.length) : (l.take (i + 1)).all f = ((l.take i).all f && f l[i]) := by
  rw [List.take_succ_eq_append_getElem h, List.all_append]
  simp
theorem all_false {f : Val → Bool} {l : List Val} {i : Nat} (h : i < l.length) (hf : f l[i] = false) : l.all f = false := by
  rw [← Bool.not_eq_true, List.all_eq_true]
  intro h2
  have := h2 _ (List.getElem_mem h)
  rw [hf] at this
  cases this
theorem indexfunc_does {s : List UInt8} {f : Val → Bool} (H : FitOk 41 s f) {σ : St} {p : Nat} (hp : IsS σ p s) (hwt : weights l ≤ 4294967296) (hw : ValsW l w) : ∃ (i : Int) (σ' : St), Does Try.prog prims 70 [w, .func 60 [.optr p 0]] σ (.ret (.int .i64 i)) σ' ∧ Keep σ σ' ∧ decide (0 ≤ i) = !(l.all f) := by
  have key : ∃ q σ', Does Try.prog prims 70 [w, .func 60 [.optr p 0]] σ q σ' ∧ ∃ i : Int, q = .ret (.int .i64 i) ∧ Keep σ σ' ∧ decide (0 ≤ i) = !(l.all f) := by
    apply k70_is.does (by simp)
    simp only [k70_a, WK, vop, evAll, evOpt, evParts, vbuiltin, vun, vextract, Nat.reduceLT, Nat.reduceEqDiff, ↓reduceIte, reduceCtorEq, Nat.reduceAdd, Int.reduceLT, Int.reduceNeg, valloc_std, noSB, vhot, List.getD_cons_zero, List.getD_cons_succ, hw.len]
    have hll := weights_len l
    refine Ev.loopF (I92 σ f l) (fun i => l.length - i) 0 ⟨by simp [upd_some], by simp, by simp, Keep.refl σ⟩ ?_
    rintro i e σ1 ⟨h8, hi, hall, hk⟩ hf
    have h7 : e 7 = .int .i64 l.length := (hf 7 (by decide)).trans (by simp [upd_some])
    have h0 : e 0 = w := (hf 0 (by decide)).trans (by simp [upd_some])
    have h1 : e 1 = .func 60 [.optr p 0] := (hf 1 (by decide)).trans (by simp [upd_some])
    clear hf
    by_cases hlt : i < l.length
    · have hlt' : (i : Int) < l.length := by omega
      have hwi : IntKind.i64.wrap ((i : Int) + 1) = ((i + 1 : Nat) : Int) := by rw [show ((i : Int) + 1) = ((i + 1 : Nat) : Int) from by omega]; exact wrap_nat (by omega)
      obtain ⟨cs, c, ha0, hld, hc⟩ := hw.get hlt
      have hmem := weights_mem (List.getElem_mem hlt)
      obtain ⟨s3, d3, k3⟩ := clos_does H (v := l[i]) (hk.1 _ _ hp) (by omega) hc
      simp only [k70_a, WK, vop, evAll, evOpt, evParts, vbuiltin, vun, vextract, Nat.reduceLT, Nat.reduceEqDiff, ↓reduceIte, reduceCtorEq, Nat.reduceAdd, Int.reduceLT, Int.reduceNeg, valloc_std, noSB, vhot, h0, h1, h7, h8, hlt', ha0, hld]
      refine KD.ret d3 ?_
      cases hfl : f l[i] with
      | true =>
        simp only [k70_a, WK, vop, evAll, evOpt, evParts, vbuiltin, vun, vextract, Nat.reduceLT, Nat.reduceEqDiff, ↓reduceIte, reduceCtorEq, Nat.reduceAdd, Int.reduceLT, Int.reduceNeg, valloc_std, noSB, vhot, h8, hwi]
        exact ⟨i + 1, ⟨by simp [upd_some], hlt, by rw [all_take_succ hlt, hall, hfl]; rfl, hk.trans k3⟩, by omega⟩
      | false =>
        simp only [k70_a, WK, vop, evAll, evOpt, evParts, vbuiltin, vun, vextract, Nat.reduceLT, Nat.reduceEqDiff, ↓reduceIte, reduceCtorEq, Nat.reduceAdd, Int.reduceLT, Int.reduceNeg, valloc_std, noSB, vhot, h8]
        exact ⟨_, rfl, hk.trans k3, by rw [all_false hlt hfl]; simp⟩
    · have hlt' : ¬ (i : Int) < l.length := by omega
      simp only [k70_a, WK, vop, evAll, evOpt, evParts, vbuiltin, vun, vextract, Nat.reduceLT, Nat.reduceEqDiff, ↓reduceIte, reduceCtorEq, Nat.reduceAdd, Int.reduceLT, Int.reduceNeg, valloc_std, noSB, vhot, h7, h8, hlt']
      rw [List.take_of_length_le (by omega)] at hall
      exact ⟨_, rfl, hk, by rw [hall]; rfl⟩
  obtain ⟨q, σ', h1, i, rfl, h3, h4⟩ := key
  exact ⟨i, σ', h1, h3, h4⟩
theorem containsfunc_does {s : List UInt8} {f : Val → Bool} (H : FitOk 41 s f) {σ : St} {p : Nat} (hp : IsS σ p s) (hwt : weights l ≤ 4294967296) (hw : ValsW l w) : ∃ (σ' : St), Does Try.prog prims 59 [w, .func 60 [.optr p 0]] σ (.ret (.bool (!(l.all f)))) σ' ∧ Keep σ σ' := by
  obtain ⟨i, s2, d2, k2, hi⟩ := indexfunc_does H hp hwt hw
  refine ⟨s2, ?_, k2⟩
  apply k59_is.ret (by simp)
  simp only [k59_a, WK, vop, evAll, evOpt, evParts, vbuiltin, vun, vextract, Nat.reduceLT, Nat.reduceEqDiff, ↓reduceIte, reduceCtorEq, Nat.reduceAdd, Int.reduceLT, Int.reduceNeg, valloc_std, noSB, vhot, List.getD_cons_zero, List.getD_cons_succ]
  refine KD.ret d2 ?_
  simp only [k59_a, WK, vop, evAll, evOpt, evParts, vbuiltin, vun, vextract, Nat.reduceLT, Nat.reduceEqDiff, ↓reduceIte, reduceCtorEq, Nat.reduceAdd, Int.reduceLT, Int.reduceNeg, valloc_std, noSB, vhot, hi]
theorem tyS_list {e : Ty} (h : tyD (.list e) ≤ 4) : listS (tyB (.list e)) = tyB e ∧ isListS (tyB (.list e)) = true := by
  have := tyS_iff.2 ⟨rfl, h⟩
  exact ⟨by rw [listS, this], by rw [isListS, this]⟩
theorem tyS_mapI {e : Ty} (h : tyD (.mapI e) ≤ 4) : listS (tyB (.mapI e)) = [] ∧ isListS (tyB (.mapI e)) = false ∧ keyS (tyB (.mapI e)) = intB ∧ valS (tyB (.mapI e)) = tyB e ∧ isMapS (tyB (.mapI e)) = true := by
  have := tyS_iff.2 ⟨rfl, h⟩
  exact ⟨by rw [listS, this], by rw [isListS, this], by rw [keyS, this], by rw [valS, this], by rw [isMapS, this]⟩
theorem tyS_mapT {e : Ty} (h : tyD (.mapT e) ≤ 4) : listS (tyB (.mapT e)) = [] ∧ isListS (tyB (.mapT e)) = false ∧ keyS (tyB (.mapT e)) = textB ∧ valS (tyB (.mapT e)) = tyB e ∧ isMapS (tyB (.mapT e)) = true := by
  have := tyS_iff.2 ⟨rfl, h⟩
  exact ⟨by rw [listS, this], by rw [isListS, this], by rw [keyS, this], by rw [valS, this], by rw [isMapS, this]⟩
theorem ZS9 : zeroT Try.prog 9 = some (.str []) := by kernel_rfl
theorem fits_list {e : Ty} (hT : tyD (.list e) ≤ 4) (H : FitOk 41 (tyB e) (fitsT e)) : FitOk 41 (tyB (.list e)) (fitList (fitsT e)) := by
  intro v c σ hwt ha
  have key : ∃ q σ', Does Try.prog prims 41 [.agg c, .str (tyB (.list e))] σ q σ' ∧ q = .ret (.bool (fitList (fitsT e) v)) ∧ Keep σ σ' := by
    obtain ⟨k, n, t, l, w, rfl, rfl, hw, ik, im⟩ := ha.inv
    apply k41_is.does (by simp)
    obtain ⟨σ2, hσ2⟩ : ∃ σ2 : St, σ2 = ⟨σ.objs ++ [Ob.cells [.int .i64 k, .int .i64 n, .str t, w]], σ.toks⟩ := ⟨_, rfl⟩
    have hk2 : Keep σ σ2 := by rw [hσ2]; exact (Keep.refl σ).push _
    have q2 : IsV σ2 σ.objs.length [.int .i64 k, .int .i64 n, .str t, w] := by rw [hσ2]; exact push_new _ _
    have b1 : decide (tyB (.list e) = [105, 110, 116]) = false := by simp [tyB]
    have b2 : decide (tyB (.list e) = [98, 111, 111, 108]) = false := by simp [tyB]
    have b3 : decide (tyB (.list e) = [116, 101, 120, 116]) = false := by simp [tyB]
    have hlen := tyB_len (.list e)
    rw [weight] at hwt
    unfold fitList
    simp only [k41_a, WK, vop, evAll, evOpt, evParts, vbuiltin, vun, vextract, Nat.reduceLT, Nat.reduceEqDiff, ↓reduceIte, reduceCtorEq, Nat.reduceAdd, Int.reduceLT, Int.reduceNeg, valloc_std, noSB, vhot, List.getD_cons_zero, List.getD_cons_succ, ofVal_str, strBin, FV0, FV1, FV2, FV3, q2.kind, q2.num, q2.text, q2.list, hw.len, vbox, vcells, ← hσ2, b1, b2, b3]
    obtain ⟨g1, g2⟩ := tyS_list hT
    have hd := vlist_does (tyB (.list e)) (by omega) σ2
    rw [g1, g2] at hd
    rcases (((Classical.em (n = 0)).elim (fun h0 => Or.inr ((Classical.em (t = [])).elim (fun h1 => Or.inr (⟨h0, h1⟩)) (fun h1 => Or.inl ⟨h0, h1⟩))) (fun h0 => Or.inl h0)) : (¬ (n = 0) ∨ (n = 0) ∧ ¬ (t = []) ∨ (n = 0) ∧ (t = []))) with h | h | h
    · simp only [k41_a, WK, vop, evAll, evOpt, evParts, vbuiltin, vun, vextract, Nat.reduceLT, Nat.reduceEqDiff, ↓reduceIte, reduceCtorEq, Nat.reduceAdd, Int.reduceLT, Int.reduceNeg, valloc_std, noSB, vhot, List.getD_cons_zero, List.getD_cons_succ, ofVal_str, strBin, FV0, FV1, FV2, FV3, q2.kind, q2.num, q2.text, q2.list, hw.len, h, b1, b2, b3, eq_self, Bool.true_and, Bool.false_and, Bool.and_true]
      exact hk2
    · simp only [k41_a, WK, vop, evAll, evOpt, evParts, vbuiltin, vun, vextract, Nat.reduceLT, Nat.reduceEqDiff, ↓reduceIte, reduceCtorEq, Nat.reduceAdd, Int.reduceLT, Int.reduceNeg, valloc_std, noSB, vhot, List.getD_cons_zero, List.getD_cons_succ, ofVal_str, strBin, FV0, FV1, FV2, FV3, q2.kind, q2.num, q2.text, q2.list, hw.len, h, b1, b2, b3, eq_self, Bool.true_and, Bool.false_and, Bool.and_true]
      exact hk2
    · simp only [k41_a, WK, vop, evAll, evOpt, evParts, vbuiltin, vun, vextract, Nat.reduceLT, Nat.reduceEqDiff, ↓reduceIte, reduceCtorEq, Nat.reduceAdd, Int.reduceLT, Int.reduceNeg, valloc_std, noSB, vhot, List.getD_cons_zero, List.getD_cons_succ, ofVal_str, strBin, FV0, FV1, FV2, FV3, q2.kind, q2.num, q2.text, q2.list, hw.len, h, b1, b2, b3, eq_self, Bool.true_and, Bool.false_and, Bool.and_true]
      refine KD.ret hd ?_
      obtain ⟨s3, hs3⟩ : ∃ s3 : St, s3 = ⟨(σ2.objs ++ [Ob.cells [.str []]]).set σ2.objs.length (Ob.cells [.str (tyB e)]), σ2.toks⟩ := ⟨_, rfl⟩
      have k3 : Keep σ2 s3 := by rw [hs3]; exact ((Keep.refl σ2).push _).setNew (Nat.le_refl _) _
      have p3 : IsS s3 σ2.objs.length (tyB e) := by rw [hs3]; exact obj_set (push_new _ _)
      have hst : vstore Try.prog ⟨σ2.objs ++ [Ob.cells [.str []]], σ2.toks⟩ 9 (.optr σ2.objs.length 0) (.str (tyB e)) = some s3 := by
        rw [hs3]
        have h0 : (⟨σ2.objs ++ [Ob.cells [V.str []]], σ2.toks⟩ : St).objs[σ2.objs.length]? = some (.cells [.str []]) := push_new _ _
        exact vstore_obj h0 S9 rfl (by simp)
      have q3 := k3.atV q2
      simp only [k41_a, WK, vop, evAll, evOpt, evParts, vbuiltin, vun, vextract, Nat.reduceLT, Nat.reduceEqDiff, ↓reduceIte, reduceCtorEq, Nat.reduceAdd, Int.reduceLT, Int.reduceNeg, valloc_std, noSB, vhot, List.getD_cons_zero, List.getD_cons_succ, ofVal_str, strBin, FV0, FV1, FV2, FV3, q2.kind, q2.num, q2.text, q2.list, hw.len, ZS9, vbox, vcells, hst]
      have W3 := hwt
      obtain ⟨s4, d4, k4⟩ := containsfunc_does H p3 (l := l) (w := w) (by omega) hw
      simp only [q3.kind, FV0, WK, vop, evAll, evOpt, evParts, vbuiltin, vun, vextract, Nat.reduceLT, Nat.reduceEqDiff, ↓reduceIte, reduceCtorEq, Nat.reduceAdd, Int.reduceLT, Int.reduceNeg, valloc_std, noSB, vhot]
      rcases (((Classical.em (k = 4)).elim (fun h0 => Or.inr ((Classical.em ((l.length : Int) ≤ 64)).elim (fun h1 => Or.inr (⟨h0, h1⟩)) (fun h1 => Or.inl ⟨h0, h1⟩))) (fun h0 => Or.inl h0)) : (¬ (k = 4) ∨ (k = 4) ∧ ¬ ((l.length : Int) ≤ 64) ∨ (k = 4) ∧ ((l.length : Int) ≤ 64))) with hh | hh | hh
      · simp only [k41_a, WK, vop, evAll, evOpt, evParts, vbuiltin, vun, vextract, Nat.reduceLT, Nat.reduceEqDiff, ↓reduceIte, reduceCtorEq, Nat.reduceAdd, Int.reduceLT, Int.reduceNeg, valloc_std, noSB, vhot, FV0, FV3, q3.list, hw.len, hh, eq_self, Bool.true_and, Bool.false_and, Bool.and_true]
        exact hk2.trans k3
      · simp only [k41_a, WK, vop, evAll, evOpt, evParts, vbuiltin, vun, vextract, Nat.reduceLT, Nat.reduceEqDiff, ↓reduceIte, reduceCtorEq, Nat.reduceAdd, Int.reduceLT, Int.reduceNeg, valloc_std, noSB, vhot, FV0, FV3, q3.list, hw.len, hh, eq_self, Bool.true_and, Bool.false_and, Bool.and_true]
        exact hk2.trans k3
      · simp only [k41_a, WK, vop, evAll, evOpt, evParts, vbuiltin, vun, vextract, Nat.reduceLT, Nat.reduceEqDiff, ↓reduceIte, reduceCtorEq, Nat.reduceAdd, Int.reduceLT, Int.reduceNeg, valloc_std, noSB, vhot, FV0, FV3, q3.list, hw.len, hh, eq_self, Bool.true_and, Bool.false_and, Bool.and_true]
        refine KD.ret d4 ?_
        simp only [k41_a, WK, vop, evAll, evOpt, evParts, vbuiltin, vun, vextract, Nat.reduceLT, Nat.reduceEqDiff, ↓reduceIte, reduceCtorEq, Nat.reduceAdd, Int.reduceLT, Int.reduceNeg, valloc_std, noSB, vhot, Bool.not_not]
        exact (hk2.trans k3).trans k4
  obtain ⟨q, σ', h1, rfl, h3⟩ := key
  exact ⟨σ', h1, h3⟩
theorem idx_wrap {i : Nat} (h : i + 1 ≤ 4294967296) : IntKind.i64.wrap ((i : Int) + 1) = ((i + 1 : Nat) : Int) := by rw [wrap_i64 (by omega) (by omega)]; omega
theorem idx_wrap2 {i : Nat} (h : 2 ≤ i) (h2 : i ≤ 4294967296) : IntKind.i64.wrap ((i : Int) - 2) = ((i - 2 : Nat) : Int) := by rw [wrap_i64 (by omega) (by omega)]; omega
theorem pair_step {ks vs : List UInt8} {fk fv : Val → Bool} (Hk : FitOk 41 ks fk) (Hv : FitOk 41 vs fv) {e : Nat → V} {σ : St} {q i : Nat} (hw : ValsW l w) (hwt : weights l ≤ 4294967295) (hi : i + 1 < l.length) (hev : i % 2 = 0)
    (h2 : e 2 = .optr q 0) (h7 : e 7 = .str ks) (h8 : e 8 = .str vs) (h10 : e 10 = .int .i64 i) (hq : IsV σ q [.int .i64 k, .int .i64 n, .str t, w]) :
    Ev Try.prog prims 175 (.region k41_r18) e σ (fun x e' σ' => x = .normal ∧ Keep σ σ' ∧ e' 174 = .bool (!(okAt fk fv l i && okAt fk fv l (i + 1)))) := by
  have hll := weights_len l
  have hi0 : i < l.length := by omega
  obtain ⟨csA, cA, haA, hldA, hcA⟩ := hw.get hi0
  obtain ⟨csB, cB, haB, hldB, hcB⟩ := hw.get hi
  have hmA := weights_mem (List.getElem_mem hi0)
  have hmB := weights_mem (List.getElem_mem hi)
  obtain ⟨s1, d1, k1⟩ := Hk l[i] cA σ (by omega) hcA
  obtain ⟨s2, d2, k2⟩ := Hv l[i + 1] cB s1 (by omega) hcB
  have q1 := k1.atV hq
  have q2 := k2.atV q1
  have w1 := idx_wrap (i := i) (by omega)
  rw [okAt_odd hi (by omega)]
  by_cases i0 : i = 0
  · subst i0
    rw [okAt_even0 hi0]
    have z0 : ((0 : Nat) : Int) = 0 := rfl
    simp only [(oE k41_r18.eq_1), WK, vop, evAll, evOpt, evParts, vbuiltin, vun, vextract, Nat.reduceLT, Nat.reduceEqDiff, ↓reduceIte, reduceCtorEq, Nat.reduceAdd, Int.reduceLT, Int.reduceNeg, valloc_std, noSB, vhot, h2, h7, h8, h10, FV3, hq.list, haA, hldA]
    refine KD.ret d1 ?_
    cases hA : fk l[0] with
    | false =>
      simp only [(oE k41_r18.eq_1), WK, vop, evAll, evOpt, evParts, vbuiltin, vun, vextract, Nat.reduceLT, Nat.reduceEqDiff, ↓reduceIte, reduceCtorEq, Nat.reduceAdd, Int.reduceLT, Int.reduceNeg, valloc_std, noSB, vhot, h2, h7, h8, h10, FV3, Bool.false_and]
      exact k1
    | true =>
      simp only [(oE k41_r18.eq_1), WK, vop, evAll, evOpt, evParts, vbuiltin, vun, vextract, Nat.reduceLT, Nat.reduceEqDiff, ↓reduceIte, reduceCtorEq, Nat.reduceAdd, Int.reduceLT, Int.reduceNeg, valloc_std, noSB, vhot, h2, h7, h8, h10, FV3, q1.list, w1, haB, hldB]
      refine KD.ret d2 ?_
      cases hB : fv l[0 + 1] with
      | false =>
        simp only [(oE k41_r18.eq_1), WK, vop, evAll, evOpt, evParts, vbuiltin, vun, vextract, Nat.reduceLT, Nat.reduceEqDiff, ↓reduceIte, reduceCtorEq, Nat.reduceAdd, Int.reduceLT, Int.reduceNeg, valloc_std, noSB, vhot, h2, h7, h8, h10, FV3, Bool.true_and]
        exact k1.trans k2
      | true =>
        simp only [(oE k41_r18.eq_1), WK, vop, evAll, evOpt, evParts, vbuiltin, vun, vextract, Nat.reduceLT, Nat.reduceEqDiff, ↓reduceIte, reduceCtorEq, Nat.reduceAdd, Int.reduceLT, Int.reduceNeg, valloc_std, noSB, vhot, h2, h7, h8, h10, FV3, Bool.true_and, z0, Int.lt_irrefl]
        exact k1.trans k2
  · have hi2 : 2 ≤ i := by omega
    rw [okAt_even hi0 hev hi2]
    have w2 := idx_wrap2 hi2 (by omega)
    have hi3 : i - 2 < l.length := by omega
    obtain ⟨csC, cC, haC, hldC, hcC⟩ := hw.get hi3
    have hmC := weights_mem (List.getElem_mem hi3)
    obtain ⟨s4, d4, k4⟩ := compare_does (a := l[i - 2]) (b := l[i]) s2 (by omega) hcC hcA
    have hpos : (0 : Int) < (i : Int) := by omega
    simp only [(oE k41_r18.eq_1), WK, vop, evAll, evOpt, evParts, vbuiltin, vun, vextract, Nat.reduceLT, Nat.reduceEqDiff, ↓reduceIte, reduceCtorEq, Nat.reduceAdd, Int.reduceLT, Int.reduceNeg, valloc_std, noSB, vhot, h2, h7, h8, h10, FV3, hq.list, haA, hldA]
    refine KD.ret d1 ?_
    cases hA : fk l[i] with
    | false =>
      simp only [(oE k41_r18.eq_1), WK, vop, evAll, evOpt, evParts, vbuiltin, vun, vextract, Nat.reduceLT, Nat.reduceEqDiff, ↓reduceIte, reduceCtorEq, Nat.reduceAdd, Int.reduceLT, Int.reduceNeg, valloc_std, noSB, vhot, h2, h7, h8, h10, FV3, Bool.false_and]
      exact k1
    | true =>
      simp only [(oE k41_r18.eq_1), WK, vop, evAll, evOpt, evParts, vbuiltin, vun, vextract, Nat.reduceLT, Nat.reduceEqDiff, ↓reduceIte, reduceCtorEq, Nat.reduceAdd, Int.reduceLT, Int.reduceNeg, valloc_std, noSB, vhot, h2, h7, h8, h10, FV3, q1.list, w1, haB, hldB]
      refine KD.ret d2 ?_
      cases hB : fv l[i + 1] with
      | false =>
        simp only [(oE k41_r18.eq_1), WK, vop, evAll, evOpt, evParts, vbuiltin, vun, vextract, Nat.reduceLT, Nat.reduceEqDiff, ↓reduceIte, reduceCtorEq, Nat.reduceAdd, Int.reduceLT, Int.reduceNeg, valloc_std, noSB, vhot, h2, h7, h8, h10, FV3, Bool.and_false]
        exact k1.trans k2
      | true =>
        simp only [(oE k41_r18.eq_1), WK, vop, evAll, evOpt, evParts, vbuiltin, vun, vextract, Nat.reduceLT, Nat.reduceEqDiff, ↓reduceIte, reduceCtorEq, Nat.reduceAdd, Int.reduceLT, Int.reduceNeg, valloc_std, noSB, vhot, h2, h7, h8, h10, FV3, hpos, q2.list, w2, haC, hldC, haA, hldA]
        refine KD.ret d4 ?_
        by_cases hc : cmpV l[i - 2] l[i] < 0
        · have hc' : ¬ (0 : Int) ≤ cmpV l[i - 2] l[i] := by omega
          simp only [(oE k41_r18.eq_1), WK, vop, evAll, evOpt, evParts, vbuiltin, vun, vextract, Nat.reduceLT, Nat.reduceEqDiff, ↓reduceIte, reduceCtorEq, Nat.reduceAdd, Int.reduceLT, Int.reduceNeg, valloc_std, noSB, vhot, h2, h7, h8, h10, FV3, hc, hc', Bool.true_and, Bool.and_true]
          exact (k1.trans k2).trans k4
        · have hc' : (0 : Int) ≤ cmpV l[i - 2] l[i] := by omega
          simp only [(oE k41_r18.eq_1), WK, vop, evAll, evOpt, evParts, vbuiltin, vun, vextract, Nat.reduceLT, Nat.reduceEqDiff, ↓reduceIte, reduceCtorEq, Nat.reduceAdd, Int.reduceLT, Int.reduceNeg, valloc_std, noSB, vhot, h2, h7, h8, h10, FV3, hc, hc', Bool.true_and, Bool.and_true]
          exact (k1.trans k2).trans k4
def I54 (σ0 : St) (fk fv : Val → Bool) (l : List Val) : Nat → (Nat → V) → St → Prop := fun i e σ => e 10 = .int .i64 i ∧ i ≤ l.length ∧ i % 2 = 0 ∧ (∀ j, j < i → okAt fk fv l j = true) ∧ Keep σ0 σ
theorem fits_map {T : Ty} {ks vs : List UInt8} {fk fv : Val → Bool} (hT : tyD T ≤ 4) (hls : listS (tyB T) = [] ∧ isListS (tyB T) = false ∧ keyS (tyB T) = ks ∧ valS (tyB T) = vs ∧ isMapS (tyB T) = true)
    (b1 : decide (tyB T = [105, 110, 116]) = false) (b2 : decide (tyB T = [98, 111, 111, 108]) = false) (b3 : decide (tyB T = [116, 101, 120, 116]) = false)
    (Hk : FitOk 41 ks fk) (Hv : FitOk 41 vs fv) : FitOk 41 (tyB T) (fitMap fk fv) := by
  intro v c σ hwt ha
  have key : ∃ q σ', Does Try.prog prims 41 [.agg c, .str (tyB T)] σ q σ' ∧ q = .ret (.bool (fitMap fk fv v)) ∧ Keep σ σ' := by
    obtain ⟨k, n, t, l, w, rfl, rfl, hw, ik, im⟩ := ha.inv
    apply k41_is.does (by simp)
    obtain ⟨σ2, hσ2⟩ : ∃ σ2 : St, σ2 = ⟨σ.objs ++ [Ob.cells [.int .i64 k, .int .i64 n, .str t, w]], σ.toks⟩ := ⟨_, rfl⟩
    have hk2 : Keep σ σ2 := by rw [hσ2]; exact (Keep.refl σ).push _
    have q2 : IsV σ2 σ.objs.length [.int .i64 k, .int .i64 n, .str t, w] := by rw [hσ2]; exact push_new _ _
    have hlen := tyB_len T
    rw [weight] at hwt
    have hll := weights_len l
    unfold fitMap
    simp only [k41_a, WK, vop, evAll, evOpt, evParts, vbuiltin, vun, vextract, Nat.reduceLT, Nat.reduceEqDiff, ↓reduceIte, reduceCtorEq, Nat.reduceAdd, Int.reduceLT, Int.reduceNeg, valloc_std, noSB, vhot, List.getD_cons_zero, List.getD_cons_succ, ofVal_str, strBin, FV0, FV1, FV2, FV3, q2.kind, q2.num, q2.text, q2.list, hw.len, vbox, vcells, ← hσ2, b1, b2, b3]
    obtain ⟨g1, g2, g3, g4, g5⟩ := hls
    have hd := vlist_does (tyB T) (by omega) σ2
    rw [g1, g2] at hd
    obtain ⟨s3, hs3⟩ : ∃ s3 : St, s3 = ⟨(σ2.objs ++ [Ob.cells [.str []]]).set σ2.objs.length (Ob.cells [.str []]), σ2.toks⟩ := ⟨_, rfl⟩
    have k3 : Keep σ2 s3 := by rw [hs3]; exact ((Keep.refl σ2).push _).setNew (Nat.le_refl _) _
    have hst : vstore Try.prog ⟨σ2.objs ++ [Ob.cells [.str []]], σ2.toks⟩ 9 (.optr σ2.objs.length 0) (.str []) = some s3 := by
      rw [hs3]
      have h0 : (⟨σ2.objs ++ [Ob.cells [V.str []]], σ2.toks⟩ : St).objs[σ2.objs.length]? = some (.cells [.str []]) := push_new _ _
      exact vstore_obj h0 S9 rfl (by simp)
    have hm := vmap_does (tyB T) (by omega) s3
    rw [g3, g4, g5] at hm
    have q3 := k3.atV q2
    have ht : Int.tmod (l.length : Int) 2 = (l.length : Int) % 2 := Int.tmod_eq_emod_of_nonneg (by omega)
    have e20 : ((2 : Int) = 0) = False := eq_false (by decide)
    rcases (((Classical.em (n = 0)).elim (fun h0 => Or.inr ((Classical.em (t = [])).elim (fun h1 => Or.inr (⟨h0, h1⟩)) (fun h1 => Or.inl ⟨h0, h1⟩))) (fun h0 => Or.inl h0)) : (¬ (n = 0) ∨ (n = 0) ∧ ¬ (t = []) ∨ (n = 0) ∧ (t = []))) with h | h | h
    · simp only [k41_a, WK, vop, evAll, evOpt, evParts, vbuiltin, vun, vextract, Nat.reduceLT, Nat.reduceEqDiff, ↓reduceIte, reduceCtorEq, Nat.reduceAdd, Int.reduceLT, Int.reduceNeg, valloc_std, noSB, vhot, List.getD_cons_zero, List.getD_cons_succ, ofVal_str, strBin, FV0, FV1, FV2, FV3, q2.kind, q2.num, q2.text, q2.list, hw.len, h, b1, b2, b3, eq_self, Bool.true_and, Bool.false_and, Bool.and_true]
      exact hk2
    · simp only [k41_a, WK, vop, evAll, evOpt, evParts, vbuiltin, vun, vextract, Nat.reduceLT, Nat.reduceEqDiff, ↓reduceIte, reduceCtorEq, Nat.reduceAdd, Int.reduceLT, Int.reduceNeg, valloc_std, noSB, vhot, List.getD_cons_zero, List.getD_cons_succ, ofVal_str, strBin, FV0, FV1, FV2, FV3, q2.kind, q2.num, q2.text, q2.list, hw.len, h, b1, b2, b3, eq_self, Bool.true_and, Bool.false_and, Bool.and_true]
      exact hk2
    · simp only [k41_a, WK, vop, evAll, evOpt, evParts, vbuiltin, vun, vextract, Nat.reduceLT, Nat.reduceEqDiff, ↓reduceIte, reduceCtorEq, Nat.reduceAdd, Int.reduceLT, Int.reduceNeg, valloc_std, noSB, vhot, List.getD_cons_zero, List.getD_cons_succ, ofVal_str, strBin, FV0, FV1, FV2, FV3, q2.kind, q2.num, q2.text, q2.list, hw.len, h, b1, b2, b3, eq_self, Bool.true_and, Bool.false_and, Bool.and_true]
      refine KD.ret hd ?_
      simp only [k41_a, WK, vop, evAll, evOpt, evParts, vbuiltin, vun, vextract, Nat.reduceLT, Nat.reduceEqDiff, ↓reduceIte, reduceCtorEq, Nat.reduceAdd, Int.reduceLT, Int.reduceNeg, valloc_std, noSB, vhot, List.getD_cons_zero, List.getD_cons_succ, ofVal_str, strBin, ZS9, vbox, vcells, hst]
      refine KD.ret hm ?_
      simp only [k41_a, WK, vop, evAll, evOpt, evParts, vbuiltin, vun, vextract, Nat.reduceLT, Nat.reduceEqDiff, ↓reduceIte, reduceCtorEq, Nat.reduceAdd, Int.reduceLT, Int.reduceNeg, valloc_std, noSB, vhot, List.getD_cons_zero, List.getD_cons_succ, FV0, FV3, q3.kind, q3.list]
      rcases (((Classical.em (k = 5)).elim (fun h0 => Or.inr ((Classical.em ((l.length : Int) % 2 = 0)).elim (fun h1 => Or.inr ((Classical.em ((l.length : Int) ≤ 128)).elim (fun h2 => Or.inr (⟨h0, h1, h2⟩)) (fun h2 => Or.inl ⟨h0, h1, h2⟩))) (fun h1 => Or.inl ⟨h0, h1⟩))) (fun h0 => Or.inl h0)) : (¬ (k = 5) ∨ (k = 5) ∧ ¬ ((l.length : Int) % 2 = 0) ∨ (k = 5) ∧ ((l.length : Int) % 2 = 0) ∧ ¬ ((l.length : Int) ≤ 128) ∨ (k = 5) ∧ ((l.length : Int) % 2 = 0) ∧ ((l.length : Int) ≤ 128))) with hh | hh | hh | hh
      · simp only [k41_a, WK, vop, evAll, evOpt, evParts, vbuiltin, vun, vextract, Nat.reduceLT, Nat.reduceEqDiff, ↓reduceIte, reduceCtorEq, Nat.reduceAdd, Int.reduceLT, Int.reduceNeg, valloc_std, noSB, vhot, List.getD_cons_zero, List.getD_cons_succ, FV0, FV3, q3.list, hw.len, hh, eq_self, Bool.true_and, Bool.false_and, Bool.and_true]
        exact hk2.trans k3
      · simp only [k41_a, WK, vop, evAll, evOpt, evParts, vbuiltin, vun, vextract, Nat.reduceLT, Nat.reduceEqDiff, ↓reduceIte, reduceCtorEq, Nat.reduceAdd, Int.reduceLT, Int.reduceNeg, valloc_std, noSB, vhot, List.getD_cons_zero, List.getD_cons_succ, FV0, FV3, q3.list, hw.len, ht, e20, hh, eq_self, Bool.true_and, Bool.false_and, Bool.and_true]
        exact hk2.trans k3
      · have hgt : (128 : Int) < l.length := by omega
        simp only [k41_a, WK, vop, evAll, evOpt, evParts, vbuiltin, vun, vextract, Nat.reduceLT, Nat.reduceEqDiff, ↓reduceIte, reduceCtorEq, Nat.reduceAdd, Int.reduceLT, Int.reduceNeg, valloc_std, noSB, vhot, List.getD_cons_zero, List.getD_cons_succ, FV0, FV3, q3.list, hw.len, ht, e20, hh, hgt, eq_self, Bool.true_and, Bool.false_and, Bool.and_true]
        exact hk2.trans k3
      · have hgt : ¬ (128 : Int) < l.length := by omega
        have hev : l.length % 2 = 0 := by omega
        simp only [k41_a, WK, vop, evAll, evOpt, evParts, vbuiltin, vun, vextract, Nat.reduceLT, Nat.reduceEqDiff, ↓reduceIte, reduceCtorEq, Nat.reduceAdd, Int.reduceLT, Int.reduceNeg, valloc_std, noSB, vhot, List.getD_cons_zero, List.getD_cons_succ, FV0, FV3, q3.list, hw.len, ht, e20, hh, hgt, eq_self, Bool.true_and, Bool.false_and, Bool.and_true]
        refine Ev.loopF (I54 s3 fk fv l) (fun i => l.length - i) 0 ⟨by simp [upd_some], by simp, by simp, fun j hj => by omega, Keep.refl _⟩ ?_
        rintro i e σ1 ⟨h10, hi, hie, hall, hk⟩ hf
        have h2 : e 2 = .optr σ.objs.length 0 := (hf 2 (by decide)).trans (by simp [upd_some])
        have h7 : e 7 = .str ks := (hf 7 (by decide)).trans (by simp [upd_some])
        have h8 : e 8 = .str vs := (hf 8 (by decide)).trans (by simp [upd_some])
        clear hf
        have q4 := hk.atV q3
        by_cases hlt : i < l.length
        · have hlt' : (i : Int) < l.length := by omega
          have hwi : IntKind.i64.wrap ((i : Int) + 2) = ((i + 2 : Nat) : Int) := by rw [show ((i : Int) + 2) = ((i + 2 : Nat) : Int) from by omega]; exact wrap_nat (by omega)
          have hi1 : i + 1 < l.length := by omega
          simp only [(vE k41_l0.eq_1), (oE k41_r16.eq_1), WK, vop, evAll, evOpt, evParts, vbuiltin, vun, vextract, Nat.reduceLT, Nat.reduceEqDiff, ↓reduceIte, reduceCtorEq, Nat.reduceAdd, Int.reduceLT, Int.reduceNeg, valloc_std, noSB, vhot, h2, h10, FV3, q4.list, hw.len, hlt']
          rw [← Ev_region]
          refine Ev.cut (pair_step (t := t) (k := k) (n := n) Hk Hv hw (by omega) hi1 hie (q := σ.objs.length) (by simp [upd_some, h2]) (by simp [upd_some, h7]) (by simp [upd_some, h8]) (by simp [upd_some, h10]) (by exact q4)) ?_
          rintro x e' s5 ⟨rfl, k5, h174⟩ hwr
          have h10' : e' 10 = .int .i64 i := (hwr 10 (by decide)).trans (by simp [upd_some, h10])
          clear hwr
          cases hA : okAt fk fv l i with
          | false =>
            rw [hA] at h174
            simp only [(oE k41_r19.eq_1), WK, vop, evAll, evOpt, evParts, vbuiltin, vun, vextract, Nat.reduceLT, Nat.reduceEqDiff, ↓reduceIte, reduceCtorEq, Nat.reduceAdd, Int.reduceLT, Int.reduceNeg, valloc_std, noSB, vhot, h174, Bool.false_and]
            exact ⟨by rw [okAll_false hlt hA], (hk2.trans k3).trans (hk.trans k5)⟩
          | true =>
            cases hB : okAt fk fv l (i + 1) with
            | false =>
              rw [hA, hB] at h174
              simp only [(oE k41_r19.eq_1), WK, vop, evAll, evOpt, evParts, vbuiltin, vun, vextract, Nat.reduceLT, Nat.reduceEqDiff, ↓reduceIte, reduceCtorEq, Nat.reduceAdd, Int.reduceLT, Int.reduceNeg, valloc_std, noSB, vhot, h174, Bool.and_false]
              exact ⟨by rw [okAll_false hi1 hB], (hk2.trans k3).trans (hk.trans k5)⟩
            | true =>
              rw [hA, hB] at h174
              simp only [(oE k41_r17.eq_1), WK, vop, evAll, evOpt, evParts, vbuiltin, vun, vextract, Nat.reduceLT, Nat.reduceEqDiff, ↓reduceIte, reduceCtorEq, Nat.reduceAdd, Int.reduceLT, Int.reduceNeg, valloc_std, noSB, vhot, h174, Bool.and_true, h10', hwi]
              refine ⟨i + 2, ⟨by simp [upd_some], by omega, by omega, ?_, hk.trans k5⟩, by omega⟩
              intro j hj
              rcases Nat.lt_or_ge j i with h9 | h9
              · exact hall j h9
              · have : j = i ∨ j = i + 1 := by omega
                rcases this with rfl | rfl
                · exact hA
                · exact hB
        · have hlt' : ¬ (i : Int) < l.length := by omega
          simp only [(vE k41_l0.eq_1), (oE k41_r16.eq_1), (oE k41_r20.eq_1), WK, vop, evAll, evOpt, evParts, vbuiltin, vun, vextract, Nat.reduceLT, Nat.reduceEqDiff, ↓reduceIte, reduceCtorEq, Nat.reduceAdd, Int.reduceLT, Int.reduceNeg, valloc_std, noSB, vhot, h2, h10, FV3, q4.list, hw.len, hlt']
          exact ⟨by rw [okAll_true fun j hj => hall j (by omega)], (hk2.trans k3).trans hk⟩
  obtain ⟨q, σ', h1, rfl, h3⟩ := key
  exact ⟨σ', h1, h3⟩
theorem fits_does : ∀ (T : Ty), tyD T ≤ 4 → FitOk 41 (tyB T) (fitsT T)
  | .int, _ => fits_int
  | .bool, _ => fits_bool
  | .text, _ => fits_text
  | .list e, h => fits_list h (fits_does e (by simp only [tyD] at h; omega))
  | .mapI e, h => fits_map h (tyS_mapI h) (by simp [tyB, mI]) (by simp [tyB, mI]) (by simp [tyB, mI]) fits_int (fits_does e (by simp only [tyD] at h; omega))
  | .mapT e, h => fits_map h (tyS_mapT h) (by simp [tyB, mT]) (by simp [tyB, mT]) (by simp [tyB, mT]) fits_text (fits_does e (by simp only [tyD] at h; omega))
/-- What Fits answers. -/
def fitsS (s : List UInt8) (v : Val) : Bool := match tyS s with
  | some T => decide ((weight v : Int) ≤ 16384) && fitsT T v
  | none => false
theorem vfits_does {s : List UInt8} {v : Val} {c : List V} (hl : s.length ≤ 4294967296) (σ : St) (hwt : weight v ≤ 4294967296) (ha : ValC v c) : ∃ σ', Does Try.prog prims 21 [.agg c, .str s] σ (.ret (.bool (fitsS s v))) σ' ∧ Keep σ σ' := by
  have key : ∃ q σ', Does Try.prog prims 21 [.agg c, .str s] σ q σ' ∧ q = .ret (.bool (fitsS s v)) ∧ Keep σ σ' := by
    apply k21_is.does (by simp)
    obtain ⟨s1, hs1⟩ : ∃ s1 : St, s1 = ⟨σ.objs ++ [Ob.cells c], σ.toks⟩ := ⟨_, rfl⟩
    have k1 : Keep σ s1 := by rw [hs1]; exact (Keep.refl σ).push _
    have q1 : IsV s1 σ.objs.length c := by rw [hs1]; exact push_new _ _
    simp only [k21_a, WK, vop, evAll, evOpt, evParts, vbuiltin, vun, vextract, Nat.reduceLT, Nat.reduceEqDiff, ↓reduceIte, reduceCtorEq, Nat.reduceAdd, Int.reduceLT, Int.reduceNeg, valloc_std, noSB, vhot, List.getD_cons_zero, List.getD_cons_succ, vbox, vcells, ← hs1]
    refine KD.ret (type_does s hl s1) ?_
    unfold fitsS
    cases h : tyS s with
    | none =>
      simp only [k21_a, WK, vop, evAll, evOpt, evParts, vbuiltin, vun, vextract, Nat.reduceLT, Nat.reduceEqDiff, ↓reduceIte, reduceCtorEq, Nat.reduceAdd, Int.reduceLT, Int.reduceNeg, valloc_std, noSB, vhot, Option.isSome_none]
      exact k1
    | some T =>
      obtain ⟨rfl, h4⟩ := tyS_iff.1 h
      obtain ⟨s2, d2, k2⟩ := weight_does s1 hwt ha
      have q2 := k2.atV q1
      obtain ⟨s3, d3, k3⟩ := fits_does T h4 v c s2 hwt ha
      simp only [k21_a, WK, vop, evAll, evOpt, evParts, vbuiltin, vun, vextract, Nat.reduceLT, Nat.reduceEqDiff, ↓reduceIte, reduceCtorEq, Nat.reduceAdd, Int.reduceLT, Int.reduceNeg, valloc_std, noSB, vhot, List.getD_cons_zero, List.getD_cons_succ, Option.isSome_some, q1.load ha.len]
      refine KD.ret d2 ?_
      by_cases hb : (weight v : Int) ≤ 16384
      · simp only [k21_a, WK, vop, evAll, evOpt, evParts, vbuiltin, vun, vextract, Nat.reduceLT, Nat.reduceEqDiff, ↓reduceIte, reduceCtorEq, Nat.reduceAdd, Int.reduceLT, Int.reduceNeg, valloc_std, noSB, vhot, List.getD_cons_zero, List.getD_cons_succ, hb, q2.load ha.len, Bool.true_and]
        refine KD.ret d3 ?_
        simp only [k21_a, WK, vop, evAll, evOpt, evParts, vbuiltin, vun, vextract, Nat.reduceLT, Nat.reduceEqDiff, ↓reduceIte, reduceCtorEq, Nat.reduceAdd, Int.reduceLT, Int.reduceNeg, valloc_std, noSB, vhot]
        exact (k1.trans k2).trans k3
      · simp only [k21_a, WK, vop, evAll, evOpt, evParts, vbuiltin, vun, vextract, Nat.reduceLT, Nat.reduceEqDiff, ↓reduceIte, reduceCtorEq, Nat.reduceAdd, Int.reduceLT, Int.reduceNeg, valloc_std, noSB, vhot, hb, Bool.false_and]
        exact k1.trans k2
  obtain ⟨q, σ', h1, rfl, h3⟩ := key
  exact ⟨σ', h1, h3⟩
end
end Go.Proofs.Ytplhelapcpcncaa.Q

set_option linter.unusedVariables false
set_option linter.unusedSimpArgs false
namespace Go.Proofs.Ytplhelapcpcncaa.Q
open Go Go.RowKit Go.Proofs
section
variable {k n : Int} {t : List UInt8} {l : List Val} {w : V}
set_option maxRecDepth 100000
def I55 (σ0 : St) (f : Val → Bool) (l : List Val) : Nat → (Nat → V) → St → Prop := fun i e σ => e 75 = .int .i64 i ∧ i ≤ l.length ∧ (l.take i).all f = true ∧ Keep σ0 σ
def I55m (σ0 : St) (fk fv : Val → Bool) (l : List Val) : Nat → (Nat → V) → St → Prop := fun i e σ => e 110 = .int .i64 i ∧ i ≤ l.length ∧ (∀ j, j < i → okAt fk fv l j = true) ∧ Keep σ0 σ
end
end Go.Proofs.Ytplhelapcpcncaa.Q

set_option linter.unusedVariables false
set_option linter.unusedSimpArgs false
set_option maxRecDepth 100000
namespace Go.Proofs.Ytplhelapcpcncaa.Q
open Go Go.RowKit Go.Proofs
def I16 (n : Nat) (σ0 : St) (out : List UInt8) (x : Nat) : Nat → (Nat → V) → St → Prop := fun y e σ => y < 2 ^ 63 ∧ e 1 = .int .i64 y ∧ ∃ bs, OwnV 5 n σ (e 5) bs ∧ Keep σ0 σ ∧ bs ++ putN y = out ++ putN x ∧ bs.length ≤ out.length + 9
end Go.Proofs.Ytplhelapcpcncaa.Q

set_option linter.unusedVariables false
set_option linter.unusedSimpArgs false
namespace Go.Proofs.Ytplhelapcpcncaa.Q
open Go Go.RowKit Go.Proofs
/-! ### The bytes of values -/
def zig (n : Int) : List Int := if 0 ≤ n then [0, n] else [1, -(n + 1)]
def headV (k : Int) (len : Nat) : Int := if k = 5 then ((len / 2 : Nat) : Int) else (len : Int)
mutual
def putV : Val → List UInt8
  | .mk k n t l => if k = 1 then putS (zig n) else if k = 2 then putS [n] else if k = 3 then putS [(t.length : Int)] ++ t else putS [headV k l.length] ++ putL l
def putL : List Val → List UInt8
  | [] => []
  | v :: l => putV v ++ putL l
end
theorem putL_append (a b : List Val) : putL (a ++ b) = putL a ++ putL b := by
  induction a with
  | nil => rfl
  | cons v a ih => rw [List.cons_append, putL, putL, ih, List.append_assoc]
theorem putL_take_succ {l : List Val} {i : Nat} (h : i < l.length) : putL (l.take (i + 1)) = putL (l.take i) ++ putV l[i] := by
  rw [List.take_succ_eq_append_getElem h, putL_append]
  simp [putL]
theorem zig_in {n : Int} (h : InI64 n) : ∀ x ∈ zig n, InI64 x := by
  unfold zig
  unfold InI64 at *
  split <;> simp <;> omega
theorem zig_len (n : Int) : (zig n).length = 2 := by unfold zig; split <;> rfl
theorem putV_len : ∀ (n : Nat) {v : Val} {c : List V}, weight v ≤ n → n ≤ 4294967296 → ValC v c → (putV v).length ≤ 18 * weight v
  | 0, v, c, hn, _, _ => by have := weight_pos v; omega
  | n + 1, v, c, hn, hb, hc => by
    obtain ⟨k, m, t, l, w, rfl, rfl, hw, ik, im⟩ := hc.inv
    rw [weight] at hn ⊢
    rw [putV]
    have hll := weights_len l
    have h1 := putS_len (xs := zig m) (zig_in im)
    rw [zig_len] at h1
    have h2 := putS_len (xs := [m]) (by simpa using im)
    have h3 := putS_len (xs := [(t.length : Int)]) (by simp [InI64]; omega)
    have h4 := putS_len (xs := [headV k l.length]) (by simp only [List.mem_singleton, headV]; rintro x rfl; unfold InI64; split <;> omega)
    simp only [List.length_cons, List.length_nil] at h2 h3 h4
    have rows : ∀ {l : List Val} {cs : List V}, weights l ≤ n → ValsC l cs → (putL l).length ≤ 18 * weights l := by
      intro l
      induction l with
      | nil => intro cs _ h; simp [putL]
      | cons v l ih =>
        intro cs hl h
        cases h with
        | cons h1 h2 =>
          rw [weights] at hl ⊢
          rw [putL, List.length_append]
          have h3 := putV_len n (by omega) (by omega) h1
          have h4 := ih (by omega) h2
          omega
    have h5 : (putL l).length ≤ 18 * weights l := by
      cases hw with
      | nil => simp [putL]
      | row hcs => exact rows (by omega) hcs
    split
    · omega
    split
    · omega
    split
    · rw [List.length_append]; omega
    · rw [List.length_append]; omega
theorem buildInts2 {a b : Int} (h : ∀ x ∈ [a, b], InI64 x) : ∃ v, vbuildSlice Try.prog 70 2 [(0, .int .i64 a), (1, .int .i64 b)] = some v ∧ IntsV v [a, b] := by
  refine ⟨.slice .exact 1 [i64V a, i64V b] 2, ?_, .inr ⟨.exact, rfl⟩, h⟩
  simp [vbuildSlice, IT.u, IT.s, IT.z, vcells, vfill, zeroCellsV, setAll, i64V]
  simp [List.range, List.range.loop]
theorem zigzag_does {n : Int} (h : InI64 n) (σ : St) : ∃ w, Does Try.prog prims 68 [.int .i64 n] σ (.ret w) σ ∧ IntsV w (zig n) := by
  have hz := zig_in h
  unfold zig at *
  by_cases h0 : 0 ≤ n
  · rw [if_pos h0] at hz ⊢
    obtain ⟨v, h1, h2⟩ := buildInts2 hz
    refine ⟨v, ?_, h2⟩
    apply k68_is.ret (by simp)
    simp only [k68_a, WK, vop, evAll, evOpt, evParts, vbuiltin, vun, vextract, Nat.reduceLT, Nat.reduceEqDiff, ↓reduceIte, reduceCtorEq, Nat.reduceAdd, Int.reduceLT, Int.reduceNeg, valloc_std, noSB, vhot, ofVal_nil, h0, h1]
  · rw [if_neg h0] at hz ⊢
    obtain ⟨v, h1, h2⟩ := buildInts2 hz
    refine ⟨v, ?_, h2⟩
    apply k68_is.ret (by simp)
    have w1 : IntKind.i64.wrap (n + 1) = n + 1 := wrap_i64 (by unfold InI64 at h; omega) (by unfold InI64 at h; omega)
    have w2 : IntKind.i64.wrap (0 - (n + 1)) = -(n + 1) := by rw [wrap_i64 (by unfold InI64 at h; omega) (by unfold InI64 at h; omega)]; omega
    simp only [k68_a, WK, vop, evAll, evOpt, evParts, vbuiltin, vun, vextract, Nat.reduceLT, Nat.reduceEqDiff, ↓reduceIte, reduceCtorEq, Nat.reduceAdd, Int.reduceLT, Int.reduceNeg, valloc_std, noSB, vhot, ofVal_nil, h0, w1, w2, h1]
def I60 (σ0 : St) (bs : List UInt8) (l : List Val) : Nat → (Nat → V) → St → Prop := fun i e σ => e 50 = .int .i64 i ∧ i ≤ l.length ∧ BtsV (e 0) (bs ++ putL (l.take i)) ∧ Keep σ0 σ
set_option maxRecDepth 100000 in
theorem vputV_ok : ∀ (N : Nat), N ≤ 4294967296 → ∀ {a : Val} {c : List V} {v : V} {bs : List UInt8} (σ : St), weight a ≤ N → ValC a c → BtsV v bs → bs.length + 18 * weight a ≤ 100000000000000 → ∃ r σ', Does Try.prog prims 50 [v, .agg c] σ (.ret r) σ' ∧ Keep σ σ' ∧ BtsV r (bs ++ putV a) := by
  intro N
  induction N with
  | zero => intro _ a c v bs σ h; have := weight_pos a; omega
  | succ N ih =>
    intro hN a c v bs σ hwt ha hv hlen
    have key : ∃ q σ', Does Try.prog prims 50 [v, .agg c] σ q σ' ∧ ∃ r, q = .ret r ∧ Keep σ σ' ∧ BtsV r (bs ++ putV a) := by
      obtain ⟨k, n, t, l, w, rfl, rfl, hw, ik, im⟩ := ha.inv
      rw [weight] at hwt hlen
      rw [putV]
      have hll := weights_len l
      apply k50_is.does (by simp)
      obtain ⟨σ2, hσ2⟩ : ∃ σ2 : St, σ2 = ⟨σ.objs ++ [Ob.cells [.int .i64 k, .int .i64 n, .str t, w]], σ.toks⟩ := ⟨_, rfl⟩
      have hk2 : Keep σ σ2 := by rw [hσ2]; exact (Keep.refl σ).push _
      have q2 : IsV σ2 σ.objs.length [.int .i64 k, .int .i64 n, .str t, w] := by rw [hσ2]; exact push_new _ _
      simp only [k50_a, WK, vop, evAll, evOpt, evParts, vbuiltin, vun, vextract, Nat.reduceLT, Nat.reduceEqDiff, ↓reduceIte, reduceCtorEq, Nat.reduceAdd, Int.reduceLT, Int.reduceNeg, valloc_std, noSB, vhot, vbox, vcells, ← hσ2, ofVal_nil, FV0, q2.kind]
      by_cases h1 : k = 1
      · obtain ⟨z, dz, iz⟩ := zigzag_does im σ2
        obtain ⟨r, s3, d3, k3, o3⟩ := put_does hv iz (by rw [zig_len]; omega) σ2
        rw [if_pos h1]
        simp only [k50_a, WK, vop, evAll, evOpt, evParts, vbuiltin, vun, vextract, Nat.reduceLT, Nat.reduceEqDiff, ↓reduceIte, reduceCtorEq, Nat.reduceAdd, Int.reduceLT, Int.reduceNeg, valloc_std, noSB, vhot, FV1, q2.num, decide_eq_true h1]
        refine KD.ret dz ?_
        simp only [k50_a, WK, vop, evAll, evOpt, evParts, vbuiltin, vun, vextract, Nat.reduceLT, Nat.reduceEqDiff, ↓reduceIte, reduceCtorEq, Nat.reduceAdd, Int.reduceLT, Int.reduceNeg, valloc_std, noSB, vhot]
        refine KD.ret d3 ?_
        simp only [k50_a, WK, vop, evAll, evOpt, evParts, vbuiltin, vun, vextract, Nat.reduceLT, Nat.reduceEqDiff, ↓reduceIte, reduceCtorEq, Nat.reduceAdd, Int.reduceLT, Int.reduceNeg, valloc_std, noSB, vhot]
        exact ⟨_, rfl, hk2.trans k3, o3.bts⟩
      rw [if_neg h1]
      by_cases h2 : k = 2
      · obtain ⟨b1, b2⟩ := buildInt IT im
        obtain ⟨r, s3, d3, k3, o3⟩ := put_does hv b2 (by simp only [List.length_singleton]; omega) σ2
        rw [if_pos h2]
        simp only [k50_a, WK, vop, evAll, evOpt, evParts, vbuiltin, vun, vextract, Nat.reduceLT, Nat.reduceEqDiff, ↓reduceIte, reduceCtorEq, Nat.reduceAdd, Int.reduceLT, Int.reduceNeg, valloc_std, noSB, vhot, FV1, q2.num, decide_eq_false h1, decide_eq_true h2, b1]
        refine KD.ret d3 ?_
        simp only [k50_a, WK, vop, evAll, evOpt, evParts, vbuiltin, vun, vextract, Nat.reduceLT, Nat.reduceEqDiff, ↓reduceIte, reduceCtorEq, Nat.reduceAdd, Int.reduceLT, Int.reduceNeg, valloc_std, noSB, vhot]
        exact ⟨_, rfl, hk2.trans k3, o3.bts⟩
      rw [if_neg h2]
      by_cases h3 : k = 3
      · obtain ⟨b1, b2⟩ := buildInt IT (n := (t.length : Int)) (by unfold InI64; omega)
        obtain ⟨r, s3, d3, k3, o3⟩ := put_does hv b2 (by simp only [List.length_singleton]; omega) σ2
        have hpl := putS_len (xs := [(t.length : Int)]) (by simp [InI64]; omega)
        simp only [List.length_singleton] at hpl
        obtain ⟨v4, s4, a4, o4, k4, hob4⟩ := o3.appendS (t := 41) BT rfl k3 T9 (ys := t) (by rw [List.length_append]; omega)
        have q3 := k3.atV q2
        rw [if_pos h3]
        simp only [k50_a, WK, vop, evAll, evOpt, evParts, vbuiltin, vun, vextract, Nat.reduceLT, Nat.reduceEqDiff, ↓reduceIte, reduceCtorEq, Nat.reduceAdd, Int.reduceLT, Int.reduceNeg, valloc_std, noSB, vhot, FV2, q2.text, vlen_str T9, decide_eq_false h1, decide_eq_false h2, decide_eq_true h3, b1]
        refine KD.ret d3 ?_
        simp only [k50_a, WK, vop, evAll, evOpt, evParts, vbuiltin, vun, vextract, Nat.reduceLT, Nat.reduceEqDiff, ↓reduceIte, reduceCtorEq, Nat.reduceAdd, Int.reduceLT, Int.reduceNeg, valloc_std, noSB, vhot, FV2, q2.text, q3.text, a4]
        exact ⟨_, rfl, hk2.trans k4, by rw [← List.append_assoc]; exact o4.bts⟩
      rw [if_neg h3]
      have hhead : InI64 (headV k l.length) := by unfold InI64 headV; split <;> omega
      obtain ⟨b1, b2⟩ := buildInt IT hhead
      obtain ⟨r, s3, d3, k3, o3⟩ := put_does hv b2 (by simp only [List.length_singleton]; omega) σ2
      have hpl := putS_len (xs := [headV k l.length]) (by simpa using hhead)
      simp only [List.length_singleton] at hpl
      have q3 := k3.atV q2
      have hloop : ∀ (e : Nat → V), e 3 = .optr σ.objs.length 0 → BtsV (e 0) (bs ++ putS [headV k l.length]) → Ev Try.prog prims 59 (.seq (.seq (.region k50_r12) (.block 1 (.loop k50_l0))) (.seq (.region k50_r17) .ret)) e s3 (fnK Try.prog 59 [ResultVar.tmp 4] fun q σ' => ∃ r, q = .ret r ∧ Keep σ σ' ∧ BtsV r (bs ++ (putS [headV k l.length] ++ putL l))) := by
        intro e h3 h0
        simp only [k50_a, WK, vop, evAll, evOpt, evParts, vbuiltin, vun, vextract, Nat.reduceLT, Nat.reduceEqDiff, ↓reduceIte, reduceCtorEq, Nat.reduceAdd, Int.reduceLT, Int.reduceNeg, valloc_std, noSB, vhot, h3, FV3, q3.list, hw.len]
        refine Ev.loopF (I60 s3 (bs ++ putS [headV k l.length]) l) (fun i => l.length - i) 0 ⟨by simp [upd_some], by simp, by simpa [upd_some, putL] using h0, Keep.refl _⟩ ?_
        rintro i e1 σ1 ⟨h50, hi, hb, hk⟩ hf
        have h49 : e1 49 = .int .i64 l.length := (hf 49 (by decide)).trans (by simp [upd_some])
        have h48 : e1 48 = w := (hf 48 (by decide)).trans (by simp [upd_some])
        clear hf
        have hplt := weights_take_le l i
        have hpll : (putL (l.take i)).length ≤ 18 * weights (l.take i) := by
          have : ∀ {l : List Val} {cs : List V} (i : Nat), weights l ≤ 4294967296 → ValsC l cs → (putL (l.take i)).length ≤ 18 * weights (l.take i) := by
            intro l
            induction l with
            | nil => intro cs i _ _; simp [putL]
            | cons v l ihl =>
              intro cs i hl h
              cases h with
              | cons hc1 hc2 =>
                rw [weights] at hl
                cases i with
                | zero => simp [putL]
                | succ i =>
                  have x1 := putV_len _ (Nat.le_refl _) (by omega) hc1
                  have x2 := ihl i (by omega) hc2
                  rw [List.take_succ_cons, putL, weights, List.length_append]
                  omega
          cases hw with
          | nil => simp [putL]
          | row hc => exact this i (by omega) hc
        by_cases hlt : i < l.length
        · have hlt' : (i : Int) < l.length := by omega
          have hwi := idx_wrap (i := i) (by omega)
          obtain ⟨cs, c, ha0, hld, hc⟩ := hw.get hlt
          obtain ⟨s5, hs5⟩ : ∃ s5 : St, s5 = ⟨(σ1.objs ++ [Ob.cells val0C]).set σ1.objs.length (Ob.cells c), σ1.toks⟩ := ⟨_, rfl⟩
          have p5 : IsV s5 σ1.objs.length c := by rw [hs5]; exact IsV.made
          have k5 : Keep σ1 s5 := by rw [hs5]; exact (Keep.refl σ1).madeV _ _
          have hmem := weights_mem (List.getElem_mem hlt)
          have hts := weights_take_succ hlt
          have htl := weights_take_le l (i + 1)
          obtain ⟨r6, s6, d6, k6, o6⟩ := ih (by omega) s5 (by omega) hc hb (by simp only [List.length_append]; omega)
          simp only [k50_a, WK, vop, evAll, evOpt, evParts, vbuiltin, vun, vextract, Nat.reduceLT, Nat.reduceEqDiff, ↓reduceIte, reduceCtorEq, Nat.reduceAdd, Int.reduceLT, Int.reduceNeg, valloc_std, noSB, vhot, h48, h49, h50, hlt', ha0, hld, VZ24, vbox, vcells, IsV.new hc.len (show val0C.length = 4 from rfl) hc.one, ← hs5, p5.load hc.len]
          refine KD.ret d6 ?_
          simp only [k50_a, WK, vop, evAll, evOpt, evParts, vbuiltin, vun, vextract, Nat.reduceLT, Nat.reduceEqDiff, ↓reduceIte, reduceCtorEq, Nat.reduceAdd, Int.reduceLT, Int.reduceNeg, valloc_std, noSB, vhot, h50, hwi]
          refine ⟨i + 1, ⟨by simp [upd_some], hlt, ?_, (hk.trans k5).trans k6⟩, by omega⟩
          rw [putL_take_succ hlt, ← List.append_assoc]
          simpa [upd_some] using o6
        · have hlt' : ¬ (i : Int) < l.length := by omega
          simp only [k50_a, WK, vop, evAll, evOpt, evParts, vbuiltin, vun, vextract, Nat.reduceLT, Nat.reduceEqDiff, ↓reduceIte, reduceCtorEq, Nat.reduceAdd, Int.reduceLT, Int.reduceNeg, valloc_std, noSB, vhot, h48, h49, h50, hlt']
          rw [List.take_of_length_le (by omega), List.append_assoc] at hb
          exact ⟨_, rfl, (hk2.trans k3).trans hk, hb⟩
      simp only [WK, vop, evAll, evOpt, evParts, vbuiltin, vun, vextract, Nat.reduceLT, Nat.reduceEqDiff, ↓reduceIte, reduceCtorEq, Nat.reduceAdd, Int.reduceLT, Int.reduceNeg, valloc_std, noSB, vhot] at hloop
      have e20 : ((2 : Int) = 0) = False := eq_false (by decide)
      have w2 : IntKind.i64.wrap (Int.tdiv (l.length : Int) 2) = ((l.length / 2 : Nat) : Int) := by
        rw [Int.tdiv_eq_ediv_of_nonneg (by omega), wrap_i64 (by omega) (by omega)]; omega
      by_cases h5 : k = 5
      · have hh : headV k l.length = ((l.length / 2 : Nat) : Int) := by rw [headV, if_pos h5]
        rw [← hh] at w2
        simp only [(oE k50_r2.eq_1), (oE k50_r4.eq_1), (oE k50_r6.eq_1), (oE k50_r8.eq_1), (oE k50_r9.eq_1), (oE k50_r10.eq_1), (oE k50_r11.eq_1), WK, vop, evAll, evOpt, evParts, vbuiltin, vun, vextract, Nat.reduceLT, Nat.reduceEqDiff, ↓reduceIte, reduceCtorEq, Nat.reduceAdd, Int.reduceLT, Int.reduceNeg, valloc_std, noSB, vhot, FV0, FV3, q2.kind, q2.list, hw.len, decide_eq_false h1, decide_eq_false h2, decide_eq_false h3, decide_eq_true h5, e20, w2, b1]
        refine KD.ret d3 ?_
        simp only [WK, vop, evAll, evOpt, evParts, vbuiltin, vun, vextract, Nat.reduceLT, Nat.reduceEqDiff, ↓reduceIte, reduceCtorEq, Nat.reduceAdd, Int.reduceLT, Int.reduceNeg, valloc_std, noSB, vhot]
        exact hloop _ (by simp [upd_some]) (by simpa [upd_some] using o3.bts)
      · have hh : headV k l.length = (l.length : Int) := by rw [headV, if_neg h5]
        rw [hh] at b1 d3
        simp only [(oE k50_r2.eq_1), (oE k50_r4.eq_1), (oE k50_r6.eq_1), (oE k50_r8.eq_1), (oE k50_r9.eq_1), (oE k50_r10.eq_1), (oE k50_r11.eq_1), WK, vop, evAll, evOpt, evParts, vbuiltin, vun, vextract, Nat.reduceLT, Nat.reduceEqDiff, ↓reduceIte, reduceCtorEq, Nat.reduceAdd, Int.reduceLT, Int.reduceNeg, valloc_std, noSB, vhot, FV0, FV3, q2.kind, q2.list, hw.len, decide_eq_false h1, decide_eq_false h2, decide_eq_false h3, decide_eq_false h5, b1]
        refine KD.ret d3 ?_
        simp only [WK, vop, evAll, evOpt, evParts, vbuiltin, vun, vextract, Nat.reduceLT, Nat.reduceEqDiff, ↓reduceIte, reduceCtorEq, Nat.reduceAdd, Int.reduceLT, Int.reduceNeg, valloc_std, noSB, vhot]
        exact hloop _ (by simp [upd_some]) (by simpa [upd_some] using o3.bts)
    obtain ⟨q, σ', h1, r, rfl, h3, h4⟩ := key
    exact ⟨r, σ', h1, h3, h4⟩
theorem vput_does {a : Val} {c : List V} {v : V} {bs : List UInt8} (σ : St) (hw : weight a ≤ 4294967296) (ha : ValC a c) (hv : BtsV v bs) (hlen : bs.length ≤ 1000000000000) : ∃ r σ', Does Try.prog prims 50 [v, .agg c] σ (.ret r) σ' ∧ Keep σ σ' ∧ BtsV r (bs ++ putV a) :=
  vputV_ok _ (Nat.le_refl _) σ hw ha hv (by omega)
end Go.Proofs.Ytplhelapcpcncaa.Q

set_option linter.unusedVariables false
set_option linter.unusedSimpArgs false
namespace Go.Proofs.Ytplhelapcpcncaa.Q
open Go Go.RowKit Go.Proofs
/-! ### What fits has parts that fit -/
/-- Its bytes are told. -/
def BOk (a : Val) : Prop := ∀ (c : List V) (σ : St), weight a ≤ 4294967296 → ValC a c → ∃ r σ', Does Try.prog prims 52 [.agg c] σ (.ret r) σ' ∧ Keep σ σ' ∧ BtsV r (putV a)
def I61 (σ0 : St) (m : Nat) (bs : List UInt8) (l : List Val) : Nat → (Nat → V) → St → Prop := fun i e σ => e 51 = .int .i64 i ∧ i ≤ l.length ∧ OwnV 5 m σ (e 3) (bs ++ putL (l.take i)) ∧ Keep σ0 σ
/-- What Encode answers. -/
def encS (s : List UInt8) (v : Val) : List UInt8 × Int := if fitsS s v then (putV v, 0) else ([], 1)
theorem fitsS_ty {s : List UInt8} {v : Val} (h : fitsS s v = true) : ∃ T, s = tyB T ∧ tyD T ≤ 4 ∧ weight v ≤ 16384 ∧ fitsT T v = true := by
  unfold fitsS at h
  split at h
  · rename_i T hT
    simp only [Bool.and_eq_true, decide_eq_true_eq] at h
    obtain ⟨h1, h2⟩ := tyS_iff.1 hT
    exact ⟨T, h1, h2, by omega, h.2⟩
  · cases h
theorem encode_does {s : List UInt8} {v : Val} {c : List V} (hl : s.length ≤ 4294967296) (σ : St) (hwt : weight v ≤ 4294967296) (ha : ValC v c) : ∃ r σ', Does Try.prog prims 29 [.agg c, .str s] σ (.ret (.tuple [r, .int .i64 (encS s v).2])) σ' ∧ Keep σ σ' ∧ BtsV r (encS s v).1 := by
  have key : ∃ q σ', Does Try.prog prims 29 [.agg c, .str s] σ q σ' ∧ ∃ r, q = .ret (.tuple [r, .int .i64 (encS s v).2]) ∧ Keep σ σ' ∧ BtsV r (encS s v).1 := by
    apply k29_is.does (by simp)
    obtain ⟨s1, hs1⟩ : ∃ s1 : St, s1 = ⟨σ.objs ++ [Ob.cells c], σ.toks⟩ := ⟨_, rfl⟩
    have k1 : Keep σ s1 := by rw [hs1]; exact (Keep.refl σ).push _
    have q1 : IsV s1 σ.objs.length c := by rw [hs1]; exact push_new _ _
    obtain ⟨s2, d2, k2⟩ := vfits_does hl s1 hwt ha
    have q2 := k2.atV q1
    simp only [k29_a, WK, vop, evAll, evOpt, evParts, vbuiltin, vun, vextract, Nat.reduceLT, Nat.reduceEqDiff, ↓reduceIte, reduceCtorEq, Nat.reduceAdd, Int.reduceLT, Int.reduceNeg, valloc_std, noSB, vhot, vbox, vcells, ← hs1, q1.load ha.len, ofVal_nil]
    refine KD.ret d2 ?_
    unfold encS
    cases h : fitsS s v with
    | false =>
      simp only [k29_a, WK, vop, evAll, evOpt, evParts, vbuiltin, vun, vextract, Nat.reduceLT, Nat.reduceEqDiff, ↓reduceIte, reduceCtorEq, Nat.reduceAdd, Int.reduceLT, Int.reduceNeg, valloc_std, noSB, vhot, ofVal_nil]
      exact ⟨_, rfl, k1.trans k2, BtsV.nil⟩
    | true =>
      obtain ⟨r, s3, d3, k3, o3⟩ := vput_does s2 hwt ha BtsV.nil (by simp)
      simp only [k29_a, WK, vop, evAll, evOpt, evParts, vbuiltin, vun, vextract, Nat.reduceLT, Nat.reduceEqDiff, ↓reduceIte, reduceCtorEq, Nat.reduceAdd, Int.reduceLT, Int.reduceNeg, valloc_std, noSB, vhot, ofVal_nil, q2.load ha.len]
      refine KD.ret d3 ?_
      simp only [k29_a, WK, vop, evAll, evOpt, evParts, vbuiltin, vun, vextract, Nat.reduceLT, Nat.reduceEqDiff, ↓reduceIte, reduceCtorEq, Nat.reduceAdd, Int.reduceLT, Int.reduceNeg, valloc_std, noSB, vhot]
      exact ⟨_, rfl, (k1.trans k2).trans k3, o3⟩
  obtain ⟨q, σ', h1, r, rfl, h3, h4⟩ := key
  exact ⟨r, σ', h1, h3, h4⟩
end Go.Proofs.Ytplhelapcpcncaa.Q

set_option linter.unusedVariables false
set_option linter.unusedSimpArgs false
set_option maxRecDepth 100000
namespace Go.Proofs.Ytplhelapcpcncaa.Q
open Go Go.RowKit Go.Proofs
def typesL : List (List UInt8) := [[105, 110, 116], [98, 111, 111, 108], [116, 101, 120, 116], [91, 105, 110, 116, 93], [123, 105, 110, 116, 58, 105, 110, 116, 125]]
def listV : Val → List Val
  | .mk _ _ _ l => l
def typeC (v : Val) : List UInt8 := if listV v = [] then (typesL.find? (fun s => fitsS s v)).getD [] else []
theorem SlS : Try.prog.underlying 49 = some (.slice 9) := by kernel_rfl
theorem SS9 : sizeT Try.prog 9 = some 1 := by kernel_rfl
theorem SG9 : isAggT Try.prog 9 = some false := by kernel_rfl
theorem TB5 : vbuildSlice Try.prog 49 5 [(0, .str [105, 110, 116]), (1, .str [98, 111, 111, 108]), (2, .str [116, 101, 120, 116]), (3, .str [91, 105, 110, 116, 93]), (4, .str [123, 105, 110, 116, 58, 105, 110, 116, 125])] = some (.slice .exact 1 (typesL.map V.str) 5) := by kernel_rfl
theorem ofVal_t1 : ofVal (.string (ByteArray.mk #[105, 110, 116])) = some (.str [105, 110, 116]) := rfl
theorem ofVal_t2 : ofVal (.string (ByteArray.mk #[98, 111, 111, 108])) = some (.str [98, 111, 111, 108]) := rfl
theorem ofVal_t3 : ofVal (.string (ByteArray.mk #[116, 101, 120, 116])) = some (.str [116, 101, 120, 116]) := rfl
theorem ofVal_t4 : ofVal (.string (ByteArray.mk #[91, 105, 110, 116, 93])) = some (.str [91, 105, 110, 116, 93]) := rfl
theorem ofVal_t5 : ofVal (.string (ByteArray.mk #[123, 105, 110, 116, 58, 105, 110, 116, 125])) = some (.str [123, 105, 110, 116, 58, 105, 110, 116, 125]) := rfl
theorem ofVal_t0 : ofVal (.string (ByteArray.mk #[])) = some (.str []) := rfl
theorem typ_at {i : Nat} (h : i < 5) : vindexAddr Try.prog 49 (.slice .exact 1 (typesL.map V.str) 5) (.int .i64 (i : Int)) = some (.eptr (typesL.map V.str) i) := by
  have h' : (i : Int) < 5 := by omega
  simp [vindexAddr, SlS, SS9, h', typesL]
theorem typ_load {i : Nat} (h : i < 5) (objs : List Ob) : vload Try.prog objs 9 (.eptr (typesL.map V.str) i) = some (.str (typesL[i]'h)) := by
  simp [vload, vcellsAt, vpart, SG9, List.getElem?_eq_getElem (show i < typesL.length from h)]
  rfl
theorem typ_len {i : Nat} (h : i < 5) : (typesL[i]'h).length ≤ 100 ∧ typesL[i]'h ≠ [] := by
  have : ∀ m ∈ typesL, m.length ≤ 100 ∧ m ≠ [] := by decide
  exact this _ (List.getElem_mem _)
theorem VF3 (r o : Nat) : vfieldAddr Try.prog 29 (.optr r o) 3 = some (.optr r (o + 3)) := by kernel_rfl
theorem VGA : isAggT Try.prog 29 = some true := by kernel_rfl
theorem find_drop {p : List UInt8 → Bool} {l : List (List UInt8)} {i : Nat} (h : i < l.length) (hp : p l[i] = false) : (l.drop i).find? p = (l.drop (i + 1)).find? p := by
  rw [List.drop_eq_getElem_cons h, List.find?_cons_of_neg (by simp [hp])]
theorem ctype_does {σ : St} {v : Val} {c : List V} (hw : weight v ≤ 4294967296) (ha : ValC v c) : ∃ σ', Does Try.prog prims 10 [.agg c] σ (.ret (.str (typeC v))) σ' ∧ Keep σ σ' := by
  have key : ∃ q σ', Does Try.prog prims 10 [.agg c] σ q σ' ∧ q = .ret (.str (typeC v)) ∧ Keep σ σ' := by
    apply k10_is.does (by simp)
    obtain ⟨k, n, t, l, w, rfl, hc, hl, _⟩ := ha.inv
    obtain ⟨s1, hs1⟩ : ∃ s1 : St, s1 = ⟨σ.objs ++ [Ob.cells c], σ.toks⟩ := ⟨_, rfl⟩
    have k1 : Keep σ s1 := by rw [hs1]; exact (Keep.refl σ).push _
    have o1 : s1.objs[σ.objs.length]? = some (.cells c) := by rw [hs1]; exact push_new _ _
    simp only [k10_a, WK, vop, evAll, evOpt, evParts, vbuiltin, vun, vextract, Nat.reduceLT, Nat.reduceEqDiff, ↓reduceIte, reduceCtorEq, Nat.reduceAdd, Int.reduceLT, Int.reduceNeg, valloc_std, noSB, vhot, vbox, vcells, ← hs1, ofVal_t0, ofVal_t1, ofVal_t2, ofVal_t3, ofVal_t4, ofVal_t5, TB5, (show vlen Try.prog 49 (.slice .exact 1 (typesL.map V.str) 5) = some (.int .i64 5) from by simp [vlen, SlS])]
    refine Ev.loopF (fun (i : Nat) e σ' => e 7 = .int .i64 (i : Nat) ∧ i ≤ 5 ∧ Keep s1 σ' ∧ typeC (.mk k n t l) = if l = [] then ((typesL.drop i).find? (fun s => fitsS s (.mk k n t l))).getD [] else []) (fun i => 5 - i) 0 ⟨by simp [upd_some], Nat.zero_le _, Keep.refl _, rfl⟩ ?_
    rintro i e σ' ⟨h7, hi, hk, hT⟩ hf
    have h1 : e 1 = .optr σ.objs.length 0 := (hf 1 (by decide)).trans (by simp [upd_some])
    have h5 : e 5 = .slice .exact 1 (typesL.map V.str) 5 := (hf 5 (by decide)).trans (by simp [upd_some])
    have h6 : e 6 = .int .i64 5 := (hf 6 (by decide)).trans (by simp [upd_some])
    clear hf
    have o2 := hk.1 _ _ o1
    have ldl : vload Try.prog σ'.objs 22 (.optr σ.objs.length 3) = some w := by rw [vload_obj o2 VsG, hc]; rfl
    have ldv : vload Try.prog σ'.objs 29 (.optr σ.objs.length 0) = some (.agg c) := vload_agg o2 VGA (by rw [ha.len]; exact VS24)
    by_cases hlt : i < 5
    · have hlt' : (i : Int) < 5 := by omega
      have hwi : IntKind.i64.wrap ((i : Int) + 1) = ((i + 1 : Nat) : Int) := by rw [show ((i : Int) + 1) = ((i + 1 : Nat) : Int) from by omega]; exact wrap_nat (by omega)
      by_cases hnl : l = []
      · have hl0 : ((l.length : Nat) : Int) = 0 := by rw [hnl]; rfl
        have hl0' : (((l.length : Nat) : Int) = 0) = True := eq_true hl0
        obtain ⟨s2, d2, k2⟩ := vfits_does (s := typesL[i]'hlt) (by have := (typ_len hlt).1; omega) σ' hw ha
        simp only [k10_a, WK, vop, evAll, evOpt, evParts, vbuiltin, vun, vextract, Nat.reduceLT, Nat.reduceEqDiff, ↓reduceIte, reduceCtorEq, Nat.reduceAdd, Int.reduceLT, Int.reduceNeg, valloc_std, noSB, vhot, h1, h5, h6, h7, hlt', typ_at hlt, typ_load hlt, VF3, ldl, hl.len, hl0', ldv]
        refine KD.ret d2 ?_
        cases hb : fitsS (typesL[i]'hlt) (.mk k n t l) with
        | true =>
          simp only [k10_a, WK, vop, evAll, evOpt, evParts, vbuiltin, vun, vextract, Nat.reduceLT, Nat.reduceEqDiff, ↓reduceIte, reduceCtorEq, Nat.reduceAdd, Int.reduceLT, Int.reduceNeg, valloc_std, noSB, vhot]
          refine ⟨?_, (k1.trans hk).trans k2⟩
          rw [hT, if_pos hnl, List.drop_eq_getElem_cons (show i < typesL.length from hlt), List.find?_cons_of_pos (by exact hb)]
          rfl
        | false =>
          simp only [k10_a, WK, vop, evAll, evOpt, evParts, vbuiltin, vun, vextract, Nat.reduceLT, Nat.reduceEqDiff, ↓reduceIte, reduceCtorEq, Nat.reduceAdd, Int.reduceLT, Int.reduceNeg, valloc_std, noSB, vhot, h7, hwi]
          refine ⟨i + 1, ⟨by simp [upd_some], by omega, hk.trans k2, ?_⟩, by omega⟩
          rw [hT, find_drop (show i < typesL.length from hlt) hb]
      · have hl0' : (((l.length : Nat) : Int) = 0) = False := eq_false (fun h => hnl (List.length_eq_zero_iff.1 (by omega)))
        simp only [k10_a, WK, vop, evAll, evOpt, evParts, vbuiltin, vun, vextract, Nat.reduceLT, Nat.reduceEqDiff, ↓reduceIte, reduceCtorEq, Nat.reduceAdd, Int.reduceLT, Int.reduceNeg, valloc_std, noSB, vhot, h1, h5, h6, h7, hlt', typ_at hlt, typ_load hlt, VF3, ldl, hl.len, hl0', hwi]
        exact ⟨i + 1, ⟨by simp [upd_some], by omega, hk, by rw [hT, if_neg hnl, if_neg hnl]⟩, by omega⟩
    · have hlt' : ¬ (i : Int) < 5 := by omega
      simp only [k10_a, WK, vop, evAll, evOpt, evParts, vbuiltin, vun, vextract, Nat.reduceLT, Nat.reduceEqDiff, ↓reduceIte, reduceCtorEq, Nat.reduceAdd, Int.reduceLT, Int.reduceNeg, valloc_std, noSB, vhot, h6, h7, hlt', ofVal_t0]
      refine ⟨?_, k1.trans hk⟩
      rw [hT, show i = 5 by omega]
      split <;> rfl
  obtain ⟨q, σ', h1, rfl, h2⟩ := key
  exact ⟨σ', h1, h2⟩
end Go.Proofs.Ytplhelapcpcncaa.Q

set_option linter.unusedVariables false
set_option linter.unusedSimpArgs false
set_option maxRecDepth 100000
namespace Go.Proofs.Ytplhelapcpcncaa.Q
open Go Go.RowKit Go.Proofs
end Go.Proofs.Ytplhelapcpcncaa.Q

/- Written rows of numbers and of truths. -/
set_option linter.unusedVariables false
set_option linter.unusedSimpArgs false
set_option maxRecDepth 100000
namespace Go.Proofs.Ytplhelapcpcncaa.Q
open Go Go.RowKit Go.Proofs
/-- v is the front of object r, that has these numbers there. -/
def HI (σ : St) (v : V) (r : Nat) (xs : List Int) : Prop := v = .hslice r 0 1 xs.length ∧ ∃ cs, σ.objs[r]? = some (.cells cs) ∧ xs.length ≤ cs.length ∧ cs.take xs.length = xs.map i64V ∧ cs.all one = true
theorem HI.keepX {σ σ' : St} {v : V} {r q : Nat} {xs : List Int} (h : HI σ v r xs) (hk : KeepX q σ σ') (hne : r ≠ q) : HI σ' v r xs := let ⟨h1, cs, h2, h3⟩ := h; ⟨h1, cs, hk.1 _ _ hne h2, h3⟩
theorem HI.keep {σ σ' : St} {v : V} {r : Nat} {xs : List Int} (h : HI σ v r xs) (hk : Keep σ σ') : HI σ' v r xs := let ⟨h1, cs, h2, h3⟩ := h; ⟨h1, cs, hk.1 _ _ h2, h3⟩
theorem HI.lt {σ : St} {v : V} {r : Nat} {xs : List Int} (h : HI σ v r xs) : r < σ.objs.length := let ⟨_, cs, h2, _⟩ := h; (List.getElem?_eq_some_iff.1 h2).1
theorem IU : Try.prog.underlying 70 = some (.slice 3) := by kernel_rfl
theorem IB : (Try.prog.info? 3).map (·.bytes) = some 8 := by kernel_rfl
theorem IZ : zeroT Try.prog 3 = some (.int .i64 0) := by kernel_rfl
theorem HI.len {σ : St} {v : V} {r : Nat} {xs : List Int} (h : HI σ v r xs) : vlen Try.prog 70 v = some (.int .i64 (xs.length : Nat)) := by
  rw [h.1]; simp [vlen, IU]
theorem HI.addr {σ : St} {v : V} {r : Nat} {xs : List Int} (h : HI σ v r xs) {i : Nat} (hi : i < xs.length) : vindexAddr Try.prog 70 v (.int .i64 (i : Int)) = some (.optr r i) := by
  have hi' : (i : Int) < xs.length := by omega
  rw [h.1]; simp [vindexAddr, IU, S3, hi']
theorem HI.load {σ : St} {v : V} {r : Nat} {xs : List Int} (h : HI σ v r xs) {i : Nat} (hi : i < xs.length) : vload Try.prog σ.objs 3 (.optr r i) = some (.int .i64 xs[i]) := by
  obtain ⟨_, cs, h2, h3, h4, _⟩ := h
  rw [vload_obj h2 G3]
  have := congrArg (·[i]?) h4
  simp only [List.getElem?_take_of_lt hi, List.getElem?_map, List.getElem?_eq_getElem hi] at this
  simpa [i64V] using this
theorem HI.set {σ : St} {v : V} {r : Nat} {xs : List Int} (h : HI σ v r xs) {i : Nat} (hi : i < xs.length) (x : Int) : ∃ σ', vstore Try.prog σ 3 (.optr r i) (.int .i64 x) = some σ' ∧ HI σ' v r (xs.set i x) ∧ KeepX r σ σ' ∧ σ'.objs.length = σ.objs.length := by
  obtain ⟨h1, cs, h2, h3, h4, h5⟩ := h
  obtain ⟨σ', hs⟩ : ∃ σ' : St, σ' = ⟨σ.objs.set r (.cells (cs.set i (.int .i64 x))), σ.toks⟩ := ⟨_, rfl⟩
  obtain ⟨k, hk⟩ := KeepX.set_eq h2 hs
  refine ⟨σ', by rw [vstore_obj h2 S3 rfl (by omega), hs], ⟨by rw [List.length_set]; exact h1, _, hk, by rw [List.length_set, List.length_set]; exact h3, ?_, ?_⟩, k, by rw [hs]; simp⟩
  · rw [List.length_set, List.take_set, h4, List.map_set]; rfl
  · rw [List.all_eq_true] at h5 ⊢
    intro y hy
    rcases List.mem_or_eq_of_mem_set hy with h6 | rfl
    · exact h5 y h6
    · rfl
/-- Such a row is made. -/
theorem HI.make (σ : St) {n : Nat} (hn : n ≤ 1000000) : ∃ v σ', vmakeRow Try.prog σ 70 (.int .i64 (n : Int)) (.int .i64 (n : Int)) = some (v, σ') ∧ HI σ' v σ.objs.length (List.replicate n 0) ∧ Keep σ σ' ∧ σ'.objs.length = σ.objs.length + 1 := by
  have hz : zeroCellsV [V.int .i64 0] n = (List.replicate n (0 : Int)).map i64V := by
    apply List.ext_getElem?
    intro i
    simp only [zeroCellsV, List.getElem?_map, List.getElem?_range', List.getElem?_replicate]
    by_cases h : i < n
    · simp [h, i64V, Nat.mod_one]
    · simp [h]
  refine ⟨.hslice σ.objs.length 0 1 n, ⟨σ.objs ++ [.cells ((List.replicate n (0 : Int)).map i64V)], σ.toks⟩, ?_, ⟨by rw [List.length_replicate], _, push_new _ _, by simp, List.take_of_length_le (by simp), ?_⟩, (Keep.refl σ).push _, by simp⟩
  · have h1 : 8 * n ≤ 140737488355328 := by omega
    have h2 : (n : Int) ≤ 140737488355328 := by omega
    simp [vmakeRow, IU, IB, S3, IZ, vcells, h1, h2, hz]
  · rw [List.all_eq_true]
    intro y hy
    rw [List.mem_map] at hy
    obtain ⟨a, _, rfl⟩ := hy
    rfl
theorem HI.lit1 (σ : St) (x : Int) : ∃ σ', vbuildRow Try.prog σ 70 1 [(0, .int .i64 x)] = some (.hslice σ.objs.length 0 1 1, σ') ∧ HI σ' (.hslice σ.objs.length 0 1 1) σ.objs.length [x] ∧ Keep σ σ' ∧ σ'.objs.length = σ.objs.length + 1 := by
  refine ⟨⟨σ.objs ++ [.cells [.int .i64 x]], σ.toks⟩, ?_, ⟨rfl, _, push_new _ _, by simp, rfl, rfl⟩, (Keep.refl σ).push _, by simp⟩
  simp [vbuildRow, IU, S3, IZ, vcells, zeroCellsV, vfill, setAll]
theorem HI.front {σ : St} {v : V} {r : Nat} {xs : List Int} (h : HI σ v r xs) {n : Nat} (hn : n ≤ xs.length) (hl : xs.length ≤ 1000000000) : ∃ w, vslice Try.prog 70 v none (some (.int .i64 (n : Int))) none = some w ∧ HI σ w r (xs.take n) := by
  obtain ⟨h1, cs, h2, h3, h4, h5⟩ := h
  have hb : vbounds xs.length none (some (.int .i64 (n : Int))) none = some (0, n, none) := vbounds_hi (by omega) (by omega)
  refine ⟨.hslice r 0 1 n, by rw [h1]; simp [vslice, IU, S3, hb], by rw [List.length_take, Nat.min_eq_left hn], cs, h2, by rw [List.length_take]; omega, ?_, h5⟩
  rw [List.length_take, Nat.min_eq_left hn, List.map_take, ← h4, List.take_take, Nat.min_eq_left hn]
theorem HI.append {σ : St} {v y : V} {r q : Nat} {xs : List Int} {x : Int} (h : HI σ v r xs) (hy : HI σ y q [x]) (hl : xs.length ≤ 1000000000) :
    ∃ v' σ', vappendRow Try.prog σ 70 70 v y = some (v', σ') ∧ HI σ' v' σ.objs.length (xs ++ [x]) ∧ KeepX r σ σ' ∧ σ'.objs.length = σ.objs.length + 1 := by
  obtain ⟨h1, cs, h2, h3, h4, h5⟩ := h
  obtain ⟨g1, ds, g2, g3, g4, g5⟩ := hy
  have hn : vnewsO Try.prog σ.objs 70 y 1 = some ([.int .i64 x], 1) := by
    rw [g1]
    have g3' : 1 ≤ ds.length := g3
    have g4' : ds.take 1 = [.int .i64 x] := g4
    simp [vnewsO, vnews, IU, g2, g3', g4']
  refine ⟨.hslice σ.objs.length 0 1 (xs.length + 1), ⟨σ.objs.set r .dead ++ [.cells (xs.map i64V ++ [.int .i64 x])], σ.toks⟩, ?_, ⟨by simp, xs.map i64V ++ [.int .i64 x], ?_, by simp, ?_, ?_⟩, ⟨fun p o hp ho => ?_, Nat.le_refl _, fun _ h => h⟩, by simp⟩
  · rw [h1]
    have e1 : xs.length + 1 ≤ 140737488355328 := by omega
    have e2 : (xs.length + 1) * 8 ≤ 140737488355328 := by omega
    simp [vappendRow, IU, IB, S3, IZ, vcells, hn, h2, e1, e2, h3, h4, one]
  · have := push_new (σ.objs.set r .dead) (Ob.cells (xs.map i64V ++ [.int .i64 x]))
    rwa [List.length_set] at this
  · rw [List.take_of_length_le (by simp)]; simp [i64V]
  · rw [List.all_append, Bool.and_eq_true]
    refine ⟨?_, rfl⟩
    rw [List.all_eq_true]
    intro z hz
    rw [List.mem_map] at hz
    obtain ⟨a, _, rfl⟩ := hz
    rfl
  · have hql : p < σ.objs.length := (List.getElem?_eq_some_iff.1 ho).1
    simp only
    rw [List.getElem?_append_left (by rw [List.length_set]; exact hql), List.getElem?_set_ne (Ne.symm hp)]
    exact ho
end Go.Proofs.Ytplhelapcpcncaa.Q

