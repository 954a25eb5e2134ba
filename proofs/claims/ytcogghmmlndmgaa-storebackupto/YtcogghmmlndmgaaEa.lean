import Derived.Test.YtcogghmmlndmgaaTq
import Derived.Test.YtcogghmmlndmgaaQr
set_option linter.unusedVariables false
set_option linter.unusedSimpArgs false
namespace Go.Proofs.Ytcogghmmlndmgaa.Q
open Go Go.RowKit Go.Proofs

/-- An entry. -/
structure Ent where
  kind : Int
  ver : Int
  cli : Int
  seq : Int
  data : List UInt8
  deriving DecidableEq
def entCells (e : Ent) : List V := [.int .i64 e.kind, .int .i64 e.ver, .int .i64 e.cli, .int .i64 e.seq, .str e.data]
def Ent.In (e : Ent) : Prop := InI64 e.kind ∧ InI64 e.ver ∧ InI64 e.cli ∧ InI64 e.seq
def entOk (e : Ent) : Bool := decide ((1 : Int) ≤ e.kind ∧ e.kind ≤ 3 ∧ (0 : Int) ≤ e.ver ∧ (0 : Int) ≤ e.cli ∧ (0 : Int) ≤ e.seq ∧ (e.data.length : Int) ≤ 16384)
theorem entC0 {e : Ent} : (entCells e)[0]? = some (.int .i64 e.kind) := rfl
theorem entC1 {e : Ent} : (entCells e)[1]? = some (.int .i64 e.ver) := rfl
theorem entC2 {e : Ent} : (entCells e)[2]? = some (.int .i64 e.cli) := rfl
theorem entC3 {e : Ent} : (entCells e)[3]? = some (.int .i64 e.seq) := rfl
theorem entC4 {e : Ent} : (entCells e)[4]? = some (.str e.data) := rfl
theorem entCells_len (e : Ent) : (entCells e).length = 5 := rfl

theorem FE0 (r n : Nat) : vfieldAddr Try.prog 64 (.optr r n) 0 = some (.optr r n) := by kernel_rfl
theorem FE1 (r n : Nat) : vfieldAddr Try.prog 64 (.optr r n) 1 = some (.optr r (n + 1)) := by kernel_rfl
theorem FE2 (r n : Nat) : vfieldAddr Try.prog 64 (.optr r n) 2 = some (.optr r (n + 2)) := by kernel_rfl
theorem FE3 (r n : Nat) : vfieldAddr Try.prog 64 (.optr r n) 3 = some (.optr r (n + 3)) := by kernel_rfl
theorem FE4 (r n : Nat) : vfieldAddr Try.prog 64 (.optr r n) 4 = some (.optr r (n + 4)) := by kernel_rfl
theorem T9 : Try.prog.underlying 9 = some .string := by kernel_rfl
theorem G9 : isAggT Try.prog 9 = some false := by kernel_rfl
theorem S9 : sizeT Try.prog 9 = some 1 := by kernel_rfl
theorem G64 : isAggT Try.prog 64 = some true := by kernel_rfl
theorem S64 : sizeT Try.prog 64 = some 5 := by kernel_rfl
theorem vlen_str {t : TypeId} {s : List UInt8} (ht : Try.prog.underlying t = some .string) : vlen Try.prog t (.str s) = some (.int .i64 s.length) := by
  simp [vlen, ht]

theorem valid_does (e : Ent) (σ : St) : ∃ σ', Does Try.prog noPrim 47 [.agg (entCells e)] σ (.ret (.bool (entOk e))) σ' ∧ Keep σ σ' := by
  have key : ∃ q σ', Does Try.prog noPrim 47 [.agg (entCells e)] σ q σ' ∧ q = .ret (.bool (entOk e)) ∧ Keep σ σ' := by
    apply k47_is.does (by simp)
    have ho := push_new σ.objs (.cells (entCells e))
    have l1 := fun off => vload_obj (off := off) ho G3
    have l2 := fun off => vload_obj (off := off) ho G9
    rcases (by omega : (¬ ((1 : Int) ≤ e.kind) ∨ ((1 : Int) ≤ e.kind) ∧ ¬ (e.kind ≤ 3) ∨ ((1 : Int) ≤ e.kind) ∧ (e.kind ≤ 3) ∧ ¬ ((0 : Int) ≤ e.ver) ∨ ((1 : Int) ≤ e.kind) ∧ (e.kind ≤ 3) ∧ ((0 : Int) ≤ e.ver) ∧ ¬ ((0 : Int) ≤ e.cli) ∨ ((1 : Int) ≤ e.kind) ∧ (e.kind ≤ 3) ∧ ((0 : Int) ≤ e.ver) ∧ ((0 : Int) ≤ e.cli) ∧ ¬ ((0 : Int) ≤ e.seq) ∨ ((1 : Int) ≤ e.kind) ∧ (e.kind ≤ 3) ∧ ((0 : Int) ≤ e.ver) ∧ ((0 : Int) ≤ e.cli) ∧ ((0 : Int) ≤ e.seq) ∧ ¬ ((e.data.length : Int) ≤ 16384) ∨ ((1 : Int) ≤ e.kind) ∧ (e.kind ≤ 3) ∧ ((0 : Int) ≤ e.ver) ∧ ((0 : Int) ≤ e.cli) ∧ ((0 : Int) ≤ e.seq) ∧ ((e.data.length : Int) ≤ 16384))) with h | h | h | h | h | h | h <;>
      simp only [k47_r0_e, k47_r1_e, k47_e, WK0, WK1, WK2, WK3, WK4, WK5, true_implies, vop, evAll, evOpt, evParts, vbuiltin, vun, vextract, Option.map_some, Option.map_none, Nat.reduceLT, Nat.reduceEqDiff, ↓reduceIte, reduceCtorEq, Nat.reduceAdd, Int.reduceLT, Int.reduceNeg, decide_true, decide_false, Bool.not_true, Bool.not_false, ne_eq, not_true_eq_false, not_false_eq_true, List.append_nil, Bool.false_eq_true, List.getElem?_cons_zero, List.getElem?_cons_succ, and_self, and_true, true_and, List.getD_cons_zero, vbox, vcells, FE0, FE1, FE2, FE3, FE4, l1, l2, entC0, entC1, entC2, entC3, entC4, vlen_str T9, h, entOk] <;>
      first | exact ⟨rfl, (Keep.refl σ).push _⟩ | exact (Keep.refl σ).push _
  obtain ⟨q, σ', h1, rfl, h3⟩ := key
  exact ⟨σ', h1, h3⟩

theorem refvalid_does (e : Ent) (σ : St) : ∃ σ', Does Try.prog noPrim 60 [.agg (entCells e)] σ (.ret (.bool (entOk e))) σ' ∧ Keep σ σ' := by
  have key : ∃ q σ', Does Try.prog noPrim 60 [.agg (entCells e)] σ q σ' ∧ q = .ret (.bool (entOk e)) ∧ Keep σ σ' := by
    apply k60_is.does (by simp)
    have ho := push_new σ.objs (.cells (entCells e))
    have l1 := fun off => vload_obj (off := off) ho G3
    have l2 := fun off => vload_obj (off := off) ho G9
    have he : entOk e = decide ((0 : Int) < e.kind ∧ e.kind < 4 ∧ (0 : Int) ≤ e.ver ∧ (0 : Int) ≤ e.cli ∧ (0 : Int) ≤ e.seq ∧ (e.data.length : Int) ≤ 16384) := by
      unfold entOk
      rw [decide_eq_decide]
      omega
    rcases (by omega : (¬ ((0 : Int) < e.kind) ∨ ((0 : Int) < e.kind) ∧ ¬ (e.kind < 4) ∨ ((0 : Int) < e.kind) ∧ (e.kind < 4) ∧ ¬ ((0 : Int) ≤ e.ver) ∨ ((0 : Int) < e.kind) ∧ (e.kind < 4) ∧ ((0 : Int) ≤ e.ver) ∧ ¬ ((0 : Int) ≤ e.cli) ∨ ((0 : Int) < e.kind) ∧ (e.kind < 4) ∧ ((0 : Int) ≤ e.ver) ∧ ((0 : Int) ≤ e.cli) ∧ ¬ ((0 : Int) ≤ e.seq) ∨ ((0 : Int) < e.kind) ∧ (e.kind < 4) ∧ ((0 : Int) ≤ e.ver) ∧ ((0 : Int) ≤ e.cli) ∧ ((0 : Int) ≤ e.seq) ∧ ¬ ((e.data.length : Int) ≤ 16384) ∨ ((0 : Int) < e.kind) ∧ (e.kind < 4) ∧ ((0 : Int) ≤ e.ver) ∧ ((0 : Int) ≤ e.cli) ∧ ((0 : Int) ≤ e.seq) ∧ ((e.data.length : Int) ≤ 16384))) with h | h | h | h | h | h | h <;>
      simp only [k60_r0_e, k60_r1_e, k60_e, WK0, WK1, WK2, WK3, WK4, WK5, true_implies, vop, evAll, evOpt, evParts, vbuiltin, vun, vextract, Option.map_some, Option.map_none, Nat.reduceLT, Nat.reduceEqDiff, ↓reduceIte, reduceCtorEq, Nat.reduceAdd, Int.reduceLT, Int.reduceNeg, decide_true, decide_false, Bool.not_true, Bool.not_false, ne_eq, not_true_eq_false, not_false_eq_true, List.append_nil, Bool.false_eq_true, List.getElem?_cons_zero, List.getElem?_cons_succ, and_self, and_true, true_and, List.getD_cons_zero, vbox, vcells, FE0, FE1, FE2, FE3, FE4, l1, l2, entC0, entC1, entC2, entC3, entC4, vlen_str T9, h, he] <;>
      first | exact ⟨rfl, (Keep.refl σ).push _⟩ | exact (Keep.refl σ).push _
  obtain ⟨q, σ', h1, rfl, h3⟩ := key
  exact ⟨σ', h1, h3⟩

/-- A number and so many bytes. -/
def runS (s : List UInt8) : List UInt8 := putN s.length ++ s

theorem putN_nat_len {n : Nat} (h : n < 2 ^ 63) : (putN n).length ≤ 9 := putN_len n 8 (by omega)
theorem InI64.nat {n : Nat} (h : n < 2 ^ 63) : InI64 (n : Int) := by unfold InI64; omega

theorem run_does {v : V} {bs : List UInt8} (hv : BtsV v bs) (s : List UInt8) (hl : bs.length + s.length ≤ 140737488000000) (σ : St) :
    ∃ r σ', Does Try.prog noPrim 65 [v, .str s] σ (.ret r) σ' ∧ Keep σ σ' ∧ OwnV 5 σ.toks.length σ' r (bs ++ runS s) := by
  have key : ∃ r σ', Does Try.prog noPrim 65 [v, .str s] σ r σ' ∧ ∃ r', r = .ret r' ∧ Keep σ σ' ∧ OwnV 5 σ.toks.length σ' r' (bs ++ runS s) := by
    apply k65_is.does (by simp)
    have hI : InI64 (s.length : Int) := InI64.nat (by omega)
    have hb := buildInt IT hI
    obtain ⟨r, σ1, hd, hk, ho⟩ := put_does hv hb.2 (by simp; omega) σ
    have hp : putS [(s.length : Int)] = putN s.length := by simp [putS]
    rw [hp] at ho
    obtain ⟨v', σ2, ha, ho2, hk2, _⟩ := ho.appendS BT rfl hk T9 (ys := s) (by have := putN_nat_len (n := s.length) (by omega); simp; omega)
    simp only [k65_r0_e, k65_r1_e, k65_e, WK0, WK1, WK2, WK3, WK4, WK5, true_implies, vop, evAll, evOpt, evParts, vbuiltin, vun, vextract, Option.map_some, Option.map_none, Nat.reduceLT, Nat.reduceEqDiff, ↓reduceIte, reduceCtorEq, Nat.reduceAdd, Int.reduceLT, Int.reduceNeg, decide_true, decide_false, Bool.not_true, Bool.not_false, ne_eq, not_true_eq_false, not_false_eq_true, List.append_nil, Bool.false_eq_true, List.getElem?_cons_zero, List.getElem?_cons_succ, and_self, and_true, true_and, List.getD_cons_zero, List.getD_cons_succ, vlen_str T9, hb.1]
    refine KD.ret hd ?_
    simp only [k65_r0_e, k65_r1_e, k65_e, WK0, WK1, WK2, WK3, WK4, WK5, true_implies, vop, evAll, evOpt, evParts, vbuiltin, vun, vextract, Option.map_some, Option.map_none, Nat.reduceLT, Nat.reduceEqDiff, ↓reduceIte, reduceCtorEq, Nat.reduceAdd, Int.reduceLT, Int.reduceNeg, decide_true, decide_false, Bool.not_true, Bool.not_false, ne_eq, not_true_eq_false, not_false_eq_true, List.append_nil, Bool.false_eq_true, List.getElem?_cons_zero, List.getElem?_cons_succ, and_self, and_true, true_and, List.getD_cons_zero, List.getD_cons_succ, ha]
    refine ⟨_, rfl, hk2, ?_⟩
    rw [List.append_assoc] at ho2
    exact ho2
  obtain ⟨q, σ', h1, r, rfl, h3⟩ := key
  exact ⟨r, σ', h1, h3⟩

theorem run21_does {v : V} {bs : List UInt8} (hv : BtsV v bs) (s : List UInt8) (hl : bs.length + s.length ≤ 140737488000000) (σ : St) :
    ∃ r σ', Does Try.prog noPrim 43 [v, .str s] σ (.ret r) σ' ∧ Keep σ σ' ∧ OwnV 5 σ.toks.length σ' r (bs ++ runS s) := by
  have key : ∃ r σ', Does Try.prog noPrim 43 [v, .str s] σ r σ' ∧ ∃ r', r = .ret r' ∧ Keep σ σ' ∧ OwnV 5 σ.toks.length σ' r' (bs ++ runS s) := by
    apply k43_is.does (by simp)
    have hI : InI64 (s.length : Int) := InI64.nat (by omega)
    have hb := buildInt IT hI
    obtain ⟨r, σ1, hd, hk, ho⟩ := put_does hv hb.2 (by simp; omega) σ
    have hp : putS [(s.length : Int)] = putN s.length := by simp [putS]
    rw [hp] at ho
    obtain ⟨v', σ2, ha, ho2, hk2, _⟩ := ho.appendS BT rfl hk T9 (ys := s) (by have := putN_nat_len (n := s.length) (by omega); simp; omega)
    simp only [k43_r0_e, k43_r1_e, k43_e, WK0, WK1, WK2, WK3, WK4, WK5, true_implies, vop, evAll, evOpt, evParts, vbuiltin, vun, vextract, Option.map_some, Option.map_none, Nat.reduceLT, Nat.reduceEqDiff, ↓reduceIte, reduceCtorEq, Nat.reduceAdd, Int.reduceLT, Int.reduceNeg, decide_true, decide_false, Bool.not_true, Bool.not_false, ne_eq, not_true_eq_false, not_false_eq_true, List.append_nil, Bool.false_eq_true, List.getElem?_cons_zero, List.getElem?_cons_succ, and_self, and_true, true_and, List.getD_cons_zero, List.getD_cons_succ, vlen_str T9, hb.1]
    refine KD.ret hd ?_
    simp only [k43_r0_e, k43_r1_e, k43_e, WK0, WK1, WK2, WK3, WK4, WK5, true_implies, vop, evAll, evOpt, evParts, vbuiltin, vun, vextract, Option.map_some, Option.map_none, Nat.reduceLT, Nat.reduceEqDiff, ↓reduceIte, reduceCtorEq, Nat.reduceAdd, Int.reduceLT, Int.reduceNeg, decide_true, decide_false, Bool.not_true, Bool.not_false, ne_eq, not_true_eq_false, not_false_eq_true, List.append_nil, Bool.false_eq_true, List.getElem?_cons_zero, List.getElem?_cons_succ, and_self, and_true, true_and, List.getD_cons_zero, List.getD_cons_succ, ha]
    refine ⟨_, rfl, hk2, ?_⟩
    rw [List.append_assoc] at ho2
    exact ho2
  obtain ⟨q, σ', h1, r, rfl, h3⟩ := key
  exact ⟨r, σ', h1, h3⟩

theorem refrun18_does {v : V} {bs : List UInt8} (hv : BtsV v bs) (s : List UInt8) (hl : bs.length + s.length ≤ 140737488000000) (σ : St) :
    ∃ r σ', Does Try.prog noPrim 66 [v, .str s] σ (.ret r) σ' ∧ Keep σ σ' ∧ OwnV 5 σ.toks.length σ' r (bs ++ runS s) := by
  have key : ∃ r σ', Does Try.prog noPrim 66 [v, .str s] σ r σ' ∧ ∃ r', r = .ret r' ∧ Keep σ σ' ∧ OwnV 5 σ.toks.length σ' r' (bs ++ runS s) := by
    apply k66_is.does (by simp)
    have hI : InI64 (s.length : Int) := InI64.nat (by omega)
    obtain ⟨r, σ1, hd, hk, ho⟩ := refput_does hv hI (by omega) σ
    rw [Int.toNat_natCast] at ho
    obtain ⟨v', σ2, ha, ho2, hk2, _⟩ := ho.appendS BT rfl hk T9 (ys := s) (by have := putN_nat_len (n := s.length) (by omega); simp; omega)
    simp only [k66_r0_e, k66_r1_e, k66_e, WK0, WK1, WK2, WK3, WK4, WK5, true_implies, vop, evAll, evOpt, evParts, vbuiltin, vun, vextract, Option.map_some, Option.map_none, Nat.reduceLT, Nat.reduceEqDiff, ↓reduceIte, reduceCtorEq, Nat.reduceAdd, Int.reduceLT, Int.reduceNeg, decide_true, decide_false, Bool.not_true, Bool.not_false, ne_eq, not_true_eq_false, not_false_eq_true, List.append_nil, Bool.false_eq_true, List.getElem?_cons_zero, List.getElem?_cons_succ, and_self, and_true, true_and, List.getD_cons_zero, List.getD_cons_succ, vlen_str T9]
    refine KD.ret hd ?_
    simp only [k66_r0_e, k66_r1_e, k66_e, WK0, WK1, WK2, WK3, WK4, WK5, true_implies, vop, evAll, evOpt, evParts, vbuiltin, vun, vextract, Option.map_some, Option.map_none, Nat.reduceLT, Nat.reduceEqDiff, ↓reduceIte, reduceCtorEq, Nat.reduceAdd, Int.reduceLT, Int.reduceNeg, decide_true, decide_false, Bool.not_true, Bool.not_false, ne_eq, not_true_eq_false, not_false_eq_true, List.append_nil, Bool.false_eq_true, List.getElem?_cons_zero, List.getElem?_cons_succ, and_self, and_true, true_and, List.getD_cons_zero, List.getD_cons_succ, ha]
    refine ⟨_, rfl, hk2, ?_⟩
    rw [List.append_assoc] at ho2
    exact ho2
  obtain ⟨q, σ', h1, r, rfl, h3⟩ := key
  exact ⟨r, σ', h1, h3⟩

theorem refrun21_does {v : V} {bs : List UInt8} (hv : BtsV v bs) (s : List UInt8) (hl : bs.length + s.length ≤ 140737488000000) (σ : St) :
    ∃ r σ', Does Try.prog noPrim 50 [v, .str s] σ (.ret r) σ' ∧ Keep σ σ' ∧ OwnV 5 σ.toks.length σ' r (bs ++ runS s) := by
  have key : ∃ r σ', Does Try.prog noPrim 50 [v, .str s] σ r σ' ∧ ∃ r', r = .ret r' ∧ Keep σ σ' ∧ OwnV 5 σ.toks.length σ' r' (bs ++ runS s) := by
    apply k50_is.does (by simp)
    have hI : InI64 (s.length : Int) := InI64.nat (by omega)
    obtain ⟨r, σ1, hd, hk, ho⟩ := refput_does hv hI (by omega) σ
    rw [Int.toNat_natCast] at ho
    obtain ⟨v', σ2, ha, ho2, hk2, _⟩ := ho.appendS BT rfl hk T9 (ys := s) (by have := putN_nat_len (n := s.length) (by omega); simp; omega)
    simp only [k50_r0_e, k50_r1_e, k50_e, WK0, WK1, WK2, WK3, WK4, WK5, true_implies, vop, evAll, evOpt, evParts, vbuiltin, vun, vextract, Option.map_some, Option.map_none, Nat.reduceLT, Nat.reduceEqDiff, ↓reduceIte, reduceCtorEq, Nat.reduceAdd, Int.reduceLT, Int.reduceNeg, decide_true, decide_false, Bool.not_true, Bool.not_false, ne_eq, not_true_eq_false, not_false_eq_true, List.append_nil, Bool.false_eq_true, List.getElem?_cons_zero, List.getElem?_cons_succ, and_self, and_true, true_and, List.getD_cons_zero, List.getD_cons_succ, vlen_str T9]
    refine KD.ret hd ?_
    simp only [k50_r0_e, k50_r1_e, k50_e, WK0, WK1, WK2, WK3, WK4, WK5, true_implies, vop, evAll, evOpt, evParts, vbuiltin, vun, vextract, Option.map_some, Option.map_none, Nat.reduceLT, Nat.reduceEqDiff, ↓reduceIte, reduceCtorEq, Nat.reduceAdd, Int.reduceLT, Int.reduceNeg, decide_true, decide_false, Bool.not_true, Bool.not_false, ne_eq, not_true_eq_false, not_false_eq_true, List.append_nil, Bool.false_eq_true, List.getElem?_cons_zero, List.getElem?_cons_succ, and_self, and_true, true_and, List.getD_cons_zero, List.getD_cons_succ, ha]
    refine ⟨_, rfl, hk2, ?_⟩
    rw [List.append_assoc] at ho2
    exact ho2
  obtain ⟨q, σ', h1, r, rfl, h3⟩ := key
  exact ⟨r, σ', h1, h3⟩
end Go.Proofs.Ytcogghmmlndmgaa.Q
