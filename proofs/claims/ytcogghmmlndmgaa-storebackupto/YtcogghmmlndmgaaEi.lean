import Derived.Test.YtcogghmmlndmgaaEh
set_option linter.unusedVariables false
set_option linter.unusedSimpArgs false
namespace Go.Proofs.Ytcogghmmlndmgaa.Q
open Go Go.RowKit Go.Proofs

/-- A message. -/
structure Msg where
  src : Int
  dst : Int
  kind : Int
  term : Int
  last : Int
  lterm : Int
  com : Int
  yes : Bool
  items : List Itm
  book : List UInt8
  deriving DecidableEq
def msgCells (m : Msg) (w : V) : List V := [.int .i64 m.src, .int .i64 m.dst, .int .i64 m.kind, .int .i64 m.term, .int .i64 m.last, .int .i64 m.lterm, .int .i64 m.com, .bool m.yes, w, .str m.book]
section
variable {m : Msg} {w : V}
theorem msgC0 : (msgCells m w)[0]? = some (.int .i64 m.src) := rfl
theorem msgC1 : (msgCells m w)[1]? = some (.int .i64 m.dst) := rfl
theorem msgC2 : (msgCells m w)[2]? = some (.int .i64 m.kind) := rfl
theorem msgC3 : (msgCells m w)[3]? = some (.int .i64 m.term) := rfl
theorem msgC4 : (msgCells m w)[4]? = some (.int .i64 m.last) := rfl
theorem msgC5 : (msgCells m w)[5]? = some (.int .i64 m.lterm) := rfl
theorem msgC6 : (msgCells m w)[6]? = some (.int .i64 m.com) := rfl
theorem msgC7 : (msgCells m w)[7]? = some (.bool m.yes) := rfl
theorem msgC8 : (msgCells m w)[8]? = some w := rfl
theorem msgC9 : (msgCells m w)[9]? = some (.str m.book) := rfl
end
def Msg.In (m : Msg) : Prop := InI64 m.src ∧ InI64 m.dst ∧ InI64 m.kind ∧ InI64 m.term ∧ InI64 m.last ∧ InI64 m.lterm ∧ InI64 m.com
theorem FM0 (r n : Nat) : vfieldAddr Try.prog 24 (.optr r n) 0 = some (.optr r n) := by kernel_rfl
theorem FM1 (r n : Nat) : vfieldAddr Try.prog 24 (.optr r n) 1 = some (.optr r (n + 1)) := by kernel_rfl
theorem FM2 (r n : Nat) : vfieldAddr Try.prog 24 (.optr r n) 2 = some (.optr r (n + 2)) := by kernel_rfl
theorem FM3 (r n : Nat) : vfieldAddr Try.prog 24 (.optr r n) 3 = some (.optr r (n + 3)) := by kernel_rfl
theorem FM4 (r n : Nat) : vfieldAddr Try.prog 24 (.optr r n) 4 = some (.optr r (n + 4)) := by kernel_rfl
theorem FM5 (r n : Nat) : vfieldAddr Try.prog 24 (.optr r n) 5 = some (.optr r (n + 5)) := by kernel_rfl
theorem FM6 (r n : Nat) : vfieldAddr Try.prog 24 (.optr r n) 6 = some (.optr r (n + 6)) := by kernel_rfl
theorem FM7 (r n : Nat) : vfieldAddr Try.prog 24 (.optr r n) 7 = some (.optr r (n + 7)) := by kernel_rfl
theorem FM8 (r n : Nat) : vfieldAddr Try.prog 24 (.optr r n) 8 = some (.optr r (n + 8)) := by kernel_rfl
theorem FM9 (r n : Nat) : vfieldAddr Try.prog 24 (.optr r n) 9 = some (.optr r (n + 9)) := by kernel_rfl
theorem GM : isAggT Try.prog 24 = some true := by kernel_rfl
theorem SM : sizeT Try.prog 24 = some 10 := by kernel_rfl
theorem GIs : isAggT Try.prog 22 = some false := by kernel_rfl
theorem SIs : sizeT Try.prog 22 = some 1 := by kernel_rfl

/-- An object that is a message. -/
def IsM (σ : St) (q : Nat) (m : Msg) (w : V) : Prop := σ.objs[q]? = some (.cells (msgCells m w))
section
variable {σ : St} {q : Nat} {m : Msg} {w : V}
theorem IsM.i (h : IsM σ q m w) (off : Nat) : vload Try.prog σ.objs 3 (.optr q off) = (msgCells m w)[off]? := vload_obj h G3
theorem IsM.b (h : IsM σ q m w) (off : Nat) : vload Try.prog σ.objs 4 (.optr q off) = (msgCells m w)[off]? := vload_obj h G4
theorem IsM.s (h : IsM σ q m w) (off : Nat) : vload Try.prog σ.objs 9 (.optr q off) = (msgCells m w)[off]? := vload_obj h G9
theorem IsM.l (h : IsM σ q m w) (off : Nat) : vload Try.prog σ.objs 22 (.optr q off) = (msgCells m w)[off]? := vload_obj h GIs
theorem IsM.load (h : IsM σ q m w) : vload Try.prog σ.objs 24 (.optr q 0) = some (.agg (msgCells m w)) := vload_agg h GM SM
end

theorem vbin_beqd {xo yo : Operand} {x y : Bool} : vbin Try.prog .eql 4 xo yo (.bool x) (.bool y) = some (.bool (decide (x = y))) := by
  rw [vbin_beq T4]; cases x <;> cases y <;> rfl

theorem samemessage_does {m k : Msg} {v w : V} (hv : ItemsV v m.items) (hw : ItemsV w k.items) (hl : m.items.length ≤ maxLen) (σ : St) :
    ∃ σ', Does Try.prog noPrim 12 [.agg (msgCells m v), .agg (msgCells k w)] σ (.ret (.bool (decide (m = k)))) σ' ∧ Keep σ σ' := by
  have key : ∃ q σ', Does Try.prog noPrim 12 [.agg (msgCells m v), .agg (msgCells k w)] σ q σ' ∧ q = .ret (.bool (decide (m = k))) ∧ Keep σ σ' := by
    apply k12_is.does (by simp)
    obtain ⟨σ2, hσ2⟩ : ∃ σ2 : St, σ2 = ⟨(σ.objs ++ [Ob.cells (msgCells m v)]) ++ [Ob.cells (msgCells k w)], σ.toks⟩ := ⟨_, rfl⟩
    have hk2 : Keep σ σ2 := by rw [hσ2]; exact ((Keep.refl σ).push _).push _
    have q2 : IsM σ2 σ.objs.length m v := by rw [hσ2]; show ((σ.objs ++ [_]) ++ [_])[_]? = _; rw [List.getElem?_append_left (by simp)]; exact push_new _ _
    have p2 : IsM σ2 (σ.objs.length + 1) k w := by rw [hσ2]; have := push_new (σ.objs ++ [Ob.cells (msgCells m v)]) (Ob.cells (msgCells k w)); simp [IsM]
    have hsame := sameitems_does hv hw hl σ2
    have hd : decide (m = k) = decide (m.src = k.src ∧ m.dst = k.dst ∧ m.kind = k.kind ∧ m.term = k.term ∧ m.last = k.last ∧ m.lterm = k.lterm ∧ m.com = k.com ∧ m.yes = k.yes ∧ m.book = k.book ∧ m.items = k.items) := by
      rw [decide_eq_decide]
      obtain ⟨_, _, _, _, _, _, _, _, _, _⟩ := m
      obtain ⟨_, _, _, _, _, _, _, _, _, _⟩ := k
      simp only [Msg.mk.injEq]
      constructor
      · rintro ⟨h1, h2, h3, h4, h5, h6, h7, h8, h9, h10⟩; exact ⟨h1, h2, h3, h4, h5, h6, h7, h8, h10, h9⟩
      · rintro ⟨h1, h2, h3, h4, h5, h6, h7, h8, h9, h10⟩; exact ⟨h1, h2, h3, h4, h5, h6, h7, h8, h10, h9⟩
    rw [hd]
    clear hd
    rcases (((Classical.em (m.src = k.src)).elim (fun h0 => Or.inr ((Classical.em (m.dst = k.dst)).elim (fun h1 => Or.inr ((Classical.em (m.kind = k.kind)).elim (fun h2 => Or.inr ((Classical.em (m.term = k.term)).elim (fun h3 => Or.inr ((Classical.em (m.last = k.last)).elim (fun h4 => Or.inr ((Classical.em (m.lterm = k.lterm)).elim (fun h5 => Or.inr ((Classical.em (m.com = k.com)).elim (fun h6 => Or.inr ((Classical.em (m.yes = k.yes)).elim (fun h7 => Or.inr ((Classical.em (m.book = k.book)).elim (fun h8 => Or.inr (⟨h0, h1, h2, h3, h4, h5, h6, h7, h8⟩)) (fun h8 => Or.inl ⟨h0, h1, h2, h3, h4, h5, h6, h7, h8⟩))) (fun h7 => Or.inl ⟨h0, h1, h2, h3, h4, h5, h6, h7⟩))) (fun h6 => Or.inl ⟨h0, h1, h2, h3, h4, h5, h6⟩))) (fun h5 => Or.inl ⟨h0, h1, h2, h3, h4, h5⟩))) (fun h4 => Or.inl ⟨h0, h1, h2, h3, h4⟩))) (fun h3 => Or.inl ⟨h0, h1, h2, h3⟩))) (fun h2 => Or.inl ⟨h0, h1, h2⟩))) (fun h1 => Or.inl ⟨h0, h1⟩))) (fun h0 => Or.inl h0)) : (¬ (m.src = k.src) ∨ (m.src = k.src) ∧ ¬ (m.dst = k.dst) ∨ (m.src = k.src) ∧ (m.dst = k.dst) ∧ ¬ (m.kind = k.kind) ∨ (m.src = k.src) ∧ (m.dst = k.dst) ∧ (m.kind = k.kind) ∧ ¬ (m.term = k.term) ∨ (m.src = k.src) ∧ (m.dst = k.dst) ∧ (m.kind = k.kind) ∧ (m.term = k.term) ∧ ¬ (m.last = k.last) ∨ (m.src = k.src) ∧ (m.dst = k.dst) ∧ (m.kind = k.kind) ∧ (m.term = k.term) ∧ (m.last = k.last) ∧ ¬ (m.lterm = k.lterm) ∨ (m.src = k.src) ∧ (m.dst = k.dst) ∧ (m.kind = k.kind) ∧ (m.term = k.term) ∧ (m.last = k.last) ∧ (m.lterm = k.lterm) ∧ ¬ (m.com = k.com) ∨ (m.src = k.src) ∧ (m.dst = k.dst) ∧ (m.kind = k.kind) ∧ (m.term = k.term) ∧ (m.last = k.last) ∧ (m.lterm = k.lterm) ∧ (m.com = k.com) ∧ ¬ (m.yes = k.yes) ∨ (m.src = k.src) ∧ (m.dst = k.dst) ∧ (m.kind = k.kind) ∧ (m.term = k.term) ∧ (m.last = k.last) ∧ (m.lterm = k.lterm) ∧ (m.com = k.com) ∧ (m.yes = k.yes) ∧ ¬ (m.book = k.book) ∨ (m.src = k.src) ∧ (m.dst = k.dst) ∧ (m.kind = k.kind) ∧ (m.term = k.term) ∧ (m.last = k.last) ∧ (m.lterm = k.lterm) ∧ (m.com = k.com) ∧ (m.yes = k.yes) ∧ (m.book = k.book))) with h | h | h | h | h | h | h | h | h | h
    all_goals
      simp only [k12_r0_e, k12_r1_e, k12_e, WK0, WK1, WK2, WK3, WK4, WK5, true_implies, vop, evAll, evOpt, evParts, vbuiltin, vun, vextract, Option.map_some, Option.map_none, Nat.reduceLT, Nat.reduceEqDiff, ↓reduceIte, reduceCtorEq, Nat.reduceAdd, Int.reduceLT, Int.reduceNeg, decide_true, decide_false, Bool.not_true, Bool.not_false, ne_eq, not_true_eq_false, not_false_eq_true, List.append_nil, Bool.false_eq_true, List.getElem?_cons_zero, List.getElem?_cons_succ, and_self, and_true, true_and, List.getD_cons_zero, List.getD_cons_succ, vbox, vcells, List.length_append, List.length_cons, List.length_nil, ← hσ2, FM0, FM1, FM2, FM3, FM4, FM5, FM6, FM7, FM8, FM9, q2.i, q2.b, q2.s, q2.l, p2.i, p2.b, p2.s, p2.l, msgC0, msgC1, msgC2, msgC3, msgC4, msgC5, msgC6, msgC7, msgC8, msgC9, vbin_beqd, strBin, h, false_and]
    case' inr.inr.inr.inr.inr.inr.inr.inr.inr =>
      refine KD.ret hsame ?_
      simp only [k12_r0_e, k12_r1_e, k12_e, WK0, WK1, WK2, WK3, WK4, WK5, true_implies, vop, evAll, evOpt, evParts, vbuiltin, vun, vextract, Option.map_some, Option.map_none, Nat.reduceLT, Nat.reduceEqDiff, ↓reduceIte, reduceCtorEq, Nat.reduceAdd, Int.reduceLT, Int.reduceNeg, decide_true, decide_false, Bool.not_true, Bool.not_false, ne_eq, not_true_eq_false, not_false_eq_true, List.append_nil, Bool.false_eq_true, List.getElem?_cons_zero, List.getElem?_cons_succ, and_self, and_true, true_and]
    all_goals first | exact ⟨rfl, hk2⟩ | exact hk2
  obtain ⟨q, σ', h1, rfl, h3⟩ := key
  exact ⟨σ', h1, h3⟩

theorem neg_does (x : Itm) (σ : St) : ∃ σ', Does Try.prog noPrim 59 [.agg (itmCells x)] σ (.ret (.bool (decide (x.term < 0)))) σ' ∧ Keep σ σ' := by
  have key : ∃ q σ', Does Try.prog noPrim 59 [.agg (itmCells x)] σ q σ' ∧ q = .ret (.bool (decide (x.term < 0))) ∧ Keep σ σ' := by
    apply k59_is.does (by simp)
    have ho : IsI ⟨σ.objs ++ [Ob.cells (itmCells x)], σ.toks⟩ σ.objs.length x := push_new _ _
    simp only [k59_r0_e, k59_r1_e, k59_e, WK0, WK1, WK2, WK3, WK4, WK5, true_implies, vop, evAll, evOpt, evParts, vbuiltin, vun, vextract, Option.map_some, Option.map_none, Nat.reduceLT, Nat.reduceEqDiff, ↓reduceIte, reduceCtorEq, Nat.reduceAdd, Int.reduceLT, Int.reduceNeg, decide_true, decide_false, Bool.not_true, Bool.not_false, ne_eq, not_true_eq_false, not_false_eq_true, List.append_nil, Bool.false_eq_true, List.getElem?_cons_zero, List.getElem?_cons_succ, and_self, and_true, true_and, List.getD_cons_zero, vbox, vcells, FI0, ho.term]
    exact (Keep.refl σ).push _
  obtain ⟨q, σ', h1, rfl, h3⟩ := key
  exact ⟨σ', h1, h3⟩

def I67 (σ0 : St) (l : List Itm) : Nat → (Nat → V) → St → Prop := fun i e σ => e 8 = .int .i64 i ∧ i ≤ l.length ∧ (∀ x ∈ l.take i, 0 ≤ x.term) ∧ Keep σ0 σ

theorem indexneg_does {w : V} {l : List Itm} (hw : ItemsV w l) (hl : l.length ≤ maxLen) (σ : St) :
    ∃ σ', ∃ k : Int, Does Try.prog noPrim 67 [w, .func 59 []] σ (.ret (.int .i64 k)) σ' ∧ Keep σ σ' ∧ (0 ≤ k ↔ ∃ x ∈ l, x.term < 0) := by
  have key : ∃ q σ', Does Try.prog noPrim 67 [w, .func 59 []] σ q σ' ∧ ∃ k : Int, q = .ret (.int .i64 k) ∧ Keep σ σ' ∧ (0 ≤ k ↔ ∃ x ∈ l, x.term < 0) := by
    apply k67_is.does (by simp)
    unfold maxLen at hl
    simp only [k67_r0_e, k67_r1_e, k67_r2_e, k67_r3_e, k67_r4_e, k67_r5_e, k67_r6_e, k67_l0_e, k67_r7_e, k67_e, WK0, WK1, WK2, WK3, WK4, WK5, true_implies, vop, evAll, evOpt, evParts, vbuiltin, vun, vextract, Option.map_some, Option.map_none, Nat.reduceLT, Nat.reduceEqDiff, ↓reduceIte, reduceCtorEq, Nat.reduceAdd, Int.reduceLT, Int.reduceNeg, decide_true, decide_false, Bool.not_true, Bool.not_false, ne_eq, not_true_eq_false, not_false_eq_true, List.append_nil, Bool.false_eq_true, List.getElem?_cons_zero, List.getElem?_cons_succ, and_self, and_true, true_and, List.getD_cons_zero, List.getD_cons_succ, hw.len]
    refine Ev.loopF (I67 σ l) (fun i => l.length - i) 0 ⟨by simp [upd_some], by simp, by simp, Keep.refl σ⟩ ?_
    rintro i e σ2 ⟨h8, hi, ht, hk⟩ hf
    have h7 : e 7 = .int .i64 l.length := (hf 7 (by decide)).trans (by simp [upd_some])
    have h0 : e 0 = w := (hf 0 (by decide)).trans (by simp [upd_some])
    have h1 : e 1 = .func 59 [] := (hf 1 (by decide)).trans (by simp [upd_some])
    clear hf
    by_cases hlt : i < l.length
    · have hlt' : (i : Int) < (l.length : Int) := by omega
      have hwi : IntKind.i64.wrap ((i : Int) + 1) = ((i + 1 : Nat) : Int) := by rw [show ((i : Int) + 1) = ((i + 1 : Nat) : Int) from by omega]; exact wrap_nat (by omega)
      obtain ⟨σ3, hd3, hk3⟩ := neg_does l[i] σ2
      simp only [k67_r0_e, k67_r1_e, k67_r2_e, k67_r3_e, k67_r4_e, k67_r5_e, k67_r6_e, k67_l0_e, k67_r7_e, k67_e, WK0, WK1, WK2, WK3, WK4, WK5, true_implies, vop, evAll, evOpt, evParts, vbuiltin, vun, vextract, Option.map_some, Option.map_none, Nat.reduceLT, Nat.reduceEqDiff, ↓reduceIte, reduceCtorEq, Nat.reduceAdd, Int.reduceLT, Int.reduceNeg, decide_true, decide_false, Bool.not_true, Bool.not_false, ne_eq, not_true_eq_false, not_false_eq_true, List.append_nil, Bool.false_eq_true, List.getElem?_cons_zero, List.getElem?_cons_succ, and_self, and_true, true_and, h0, h1, h7, h8, hlt', hw.addr hlt, ItemsV.load hlt]
      refine KD.ret hd3 ?_
      by_cases hx : l[i].term < 0
      · simp only [k67_r0_e, k67_r1_e, k67_r2_e, k67_r3_e, k67_r4_e, k67_r5_e, k67_r6_e, k67_l0_e, k67_r7_e, k67_e, WK0, WK1, WK2, WK3, WK4, WK5, true_implies, vop, evAll, evOpt, evParts, vbuiltin, vun, vextract, Option.map_some, Option.map_none, Nat.reduceLT, Nat.reduceEqDiff, ↓reduceIte, reduceCtorEq, Nat.reduceAdd, Int.reduceLT, Int.reduceNeg, decide_true, decide_false, Bool.not_true, Bool.not_false, ne_eq, not_true_eq_false, not_false_eq_true, List.append_nil, Bool.false_eq_true, List.getElem?_cons_zero, List.getElem?_cons_succ, and_self, and_true, true_and, h0, h1, h7, h8, hx]
        exact ⟨_, rfl, hk.trans hk3, by simp; exact ⟨l[i], List.getElem_mem hlt, hx⟩⟩
      · simp only [k67_r0_e, k67_r1_e, k67_r2_e, k67_r3_e, k67_r4_e, k67_r5_e, k67_r6_e, k67_l0_e, k67_r7_e, k67_e, WK0, WK1, WK2, WK3, WK4, WK5, true_implies, vop, evAll, evOpt, evParts, vbuiltin, vun, vextract, Option.map_some, Option.map_none, Nat.reduceLT, Nat.reduceEqDiff, ↓reduceIte, reduceCtorEq, Nat.reduceAdd, Int.reduceLT, Int.reduceNeg, decide_true, decide_false, Bool.not_true, Bool.not_false, ne_eq, not_true_eq_false, not_false_eq_true, List.append_nil, Bool.false_eq_true, List.getElem?_cons_zero, List.getElem?_cons_succ, and_self, and_true, true_and, h0, h1, h7, h8, hx, hwi]
        refine ⟨i + 1, ⟨by simp [upd_some], hlt, ?_, hk.trans hk3⟩, by omega⟩
        intro x hx'
        rw [List.take_succ_eq_append_getElem hlt, List.mem_append, List.mem_singleton] at hx'
        rcases hx' with hx' | rfl
        · exact ht x hx'
        · omega
    · have hlt' : ¬ (i : Int) < (l.length : Int) := by omega
      simp only [k67_r0_e, k67_r1_e, k67_r2_e, k67_r3_e, k67_r4_e, k67_r5_e, k67_r6_e, k67_l0_e, k67_r7_e, k67_e, WK0, WK1, WK2, WK3, WK4, WK5, true_implies, vop, evAll, evOpt, evParts, vbuiltin, vun, vextract, Option.map_some, Option.map_none, Nat.reduceLT, Nat.reduceEqDiff, ↓reduceIte, reduceCtorEq, Nat.reduceAdd, Int.reduceLT, Int.reduceNeg, decide_true, decide_false, Bool.not_true, Bool.not_false, ne_eq, not_true_eq_false, not_false_eq_true, List.append_nil, Bool.false_eq_true, List.getElem?_cons_zero, List.getElem?_cons_succ, and_self, and_true, true_and, h0, h1, h7, h8, hlt']
      rw [List.take_of_length_le (by omega)] at ht
      refine ⟨_, rfl, hk, ?_⟩
      constructor
      · intro h; omega
      · rintro ⟨x, hx, hn⟩
        have := ht x hx
        omega
  obtain ⟨q, σ', h1, k, rfl, h2, h3⟩ := key
  exact ⟨σ', k, h1, h2, h3⟩

theorem anyneg_does {w : V} {l : List Itm} (hw : ItemsV w l) (hl : l.length ≤ maxLen) (σ : St) :
    ∃ σ', Does Try.prog noPrim 58 [w, .func 59 []] σ (.ret (.bool (l.any fun x => decide (x.term < 0)))) σ' ∧ Keep σ σ' := by
  have key : ∃ q σ', Does Try.prog noPrim 58 [w, .func 59 []] σ q σ' ∧ q = .ret (.bool (l.any fun x => decide (x.term < 0))) ∧ Keep σ σ' := by
    apply k58_is.does (by simp)
    obtain ⟨σ1, k, hd, hk, hiff⟩ := indexneg_does hw hl σ
    simp only [k58_r0_e, k58_r1_e, k58_e, WK0, WK1, WK2, WK3, WK4, WK5, true_implies, vop, evAll, evOpt, evParts, vbuiltin, vun, vextract, Option.map_some, Option.map_none, Nat.reduceLT, Nat.reduceEqDiff, ↓reduceIte, reduceCtorEq, Nat.reduceAdd, Int.reduceLT, Int.reduceNeg, decide_true, decide_false, Bool.not_true, Bool.not_false, ne_eq, not_true_eq_false, not_false_eq_true, List.append_nil, Bool.false_eq_true, List.getElem?_cons_zero, List.getElem?_cons_succ, and_self, and_true, true_and, List.getD_cons_zero, List.getD_cons_succ]
    refine KD.ret hd ?_
    simp only [k58_r0_e, k58_r1_e, k58_e, WK0, WK1, WK2, WK3, WK4, WK5, true_implies, vop, evAll, evOpt, evParts, vbuiltin, vun, vextract, Option.map_some, Option.map_none, Nat.reduceLT, Nat.reduceEqDiff, ↓reduceIte, reduceCtorEq, Nat.reduceAdd, Int.reduceLT, Int.reduceNeg, decide_true, decide_false, Bool.not_true, Bool.not_false, ne_eq, not_true_eq_false, not_false_eq_true, List.append_nil, Bool.false_eq_true, List.getElem?_cons_zero, List.getElem?_cons_succ, and_self, and_true, true_and]
    have : decide (0 ≤ k) = l.any fun x => decide (x.term < 0) := by
      rw [Bool.eq_iff_iff]
      simp [hiff]
    rw [this]
    exact ⟨rfl, hk⟩
  obtain ⟨q, σ', h1, rfl, h3⟩ := key
  exact ⟨σ', h1, h3⟩
end Go.Proofs.Ytcogghmmlndmgaa.Q
