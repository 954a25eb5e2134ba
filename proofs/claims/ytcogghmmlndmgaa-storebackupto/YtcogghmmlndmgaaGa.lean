import Derived.Test.YtcogghmmlndmgaaEn
set_option linter.unusedVariables false
set_option linter.unusedSimpArgs false
namespace Go.Proofs.Ytcogghmmlndmgaa.Q
open Go Go.RowKit Go.Proofs

/-- A log. -/
structure Lg where
  term : Int
  vote : Int
  base : Int
  bterm : Int
  book : List UInt8
  items : List Itm
  deriving DecidableEq
def lgCells (l : Lg) (w : V) : List V := [.int .i64 l.term, .int .i64 l.vote, .int .i64 l.base, .int .i64 l.bterm, .str l.book, w]
section
variable {l : Lg} {w : V}
theorem lgC0 : (lgCells l w)[0]? = some (.int .i64 l.term) := rfl
theorem lgC1 : (lgCells l w)[1]? = some (.int .i64 l.vote) := rfl
theorem lgC2 : (lgCells l w)[2]? = some (.int .i64 l.base) := rfl
theorem lgC3 : (lgCells l w)[3]? = some (.int .i64 l.bterm) := rfl
theorem lgC4 : (lgCells l w)[4]? = some (.str l.book) := rfl
theorem lgC5 : (lgCells l w)[5]? = some w := rfl
end
def Lg.In (l : Lg) : Prop := InI64 l.term ∧ InI64 l.vote ∧ InI64 l.base ∧ InI64 l.bterm
theorem FL0 (r n : Nat) : vfieldAddr Try.prog 33 (.optr r n) 0 = some (.optr r n) := by kernel_rfl
theorem FL1 (r n : Nat) : vfieldAddr Try.prog 33 (.optr r n) 1 = some (.optr r (n + 1)) := by kernel_rfl
theorem FL2 (r n : Nat) : vfieldAddr Try.prog 33 (.optr r n) 2 = some (.optr r (n + 2)) := by kernel_rfl
theorem FL3 (r n : Nat) : vfieldAddr Try.prog 33 (.optr r n) 3 = some (.optr r (n + 3)) := by kernel_rfl
theorem FL4 (r n : Nat) : vfieldAddr Try.prog 33 (.optr r n) 4 = some (.optr r (n + 4)) := by kernel_rfl
theorem FL5 (r n : Nat) : vfieldAddr Try.prog 33 (.optr r n) 5 = some (.optr r (n + 5)) := by kernel_rfl
theorem GL : isAggT Try.prog 33 = some true := by kernel_rfl
theorem SL : sizeT Try.prog 33 = some 6 := by kernel_rfl

/-- An object that is a log. -/
def IsL (σ : St) (q : Nat) (l : Lg) (w : V) : Prop := σ.objs[q]? = some (.cells (lgCells l w))
section
variable {σ : St} {q : Nat} {l : Lg} {w : V}
theorem IsL.i (h : IsL σ q l w) (off : Nat) : vload Try.prog σ.objs 3 (.optr q off) = (lgCells l w)[off]? := vload_obj h G3
theorem IsL.s (h : IsL σ q l w) (off : Nat) : vload Try.prog σ.objs 9 (.optr q off) = (lgCells l w)[off]? := vload_obj h G9
theorem IsL.r (h : IsL σ q l w) (off : Nat) : vload Try.prog σ.objs 22 (.optr q off) = (lgCells l w)[off]? := vload_obj h GIs
theorem IsL.load (h : IsL σ q l w) : vload Try.prog σ.objs 33 (.optr q 0) = some (.agg (lgCells l w)) := vload_agg h GL SL
theorem Keep.atL {σ' : St} (h : Keep σ σ') (hq : IsL σ q l w) : IsL σ' q l w := h.1 _ _ hq
end

theorem samelog_does {l k : Lg} {v w : V} (hv : ItemsV v l.items) (hw : ItemsV w k.items) (hl : l.items.length ≤ maxLen) (σ : St) :
    ∃ σ', Does Try.prog noPrim 17 [.agg (lgCells l v), .agg (lgCells k w)] σ (.ret (.bool (decide (l = k)))) σ' ∧ Keep σ σ' := by
  have key : ∃ q σ', Does Try.prog noPrim 17 [.agg (lgCells l v), .agg (lgCells k w)] σ q σ' ∧ q = .ret (.bool (decide (l = k))) ∧ Keep σ σ' := by
    apply k17_is.does (by simp)
    obtain ⟨σ2, hσ2⟩ : ∃ σ2 : St, σ2 = ⟨(σ.objs ++ [Ob.cells (lgCells l v)]) ++ [Ob.cells (lgCells k w)], σ.toks⟩ := ⟨_, rfl⟩
    have hk2 : Keep σ σ2 := by rw [hσ2]; exact ((Keep.refl σ).push _).push _
    have q2 : IsL σ2 σ.objs.length l v := by rw [hσ2]; show ((σ.objs ++ [_]) ++ [_])[_]? = _; rw [List.getElem?_append_left (by simp)]; exact push_new _ _
    have p2 : IsL σ2 (σ.objs.length + 1) k w := by rw [hσ2]; simp [IsL]
    have hsame := sameitems_does hv hw hl σ2
    have hd : decide (l = k) = decide (l.term = k.term ∧ l.vote = k.vote ∧ l.base = k.base ∧ l.bterm = k.bterm ∧ l.book = k.book ∧ l.items = k.items) := by
      rw [decide_eq_decide]
      obtain ⟨_, _, _, _, _, _⟩ := l
      obtain ⟨_, _, _, _, _, _⟩ := k
      simp only [Lg.mk.injEq]
    rw [hd]
    clear hd
    rcases (((Classical.em (l.term = k.term)).elim (fun h0 => Or.inr ((Classical.em (l.vote = k.vote)).elim (fun h1 => Or.inr ((Classical.em (l.base = k.base)).elim (fun h2 => Or.inr ((Classical.em (l.bterm = k.bterm)).elim (fun h3 => Or.inr ((Classical.em (l.book = k.book)).elim (fun h4 => Or.inr (⟨h0, h1, h2, h3, h4⟩)) (fun h4 => Or.inl ⟨h0, h1, h2, h3, h4⟩))) (fun h3 => Or.inl ⟨h0, h1, h2, h3⟩))) (fun h2 => Or.inl ⟨h0, h1, h2⟩))) (fun h1 => Or.inl ⟨h0, h1⟩))) (fun h0 => Or.inl h0)) : (¬ (l.term = k.term) ∨ (l.term = k.term) ∧ ¬ (l.vote = k.vote) ∨ (l.term = k.term) ∧ (l.vote = k.vote) ∧ ¬ (l.base = k.base) ∨ (l.term = k.term) ∧ (l.vote = k.vote) ∧ (l.base = k.base) ∧ ¬ (l.bterm = k.bterm) ∨ (l.term = k.term) ∧ (l.vote = k.vote) ∧ (l.base = k.base) ∧ (l.bterm = k.bterm) ∧ ¬ (l.book = k.book) ∨ (l.term = k.term) ∧ (l.vote = k.vote) ∧ (l.base = k.base) ∧ (l.bterm = k.bterm) ∧ (l.book = k.book))) with h | h | h | h | h | h
    all_goals
      simp only [k17_r0_e, k17_r1_e, k17_e, WK0, WK1, WK2, WK3, WK4, WK5, true_implies, vop, evAll, evOpt, evParts, vbuiltin, vun, vextract, Option.map_some, Option.map_none, Nat.reduceLT, Nat.reduceEqDiff, ↓reduceIte, reduceCtorEq, Nat.reduceAdd, Int.reduceLT, Int.reduceNeg, decide_true, decide_false, Bool.not_true, Bool.not_false, ne_eq, not_true_eq_false, not_false_eq_true, List.append_nil, Bool.false_eq_true, List.getElem?_cons_zero, List.getElem?_cons_succ, and_self, and_true, true_and, List.getD_cons_zero, List.getD_cons_succ, vbox, vcells, List.length_append, List.length_cons, List.length_nil, ← hσ2, FL0, FL1, FL2, FL3, FL4, FL5, q2.i, q2.s, q2.r, p2.i, p2.s, p2.r, lgC0, lgC1, lgC2, lgC3, lgC4, lgC5, strBin, h, false_and]
    case' inr.inr.inr.inr.inr =>
      refine KD.ret hsame ?_
      simp only [k17_r0_e, k17_r1_e, k17_e, WK0, WK1, WK2, WK3, WK4, WK5, true_implies, vop, evAll, evOpt, evParts, vbuiltin, vun, vextract, Option.map_some, Option.map_none, Nat.reduceLT, Nat.reduceEqDiff, ↓reduceIte, reduceCtorEq, Nat.reduceAdd, Int.reduceLT, Int.reduceNeg, decide_true, decide_false, Bool.not_true, Bool.not_false, ne_eq, not_true_eq_false, not_false_eq_true, List.append_nil, Bool.false_eq_true, List.getElem?_cons_zero, List.getElem?_cons_succ, and_self, and_true, true_and]
    all_goals first | exact ⟨rfl, hk2⟩ | exact hk2
  obtain ⟨q, σ', h1, rfl, h3⟩ := key
  exact ⟨σ', h1, h3⟩

/-- The terms rise. -/
def lastT : Int → List Itm → Int
  | was, [] => was
  | _, x :: l => lastT x.term l
def chainB : Int → List Itm → Bool
  | _, [] => true
  | was, x :: l => decide (was ≤ x.term) && entOk x.ent && chainB x.term l
theorem lastT_snoc : ∀ (l : List Itm) (was : Int) (x : Itm), lastT was (l ++ [x]) = x.term
  | [], _, _ => rfl
  | y :: l, _, x => lastT_snoc l y.term x
theorem chainB_snoc : ∀ (l : List Itm) (was : Int) (x : Itm), chainB was (l ++ [x]) = (chainB was l && (decide (lastT was l ≤ x.term) && entOk x.ent))
  | [], was, x => by
    show (decide (was ≤ x.term) && entOk x.ent && true) = (true && (decide (was ≤ x.term) && entOk x.ent))
    rw [Bool.and_true, Bool.true_and]
  | y :: l, was, x => by
    rw [List.cons_append, chainB, chainB_snoc l y.term x, chainB, lastT]
    simp only [Bool.and_assoc]
theorem chainB_false_mono {l : List Itm} {was : Int} : ∀ {i j : Nat}, i ≤ j → chainB was (l.take i) = false → chainB was (l.take j) = false := by
  intro i j hij h
  obtain ⟨d, rfl⟩ : ∃ d, j = i + d := ⟨j - i, by omega⟩
  induction d with
  | zero => exact h
  | succ d ih =>
    have := ih (by omega)
    by_cases hlt : i + d < l.length
    · rw [show i + (d + 1) = (i + d) + 1 by omega, List.take_succ_eq_append_getElem hlt, chainB_snoc, this]; rfl
    · rw [List.take_of_length_le (by omega)] at this ⊢
      exact this
/-- In a chain all terms lie below the last. -/
theorem chain_le : ∀ {l : List Itm} {was : Int}, chainB was l = true → was ≤ lastT was l ∧ ∀ x ∈ l, was ≤ x.term ∧ x.term ≤ lastT was l
  | [], was, _ => ⟨Int.le_refl _, by simp⟩
  | y :: l, was, h => by
    simp only [chainB, Bool.and_eq_true, decide_eq_true_eq] at h
    obtain ⟨h1, h2⟩ := chain_le h.2
    rw [lastT]
    refine ⟨by omega, fun x hx => ?_⟩
    rcases List.mem_cons.1 hx with rfl | hx
    · exact ⟨h.1.1, h1⟩
    · have := h2 x hx
      omega
theorem chain_ent : ∀ {l : List Itm} {was : Int}, chainB was l = true → ∀ x ∈ l, entOk x.ent = true
  | [], _, _ => by simp
  | y :: l, was, h => by
    simp only [chainB, Bool.and_eq_true] at h
    intro x hx
    rcases List.mem_cons.1 hx with rfl | hx
    · exact h.1.2
    · exact chain_ent h.2 x hx

def lgRange (l : Lg) (size : Int) : Bool := decide (0 ≤ l.term ∧ l.term ≤ 1099511627776 ∧ -1 ≤ l.vote ∧ l.vote < size ∧ 0 ≤ l.base ∧ l.base ≤ 1099511627776 ∧ 0 ≤ l.bterm ∧ (l.items.length : Int) ≤ 256)
def lgOk (l : Lg) (size : Int) : Bool := lgRange l size && chainB l.bterm l.items && decide (lastT l.bterm l.items ≤ l.term)

def I18 (σ0 : St) (q : Nat) (l : Lg) (w : V) : Nat → (Nat → V) → St → Prop := fun i e σ => e 53 = .int .i64 i ∧ i ≤ l.items.length ∧ e 5 = .int .i64 (lastT l.bterm (l.items.take i)) ∧ chainB l.bterm (l.items.take i) = true ∧ Keep σ0 σ ∧ IsL σ q l w

theorem goodlog_does {l : Lg} {w : V} {size : Int} (hw : ItemsV w l.items) (hl : l.items.length ≤ 4294967296) (σ : St) :
    ∃ σ', Does Try.prog noPrim 18 [.agg (lgCells l w), .int .i64 size] σ (.ret (.bool (lgOk l size))) σ' ∧ Keep σ σ' := by
  have key : ∃ q σ', Does Try.prog noPrim 18 [.agg (lgCells l w), .int .i64 size] σ q σ' ∧ q = .ret (.bool (lgOk l size)) ∧ Keep σ σ' := by
    apply k18_is.does (by simp)
    obtain ⟨σ1, hσ1⟩ : ∃ σ1 : St, σ1 = ⟨σ.objs ++ [Ob.cells (lgCells l w)], σ.toks⟩ := ⟨_, rfl⟩
    have hk1 : Keep σ σ1 := by rw [hσ1]; exact (Keep.refl σ).push _
    have q1 : IsL σ1 σ.objs.length l w := by rw [hσ1]; exact push_new _ _
    have hR : lgRange l size = decide (¬ (l.term < 0) ∧ ¬ (1099511627776 < l.term) ∧ ¬ (l.vote < -1) ∧ ¬ (size ≤ l.vote) ∧ ¬ (l.base < 0) ∧ ¬ (1099511627776 < l.base) ∧ ¬ (l.bterm < 0) ∧ ¬ ((256 : Int) < l.items.length)) := by
      unfold lgRange
      rw [decide_eq_decide]
      omega
    rcases (((Classical.em (l.term < 0)).elim (fun h0 => Or.inl h0) (fun h0 => Or.inr ((Classical.em (1099511627776 < l.term)).elim (fun h1 => Or.inl ⟨h0, h1⟩) (fun h1 => Or.inr ((Classical.em (l.vote < -1)).elim (fun h2 => Or.inl ⟨h0, h1, h2⟩) (fun h2 => Or.inr ((Classical.em (size ≤ l.vote)).elim (fun h3 => Or.inl ⟨h0, h1, h2, h3⟩) (fun h3 => Or.inr ((Classical.em (l.base < 0)).elim (fun h4 => Or.inl ⟨h0, h1, h2, h3, h4⟩) (fun h4 => Or.inr ((Classical.em (1099511627776 < l.base)).elim (fun h5 => Or.inl ⟨h0, h1, h2, h3, h4, h5⟩) (fun h5 => Or.inr ((Classical.em (l.bterm < 0)).elim (fun h6 => Or.inl ⟨h0, h1, h2, h3, h4, h5, h6⟩) (fun h6 => Or.inr ((Classical.em ((256 : Int) < l.items.length)).elim (fun h7 => Or.inl ⟨h0, h1, h2, h3, h4, h5, h6, h7⟩) (fun h7 => Or.inr (⟨h0, h1, h2, h3, h4, h5, h6, h7⟩))))))))))))))))) : ((l.term < 0) ∨ ¬ (l.term < 0) ∧ (1099511627776 < l.term) ∨ ¬ (l.term < 0) ∧ ¬ (1099511627776 < l.term) ∧ (l.vote < -1) ∨ ¬ (l.term < 0) ∧ ¬ (1099511627776 < l.term) ∧ ¬ (l.vote < -1) ∧ (size ≤ l.vote) ∨ ¬ (l.term < 0) ∧ ¬ (1099511627776 < l.term) ∧ ¬ (l.vote < -1) ∧ ¬ (size ≤ l.vote) ∧ (l.base < 0) ∨ ¬ (l.term < 0) ∧ ¬ (1099511627776 < l.term) ∧ ¬ (l.vote < -1) ∧ ¬ (size ≤ l.vote) ∧ ¬ (l.base < 0) ∧ (1099511627776 < l.base) ∨ ¬ (l.term < 0) ∧ ¬ (1099511627776 < l.term) ∧ ¬ (l.vote < -1) ∧ ¬ (size ≤ l.vote) ∧ ¬ (l.base < 0) ∧ ¬ (1099511627776 < l.base) ∧ (l.bterm < 0) ∨ ¬ (l.term < 0) ∧ ¬ (1099511627776 < l.term) ∧ ¬ (l.vote < -1) ∧ ¬ (size ≤ l.vote) ∧ ¬ (l.base < 0) ∧ ¬ (1099511627776 < l.base) ∧ ¬ (l.bterm < 0) ∧ ((256 : Int) < l.items.length) ∨ ¬ (l.term < 0) ∧ ¬ (1099511627776 < l.term) ∧ ¬ (l.vote < -1) ∧ ¬ (size ≤ l.vote) ∧ ¬ (l.base < 0) ∧ ¬ (1099511627776 < l.base) ∧ ¬ (l.bterm < 0) ∧ ¬ ((256 : Int) < l.items.length))) with h | h | h | h | h | h | h | h | h
    all_goals
      simp only [k18_r0_e, k18_r1_e, k18_r2_e, k18_r3_e, k18_r4_e, k18_r5_e, k18_r6_e, k18_r7_e, k18_r8_e, k18_r9_e, k18_r10_e, k18_l0_e, k18_r11_e, k18_e, WK0, WK1, WK2, WK3, WK4, WK5, true_implies, vop, evAll, evOpt, evParts, vbuiltin, vun, vextract, Option.map_some, Option.map_none, Nat.reduceLT, Nat.reduceEqDiff, ↓reduceIte, reduceCtorEq, Nat.reduceAdd, Int.reduceLT, Int.reduceNeg, decide_true, decide_false, Bool.not_true, Bool.not_false, ne_eq, not_true_eq_false, not_false_eq_true, List.append_nil, Bool.false_eq_true, List.getElem?_cons_zero, List.getElem?_cons_succ, and_self, and_true, true_and, List.getD_cons_zero, List.getD_cons_succ, vbox, vcells, ← hσ1, FL0, FL1, FL2, FL3, FL4, FL5, q1.i, q1.s, q1.r, lgC0, lgC1, lgC2, lgC3, lgC4, lgC5, hw.len, h]
    case' inr.inr.inr.inr.inr.inr.inr.inr =>
      have hr : lgRange l size = true := by rw [hR]; exact decide_eq_true h
      refine Ev.loopF (I18 σ σ.objs.length l w) (fun i => l.items.length - i) 0 ⟨by simp [upd_some], by simp, by simp [upd_some, lastT], rfl, hk1, q1⟩ ?_
      rintro i e σ2 ⟨h53, hi, h5, hch, hk, hq2⟩ hf
      have h51 : e 51 = w := (hf 51 (by decide)).trans (by simp [upd_some])
      have h52 : e 52 = .int .i64 l.items.length := (hf 52 (by decide)).trans (by simp [upd_some])
      have h2 : e 2 = .optr σ.objs.length 0 := (hf 2 (by decide)).trans (by simp [upd_some])
      clear hf
      by_cases hlt : i < l.items.length
      · have hlt' : (i : Int) < (l.items.length : Int) := by omega
        have hwi : IntKind.i64.wrap ((i : Int) + 1) = ((i + 1 : Nat) : Int) := by rw [show ((i : Int) + 1) = ((i + 1 : Nat) : Int) from by omega]; exact wrap_nat (by omega)
        have hq := IsI.made (σ := σ2) (o := itm0) (x := l.items[i])
        obtain ⟨σ3, hσ3⟩ : ∃ σ3 : St, σ3 = ⟨(σ2.objs ++ [Ob.cells (itmCells itm0)]).set σ2.objs.length (Ob.cells (itmCells l.items[i])), σ2.toks⟩ := ⟨_, rfl⟩
        have hk3 : Keep σ2 σ3 := by rw [hσ3]; exact (Keep.refl σ2).made _ _
        rw [← hσ3] at hq
        obtain ⟨σ4, hd4, hk4⟩ := valid_does l.items[i].ent σ3
        have hq4 : IsI σ4 σ2.objs.length l.items[i] := hk4.1 _ _ hq
        have ht := chainB_snoc (l.items.take i) l.bterm l.items[i]
        rw [← List.take_succ_eq_append_getElem hlt, hch, Bool.true_and] at ht
        have hlast : lastT l.bterm (l.items.take (i + 1)) = l.items[i].term := by rw [List.take_succ_eq_append_getElem hlt, lastT_snoc]
        have bad : chainB l.bterm (l.items.take (i + 1)) = false → lgOk l size = false := by
          intro hb
          have := chainB_false_mono (j := l.items.length) (i := i + 1) hlt hb
          rw [List.take_length] at this
          simp [lgOk, this]
        by_cases hx : l.items[i].term < lastT l.bterm (l.items.take i)
        · simp only [k18_r0_e, k18_r1_e, k18_r2_e, k18_r3_e, k18_r4_e, k18_r5_e, k18_r6_e, k18_r7_e, k18_r8_e, k18_r9_e, k18_r10_e, k18_l0_e, k18_r11_e, k18_e, WK0, WK1, WK2, WK3, WK4, WK5, true_implies, vop, evAll, evOpt, evParts, vbuiltin, vun, vextract, Option.map_some, Option.map_none, Nat.reduceLT, Nat.reduceEqDiff, ↓reduceIte, reduceCtorEq, Nat.reduceAdd, Int.reduceLT, Int.reduceNeg, decide_true, decide_false, Bool.not_true, Bool.not_false, ne_eq, not_true_eq_false, not_false_eq_true, List.append_nil, Bool.false_eq_true, List.getElem?_cons_zero, List.getElem?_cons_succ, and_self, and_true, true_and, h2, h5, h51, h52, h53, hlt', hw.addr hlt, ItemsV.load hlt, Z66, vbox, vcells, IsI.new, FI0, FI1, hq.term, hq.ent, ← hσ3, hx]
          refine ⟨?_, hk.trans hk3⟩
          rw [bad (by rw [ht, decide_eq_false (by omega)]; rfl)]
        · simp only [k18_r0_e, k18_r1_e, k18_r2_e, k18_r3_e, k18_r4_e, k18_r5_e, k18_r6_e, k18_r7_e, k18_r8_e, k18_r9_e, k18_r10_e, k18_l0_e, k18_r11_e, k18_e, WK0, WK1, WK2, WK3, WK4, WK5, true_implies, vop, evAll, evOpt, evParts, vbuiltin, vun, vextract, Option.map_some, Option.map_none, Nat.reduceLT, Nat.reduceEqDiff, ↓reduceIte, reduceCtorEq, Nat.reduceAdd, Int.reduceLT, Int.reduceNeg, decide_true, decide_false, Bool.not_true, Bool.not_false, ne_eq, not_true_eq_false, not_false_eq_true, List.append_nil, Bool.false_eq_true, List.getElem?_cons_zero, List.getElem?_cons_succ, and_self, and_true, true_and, h2, h5, h51, h52, h53, hlt', hw.addr hlt, ItemsV.load hlt, Z66, vbox, vcells, IsI.new, FI0, FI1, hq.term, hq.ent, ← hσ3, hx]
          refine KD.ret hd4 ?_
          rw [decide_eq_true (by omega : lastT l.bterm (l.items.take i) ≤ l.items[i].term), Bool.true_and] at ht
          cases hent : entOk l.items[i].ent with
          | false =>
            simp only [k18_r0_e, k18_r1_e, k18_r2_e, k18_r3_e, k18_r4_e, k18_r5_e, k18_r6_e, k18_r7_e, k18_r8_e, k18_r9_e, k18_r10_e, k18_l0_e, k18_r11_e, k18_e, WK0, WK1, WK2, WK3, WK4, WK5, true_implies, vop, evAll, evOpt, evParts, vbuiltin, vun, vextract, Option.map_some, Option.map_none, Nat.reduceLT, Nat.reduceEqDiff, ↓reduceIte, reduceCtorEq, Nat.reduceAdd, Int.reduceLT, Int.reduceNeg, decide_true, decide_false, Bool.not_true, Bool.not_false, ne_eq, not_true_eq_false, not_false_eq_true, List.append_nil, Bool.false_eq_true, List.getElem?_cons_zero, List.getElem?_cons_succ, and_self, and_true, true_and]
            refine ⟨?_, (hk.trans hk3).trans hk4⟩
            rw [bad (by rw [ht, hent])]
          | true =>
            simp only [k18_r0_e, k18_r1_e, k18_r2_e, k18_r3_e, k18_r4_e, k18_r5_e, k18_r6_e, k18_r7_e, k18_r8_e, k18_r9_e, k18_r10_e, k18_l0_e, k18_r11_e, k18_e, WK0, WK1, WK2, WK3, WK4, WK5, true_implies, vop, evAll, evOpt, evParts, vbuiltin, vun, vextract, Option.map_some, Option.map_none, Nat.reduceLT, Nat.reduceEqDiff, ↓reduceIte, reduceCtorEq, Nat.reduceAdd, Int.reduceLT, Int.reduceNeg, decide_true, decide_false, Bool.not_true, Bool.not_false, ne_eq, not_true_eq_false, not_false_eq_true, List.append_nil, Bool.false_eq_true, List.getElem?_cons_zero, List.getElem?_cons_succ, and_self, and_true, true_and, h53, FI0, hq4.term, hwi]
            exact ⟨i + 1, ⟨by simp [upd_some], hlt, by simp [upd_some, hlast], by rw [ht, hent], (hk.trans hk3).trans hk4, (hk3.trans hk4).atL hq2⟩, by omega⟩
      · have hlt' : ¬ (i : Int) < (l.items.length : Int) := by omega
        simp only [k18_r0_e, k18_r1_e, k18_r2_e, k18_r3_e, k18_r4_e, k18_r5_e, k18_r6_e, k18_r7_e, k18_r8_e, k18_r9_e, k18_r10_e, k18_l0_e, k18_r11_e, k18_e, WK0, WK1, WK2, WK3, WK4, WK5, true_implies, vop, evAll, evOpt, evParts, vbuiltin, vun, vextract, Option.map_some, Option.map_none, Nat.reduceLT, Nat.reduceEqDiff, ↓reduceIte, reduceCtorEq, Nat.reduceAdd, Int.reduceLT, Int.reduceNeg, decide_true, decide_false, Bool.not_true, Bool.not_false, ne_eq, not_true_eq_false, not_false_eq_true, List.append_nil, Bool.false_eq_true, List.getElem?_cons_zero, List.getElem?_cons_succ, and_self, and_true, true_and, h2, h5, h51, h52, h53, hlt', FL0, hq2.i, lgC0]
        rw [List.take_of_length_le (by omega)] at hch ⊢
        exact ⟨by simp [lgOk, hr, hch], hk⟩
    all_goals
      refine ⟨?_, hk1⟩
      have hn : lgRange l size = false := by rw [hR, decide_eq_false_iff_not]; omega
      simp [lgOk, hn]
  obtain ⟨q, σ', h1, rfl, h3⟩ := key
  exact ⟨σ', h1, h3⟩

def lgRange' (l : Lg) (size : Int) : Bool := decide (0 ≤ l.term ∧ l.term ≤ 1099511627776 ∧ -1 ≤ l.vote ∧ l.vote < size ∧ 0 ≤ l.base ∧ l.base ≤ 1099511627776 ∧ 0 ≤ l.bterm ∧ l.bterm ≤ l.term ∧ (l.items.length : Int) ≤ 256)
theorem lgOk_alt (l : Lg) (size : Int) : lgOk l size = (lgRange' l size && (chainB l.bterm l.items && l.items.all fun x => decide (x.term ≤ l.term))) := by
  rw [Bool.eq_iff_iff]
  unfold lgOk lgRange lgRange'
  simp only [Bool.and_eq_true, decide_eq_true_eq, List.all_eq_true]
  constructor
  · rintro ⟨⟨h1, h2⟩, h3⟩
    obtain ⟨c1, c2⟩ := chain_le h2
    exact ⟨⟨h1.1, h1.2.1, h1.2.2.1, h1.2.2.2.1, h1.2.2.2.2.1, h1.2.2.2.2.2.1, h1.2.2.2.2.2.2.1, by omega, h1.2.2.2.2.2.2.2⟩, h2, fun x hx => by have := c2 x hx; omega⟩
  · rintro ⟨h1, h2, h3⟩
    refine ⟨⟨⟨h1.1, h1.2.1, h1.2.2.1, h1.2.2.2.1, h1.2.2.2.2.1, h1.2.2.2.2.2.1, h1.2.2.2.2.2.2.1, h1.2.2.2.2.2.2.2.2⟩, h2⟩, ?_⟩
    rcases List.eq_nil_or_concat l.items with h | ⟨l', x, h⟩
    · rw [h]; exact h1.2.2.2.2.2.2.2.1
    · have hx := h3 x (by rw [h]; simp)
      rw [h, List.concat_eq_append, lastT_snoc]
      exact hx

def I48 (σ0 : St) (q : Nat) (l : Lg) (w : V) (size : Int) : Nat → (Nat → V) → St → Prop := fun i e σ => e 61 = .int .i64 i ∧ i ≤ l.items.length ∧ e 6 = .int .i64 (lastT l.bterm (l.items.take i)) ∧ e 5 = .bool (lgRange' l size && (chainB l.bterm (l.items.take i) && (l.items.take i).all fun x => decide (x.term ≤ l.term))) ∧ Keep σ0 σ ∧ IsL σ q l w

theorem refgoodlog_does {l : Lg} {w : V} {size : Int} (hw : ItemsV w l.items) (hl : l.items.length ≤ 4294967296) (σ : St) :
    ∃ σ', Does Try.prog noPrim 48 [.agg (lgCells l w), .int .i64 size] σ (.ret (.bool (lgOk l size))) σ' ∧ Keep σ σ' := by
  have key : ∃ q σ', Does Try.prog noPrim 48 [.agg (lgCells l w), .int .i64 size] σ q σ' ∧ q = .ret (.bool (lgOk l size)) ∧ Keep σ σ' := by
    apply k48_is.does (by simp)
    obtain ⟨σ1, hσ1⟩ : ∃ σ1 : St, σ1 = ⟨σ.objs ++ [Ob.cells (lgCells l w)], σ.toks⟩ := ⟨_, rfl⟩
    have hk1 : Keep σ σ1 := by rw [hσ1]; exact (Keep.refl σ).push _
    have q1 : IsL σ1 σ.objs.length l w := by rw [hσ1]; exact push_new _ _
    have loop : ∀ (e : Nat → V), e 2 = .optr σ.objs.length 0 → e 59 = w → e 60 = .int .i64 l.items.length → e 61 = .int .i64 0 → e 6 = .int .i64 l.bterm → e 5 = .bool (lgRange' l size) → Ev Try.prog noPrim 88 (.loop k48_l0) e σ1 (fun x e' σ' => x = .exit 0 ∧ e' 5 = .bool (lgOk l size) ∧ Keep σ σ') := by
      intro e0 g2 g59 g60 g61 g6 g5
      refine Ev.loopF (I48 σ σ.objs.length l w size) (fun i => l.items.length - i) 0 ⟨by simp [g61], by simp, by simp [g6, lastT], by simp [g5, chainB], hk1, q1⟩ ?_
      rintro i e σ2 ⟨h61, hi, h6, h5, hk, hq2⟩ hf
      have h59 : e 59 = w := (hf 59 (by decide)).trans g59
      have h60 : e 60 = .int .i64 l.items.length := (hf 60 (by decide)).trans g60
      have h2 : e 2 = .optr σ.objs.length 0 := (hf 2 (by decide)).trans g2
      clear hf
      by_cases hlt : i < l.items.length
      · have hlt' : (i : Int) < (l.items.length : Int) := by omega
        have hwi : IntKind.i64.wrap ((i : Int) + 1) = ((i + 1 : Nat) : Int) := by rw [show ((i : Int) + 1) = ((i + 1 : Nat) : Int) from by omega]; exact wrap_nat (by omega)
        have hq := IsI.made (σ := σ2) (o := itm0) (x := l.items[i])
        obtain ⟨σ3, hσ3⟩ : ∃ σ3 : St, σ3 = ⟨(σ2.objs ++ [Ob.cells (itmCells itm0)]).set σ2.objs.length (Ob.cells (itmCells l.items[i])), σ2.toks⟩ := ⟨_, rfl⟩
        have hk3 : Keep σ2 σ3 := by rw [hσ3]; exact (Keep.refl σ2).made _ _
        rw [← hσ3] at hq
        have hq3 := hk3.atL hq2
        obtain ⟨σ4, hd4, hk4⟩ := refvalid_does l.items[i].ent σ3
        have hq4 : IsI σ4 σ2.objs.length l.items[i] := hk4.1 _ _ hq
        have ht := chainB_snoc (l.items.take i) l.bterm l.items[i]
        rw [← List.take_succ_eq_append_getElem hlt] at ht
        have hal : ((l.items.take (i + 1)).all fun x => decide (x.term ≤ l.term)) = (((l.items.take i).all fun x => decide (x.term ≤ l.term)) && decide (l.items[i].term ≤ l.term)) := by
          rw [List.take_succ_eq_append_getElem hlt]; simp only [List.all_append, List.all_cons, List.all_nil, Bool.and_true]
        have hlast : lastT l.bterm (l.items.take (i + 1)) = l.items[i].term := by rw [List.take_succ_eq_append_getElem hlt, lastT_snoc]
        have next : (lgRange' l size && (chainB l.bterm (l.items.take (i + 1)) && (l.items.take (i + 1)).all fun x => decide (x.term ≤ l.term))) = ((lgRange' l size && (chainB l.bterm (l.items.take i) && (l.items.take i).all fun x => decide (x.term ≤ l.term))) && (decide (lastT l.bterm (l.items.take i) ≤ l.items[i].term) && (decide (l.items[i].term ≤ l.term) && entOk l.items[i].ent))) := by
          rw [ht, hal]
          cases lgRange' l size <;> cases chainB l.bterm (l.items.take i) <;> cases ((l.items.take i).all fun x => decide (x.term ≤ l.term)) <;> cases decide (lastT l.bterm (l.items.take i) ≤ l.items[i].term) <;> cases decide (l.items[i].term ≤ l.term) <;> cases entOk l.items[i].ent <;> rfl
        cases hb : (lgRange' l size && (chainB l.bterm (l.items.take i) && (l.items.take i).all fun x => decide (x.term ≤ l.term))) with
        | false =>
          rw [hb] at h5 next
          simp only [k48_r0_e, k48_r1_e, k48_r2_e, k48_r3_e, k48_r4_e, k48_r5_e, k48_r6_e, k48_r7_e, k48_r8_e, k48_l0_e, k48_r9_e, k48_e, WK0, WK1, WK2, WK3, WK4, WK5, true_implies, vop, evAll, evOpt, evParts, vbuiltin, vun, vextract, Option.map_some, Option.map_none, Nat.reduceLT, Nat.reduceEqDiff, ↓reduceIte, reduceCtorEq, Nat.reduceAdd, Int.reduceLT, Int.reduceNeg, decide_true, decide_false, Bool.not_true, Bool.not_false, ne_eq, not_true_eq_false, not_false_eq_true, List.append_nil, Bool.false_eq_true, List.getElem?_cons_zero, List.getElem?_cons_succ, and_self, and_true, true_and, h2, h5, h6, h59, h60, h61, hlt', hw.addr hlt, ItemsV.load hlt, Z66, vbox, vcells, IsI.new, FI0, hq.term, ← hσ3, hwi]
          exact ⟨i + 1, ⟨by simp [upd_some], hlt, by simp [upd_some, hlast], by rw [next]; simp [upd_some], hk.trans hk3, hq3⟩, by omega⟩
        | true =>
          rw [hb, Bool.true_and] at next
          rw [hb] at h5
          by_cases hx : lastT l.bterm (l.items.take i) ≤ l.items[i].term
          · by_cases hy : l.items[i].term ≤ l.term
            · rw [decide_eq_true hx, decide_eq_true hy, Bool.true_and, Bool.true_and] at next
              simp only [k48_r0_e, k48_r1_e, k48_r2_e, k48_r3_e, k48_r4_e, k48_r5_e, k48_r6_e, k48_r7_e, k48_r8_e, k48_l0_e, k48_r9_e, k48_e, WK0, WK1, WK2, WK3, WK4, WK5, true_implies, vop, evAll, evOpt, evParts, vbuiltin, vun, vextract, Option.map_some, Option.map_none, Nat.reduceLT, Nat.reduceEqDiff, ↓reduceIte, reduceCtorEq, Nat.reduceAdd, Int.reduceLT, Int.reduceNeg, decide_true, decide_false, Bool.not_true, Bool.not_false, ne_eq, not_true_eq_false, not_false_eq_true, List.append_nil, Bool.false_eq_true, List.getElem?_cons_zero, List.getElem?_cons_succ, and_self, and_true, true_and, h2, h5, h6, h59, h60, h61, hlt', hw.addr hlt, ItemsV.load hlt, Z66, vbox, vcells, IsI.new, FI0, FI1, FL0, hq.term, hq.ent, ← hσ3, hq3.i, lgC0, hx, hy]
              refine KD.ret hd4 ?_
              simp only [k48_r0_e, k48_r1_e, k48_r2_e, k48_r3_e, k48_r4_e, k48_r5_e, k48_r6_e, k48_r7_e, k48_r8_e, k48_l0_e, k48_r9_e, k48_e, WK0, WK1, WK2, WK3, WK4, WK5, true_implies, vop, evAll, evOpt, evParts, vbuiltin, vun, vextract, Option.map_some, Option.map_none, Nat.reduceLT, Nat.reduceEqDiff, ↓reduceIte, reduceCtorEq, Nat.reduceAdd, Int.reduceLT, Int.reduceNeg, decide_true, decide_false, Bool.not_true, Bool.not_false, ne_eq, not_true_eq_false, not_false_eq_true, List.append_nil, Bool.false_eq_true, List.getElem?_cons_zero, List.getElem?_cons_succ, and_self, and_true, true_and, h61, FI0, hq4.term, hwi]
              exact ⟨i + 1, ⟨by simp [upd_some], hlt, by simp [upd_some, hlast], by rw [next]; simp [upd_some], (hk.trans hk3).trans hk4, hk4.atL hq3⟩, by omega⟩
            · rw [decide_eq_false hy, Bool.false_and, Bool.and_false] at next
              simp only [k48_r0_e, k48_r1_e, k48_r2_e, k48_r3_e, k48_r4_e, k48_r5_e, k48_r6_e, k48_r7_e, k48_r8_e, k48_l0_e, k48_r9_e, k48_e, WK0, WK1, WK2, WK3, WK4, WK5, true_implies, vop, evAll, evOpt, evParts, vbuiltin, vun, vextract, Option.map_some, Option.map_none, Nat.reduceLT, Nat.reduceEqDiff, ↓reduceIte, reduceCtorEq, Nat.reduceAdd, Int.reduceLT, Int.reduceNeg, decide_true, decide_false, Bool.not_true, Bool.not_false, ne_eq, not_true_eq_false, not_false_eq_true, List.append_nil, Bool.false_eq_true, List.getElem?_cons_zero, List.getElem?_cons_succ, and_self, and_true, true_and, h2, h5, h6, h59, h60, h61, hlt', hw.addr hlt, ItemsV.load hlt, Z66, vbox, vcells, IsI.new, FI0, FI1, FL0, hq.term, hq.ent, ← hσ3, hq3.i, lgC0, hx, hy, hwi]
              exact ⟨i + 1, ⟨by simp [upd_some], hlt, by simp [upd_some, hlast], by rw [next]; simp [upd_some], hk.trans hk3, hq3⟩, by omega⟩
          · rw [decide_eq_false hx, Bool.false_and] at next
            simp only [k48_r0_e, k48_r1_e, k48_r2_e, k48_r3_e, k48_r4_e, k48_r5_e, k48_r6_e, k48_r7_e, k48_r8_e, k48_l0_e, k48_r9_e, k48_e, WK0, WK1, WK2, WK3, WK4, WK5, true_implies, vop, evAll, evOpt, evParts, vbuiltin, vun, vextract, Option.map_some, Option.map_none, Nat.reduceLT, Nat.reduceEqDiff, ↓reduceIte, reduceCtorEq, Nat.reduceAdd, Int.reduceLT, Int.reduceNeg, decide_true, decide_false, Bool.not_true, Bool.not_false, ne_eq, not_true_eq_false, not_false_eq_true, List.append_nil, Bool.false_eq_true, List.getElem?_cons_zero, List.getElem?_cons_succ, and_self, and_true, true_and, h2, h5, h6, h59, h60, h61, hlt', hw.addr hlt, ItemsV.load hlt, Z66, vbox, vcells, IsI.new, FI0, FI1, FL0, hq.term, hq.ent, ← hσ3, hq3.i, lgC0, hx, hwi]
            exact ⟨i + 1, ⟨by simp [upd_some], hlt, by simp [upd_some, hlast], by rw [next]; simp [upd_some], hk.trans hk3, hq3⟩, by omega⟩
      · have hlt' : ¬ (i : Int) < (l.items.length : Int) := by omega
        simp only [k48_r0_e, k48_r1_e, k48_r2_e, k48_r3_e, k48_r4_e, k48_r5_e, k48_r6_e, k48_r7_e, k48_r8_e, k48_l0_e, k48_r9_e, k48_e, WK0, WK1, WK2, WK3, WK4, WK5, true_implies, vop, evAll, evOpt, evParts, vbuiltin, vun, vextract, Option.map_some, Option.map_none, Nat.reduceLT, Nat.reduceEqDiff, ↓reduceIte, reduceCtorEq, Nat.reduceAdd, Int.reduceLT, Int.reduceNeg, decide_true, decide_false, Bool.not_true, Bool.not_false, ne_eq, not_true_eq_false, not_false_eq_true, List.append_nil, Bool.false_eq_true, List.getElem?_cons_zero, List.getElem?_cons_succ, and_self, and_true, true_and, h59, h60, h61, hlt']
        rw [List.take_of_length_le (by omega), ← lgOk_alt] at h5
        exact ⟨h5, hk⟩
    have hR : lgRange' l size = decide (0 ≤ l.term ∧ l.term ≤ 1099511627776 ∧ -1 ≤ l.vote ∧ l.vote < size ∧ 0 ≤ l.base ∧ l.base ≤ 1099511627776 ∧ 0 ≤ l.bterm ∧ l.bterm ≤ l.term ∧ (l.items.length : Int) ≤ 256) := rfl
    rcases (((Classical.em (0 ≤ l.term)).elim (fun h0 => Or.inr ((Classical.em (l.term ≤ 1099511627776)).elim (fun h1 => Or.inr ((Classical.em (-1 ≤ l.vote)).elim (fun h2 => Or.inr ((Classical.em (l.vote < size)).elim (fun h3 => Or.inr ((Classical.em (0 ≤ l.base)).elim (fun h4 => Or.inr ((Classical.em (l.base ≤ 1099511627776)).elim (fun h5 => Or.inr ((Classical.em (0 ≤ l.bterm)).elim (fun h6 => Or.inr ((Classical.em (l.bterm ≤ l.term)).elim (fun h7 => Or.inr ((Classical.em ((l.items.length : Int) ≤ 256)).elim (fun h8 => Or.inr (⟨h0, h1, h2, h3, h4, h5, h6, h7, h8⟩)) (fun h8 => Or.inl ⟨h0, h1, h2, h3, h4, h5, h6, h7, h8⟩))) (fun h7 => Or.inl ⟨h0, h1, h2, h3, h4, h5, h6, h7⟩))) (fun h6 => Or.inl ⟨h0, h1, h2, h3, h4, h5, h6⟩))) (fun h5 => Or.inl ⟨h0, h1, h2, h3, h4, h5⟩))) (fun h4 => Or.inl ⟨h0, h1, h2, h3, h4⟩))) (fun h3 => Or.inl ⟨h0, h1, h2, h3⟩))) (fun h2 => Or.inl ⟨h0, h1, h2⟩))) (fun h1 => Or.inl ⟨h0, h1⟩))) (fun h0 => Or.inl h0)) : (¬ (0 ≤ l.term) ∨ (0 ≤ l.term) ∧ ¬ (l.term ≤ 1099511627776) ∨ (0 ≤ l.term) ∧ (l.term ≤ 1099511627776) ∧ ¬ (-1 ≤ l.vote) ∨ (0 ≤ l.term) ∧ (l.term ≤ 1099511627776) ∧ (-1 ≤ l.vote) ∧ ¬ (l.vote < size) ∨ (0 ≤ l.term) ∧ (l.term ≤ 1099511627776) ∧ (-1 ≤ l.vote) ∧ (l.vote < size) ∧ ¬ (0 ≤ l.base) ∨ (0 ≤ l.term) ∧ (l.term ≤ 1099511627776) ∧ (-1 ≤ l.vote) ∧ (l.vote < size) ∧ (0 ≤ l.base) ∧ ¬ (l.base ≤ 1099511627776) ∨ (0 ≤ l.term) ∧ (l.term ≤ 1099511627776) ∧ (-1 ≤ l.vote) ∧ (l.vote < size) ∧ (0 ≤ l.base) ∧ (l.base ≤ 1099511627776) ∧ ¬ (0 ≤ l.bterm) ∨ (0 ≤ l.term) ∧ (l.term ≤ 1099511627776) ∧ (-1 ≤ l.vote) ∧ (l.vote < size) ∧ (0 ≤ l.base) ∧ (l.base ≤ 1099511627776) ∧ (0 ≤ l.bterm) ∧ ¬ (l.bterm ≤ l.term) ∨ (0 ≤ l.term) ∧ (l.term ≤ 1099511627776) ∧ (-1 ≤ l.vote) ∧ (l.vote < size) ∧ (0 ≤ l.base) ∧ (l.base ≤ 1099511627776) ∧ (0 ≤ l.bterm) ∧ (l.bterm ≤ l.term) ∧ ¬ ((l.items.length : Int) ≤ 256) ∨ (0 ≤ l.term) ∧ (l.term ≤ 1099511627776) ∧ (-1 ≤ l.vote) ∧ (l.vote < size) ∧ (0 ≤ l.base) ∧ (l.base ≤ 1099511627776) ∧ (0 ≤ l.bterm) ∧ (l.bterm ≤ l.term) ∧ ((l.items.length : Int) ≤ 256))) with h | h | h | h | h | h | h | h | h | h
    all_goals
      simp only [k48_r0_e, k48_r1_e, k48_r2_e, k48_r3_e, k48_r4_e, k48_r5_e, k48_r6_e, k48_r7_e, k48_r8_e, k48_l0_e, k48_r9_e, k48_e, WK0, WK1, WK2, WK3, WK4, WK5, true_implies, vop, evAll, evOpt, evParts, vbuiltin, vun, vextract, Option.map_some, Option.map_none, Nat.reduceLT, Nat.reduceEqDiff, ↓reduceIte, reduceCtorEq, Nat.reduceAdd, Int.reduceLT, Int.reduceNeg, decide_true, decide_false, Bool.not_true, Bool.not_false, ne_eq, not_true_eq_false, not_false_eq_true, List.append_nil, Bool.false_eq_true, List.getElem?_cons_zero, List.getElem?_cons_succ, and_self, and_true, true_and, List.getD_cons_zero, List.getD_cons_succ, vbox, vcells, ← hσ1, FL0, FL1, FL2, FL3, FL4, FL5, q1.i, q1.s, q1.r, lgC0, lgC1, lgC2, lgC3, lgC4, lgC5, hw.len, h]
      refine Ev.cut (loop _ (by simp [upd_some]) (by simp [upd_some]) (by simp [upd_some]) (by simp [upd_some]) (by simp [upd_some]) (by simp [upd_some, hR, h])) ?_
      rintro ex e' σ2 ⟨rfl, h5, hk2⟩ _
      simp only [k48_r0_e, k48_r1_e, k48_r2_e, k48_r3_e, k48_r4_e, k48_r5_e, k48_r6_e, k48_r7_e, k48_r8_e, k48_l0_e, k48_r9_e, k48_e, WK0, WK1, WK2, WK3, WK4, WK5, true_implies, vop, evAll, evOpt, evParts, vbuiltin, vun, vextract, Option.map_some, Option.map_none, Nat.reduceLT, Nat.reduceEqDiff, ↓reduceIte, reduceCtorEq, Nat.reduceAdd, Int.reduceLT, Int.reduceNeg, decide_true, decide_false, Bool.not_true, Bool.not_false, ne_eq, not_true_eq_false, not_false_eq_true, List.append_nil, Bool.false_eq_true, List.getElem?_cons_zero, List.getElem?_cons_succ, and_self, and_true, true_and, h5]
      exact hk2
  obtain ⟨q, σ', h1, rfl, h3⟩ := key
  exact ⟨σ', h1, h3⟩
end Go.Proofs.Ytcogghmmlndmgaa.Q
