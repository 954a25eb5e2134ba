import Derived.Test.YtlimedbanpfkgaaVa
import Derived.Test.YtlimedbanpfkgaaTp
set_option linter.unusedVariables false
set_option linter.unusedSimpArgs false
namespace Go.Proofs.Ytlimedbanpfkgaa.Q
open Go Go.RowKit Go.Proofs


/-- The order of numbers. -/
def sgn (a b : Int) : Int := if a < b then -1 else if b < a then 1 else 0
/-- The first that is not 0. -/
def orI : List Int → Int
  | [] => 0
  | x :: l => if x = 0 then orI l else x

theorem nan_does (x : Int) (σ : St) : Does Try.prog prims 78 [.int .i64 x] σ (.ret (.bool false)) σ := by
  apply k78_is.ret (by simp)
  simp only [k78_a, WK, vop, evAll, evOpt, evParts, vbuiltin, vun, vextract, Nat.reduceLT, Nat.reduceEqDiff, ↓reduceIte, reduceCtorEq, Nat.reduceAdd, Int.reduceLT, Int.reduceNeg, List.getD_cons_zero]

theorem sgn_does (a b : Int) (σ : St) : Does Try.prog prims 57 [.int .i64 a, .int .i64 b] σ (.ret (.int .i64 (sgn a b))) σ := by
  apply k57_is.ret (by simp)
  simp only [k57_a, WK, vop, evAll, evOpt, evParts, vbuiltin, vun, vextract, Nat.reduceLT, Nat.reduceEqDiff, ↓reduceIte, reduceCtorEq, Nat.reduceAdd, Int.reduceLT, Int.reduceNeg, List.getD_cons_zero, List.getD_cons_succ]
  refine KD.ret (nan_does a σ) ?_
  simp only [k57_a, WK, vop, evAll, evOpt, evParts, vbuiltin, vun, vextract, Nat.reduceLT, Nat.reduceEqDiff, ↓reduceIte, reduceCtorEq, Nat.reduceAdd, Int.reduceLT, Int.reduceNeg, List.getD_cons_zero, List.getD_cons_succ]
  refine KD.ret (nan_does b σ) ?_
  unfold sgn
  by_cases h1 : a < b
  · simp only [k57_a, WK, vop, evAll, evOpt, evParts, vbuiltin, vun, vextract, Nat.reduceLT, Nat.reduceEqDiff, ↓reduceIte, reduceCtorEq, Nat.reduceAdd, Int.reduceLT, Int.reduceNeg, List.getD_cons_zero, List.getD_cons_succ, h1]
    try rfl
  · by_cases h2 : b < a
    · simp only [k57_a, WK, vop, evAll, evOpt, evParts, vbuiltin, vun, vextract, Nat.reduceLT, Nat.reduceEqDiff, ↓reduceIte, reduceCtorEq, Nat.reduceAdd, Int.reduceLT, Int.reduceNeg, List.getD_cons_zero, List.getD_cons_succ, h1, h2]
      try rfl
    · simp only [k57_a, WK, vop, evAll, evOpt, evParts, vbuiltin, vun, vextract, Nat.reduceLT, Nat.reduceEqDiff, ↓reduceIte, reduceCtorEq, Nat.reduceAdd, Int.reduceLT, Int.reduceNeg, List.getD_cons_zero, List.getD_cons_succ, h1, h2]
      try rfl

theorem or_does {w : V} {xs : List Int} (hw : IntsV w xs) (hl : xs.length ≤ 1000) (σ : St) : Does Try.prog prims 56 [w] σ (.ret (.int .i64 (orI xs))) σ := by
  apply k56_is.ret (by simp)
  simp only [k56_a, WK, vop, evAll, evOpt, evParts, vbuiltin, vun, vextract, Nat.reduceLT, Nat.reduceEqDiff, ↓reduceIte, reduceCtorEq, Nat.reduceAdd, Int.reduceLT, Int.reduceNeg, List.getD_cons_zero, hw.len IT]
  refine Ev.loopF (fun i e σ' => e 8 = .int .i64 (i : Nat) ∧ i ≤ xs.length ∧ orI xs = orI (xs.drop i) ∧ σ' = σ) (fun i => xs.length - i) 0 ⟨by simp [upd_some], by simp, by simp, rfl⟩ ?_
  rintro i e σ' ⟨h8, hi, hor, rfl⟩ hf
  have h7 : e 7 = .int .i64 xs.length := (hf 7 (by decide)).trans (by simp [upd_some])
  have h6 : e 6 = w := (hf 6 (by decide)).trans (by simp [upd_some])
  have h3 : e 3 = .int .i64 0 := (hf 3 (by decide)).trans (by simp [upd_some])
  clear hf
  by_cases hlt : i < xs.length
  · have hlt' : (i : Int) < xs.length := by omega
    have hwi : IntKind.i64.wrap ((i : Int) + 1) = ((i + 1 : Nat) : Int) := by rw [show ((i : Int) + 1) = ((i + 1 : Nat) : Int) from by omega]; exact wrap_nat (by omega)
    rw [List.drop_eq_getElem_cons hlt, orI] at hor
    by_cases hx : xs[i] = 0
    · rw [if_pos hx] at hor
      simp only [k56_a, WK, vop, evAll, evOpt, evParts, vbuiltin, vun, vextract, Nat.reduceLT, Nat.reduceEqDiff, ↓reduceIte, reduceCtorEq, Nat.reduceAdd, Int.reduceLT, Int.reduceNeg, h3, h6, h7, h8, hlt', hw.addr IT (Int.natCast_nonneg i) hlt', IntsV.load IT hlt, Int.toNat_natCast, hx, hwi]
      exact ⟨i + 1, ⟨by simp [upd_some], hlt, hor⟩, by omega⟩
    · rw [if_neg hx] at hor
      simp only [k56_a, WK, vop, evAll, evOpt, evParts, vbuiltin, vun, vextract, Nat.reduceLT, Nat.reduceEqDiff, ↓reduceIte, reduceCtorEq, Nat.reduceAdd, Int.reduceLT, Int.reduceNeg, h3, h6, h7, h8, hlt', hw.addr IT (Int.natCast_nonneg i) hlt', IntsV.load IT hlt, Int.toNat_natCast, hx]
      rw [hor]
  · have hlt' : ¬ (i : Int) < xs.length := by omega
    have : xs.drop i = [] := List.drop_of_length_le (by omega)
    rw [this, orI] at hor
    simp only [k56_a, WK, vop, evAll, evOpt, evParts, vbuiltin, vun, vextract, Nat.reduceLT, Nat.reduceEqDiff, ↓reduceIte, reduceCtorEq, Nat.reduceAdd, Int.reduceLT, Int.reduceNeg, h3, h6, h7, h8, hlt']
    rw [hor]

mutual
def cmpV : Val → Val → Int
  | .mk k n t l, .mk k' n' t' l' => orI [sgn k k', sgn n n', Lib.compareBytes t t', cmpL l l']
def cmpL : List Val → List Val → Int
  | [], [] => 0
  | [], _ :: _ => -1
  | _ :: _, [] => 1
  | a :: l, b :: m => if cmpV a b = 0 then cmpL l m else cmpV a b
end
theorem cmpL_nil (m : List Val) : cmpL [] m = if (0 : Nat) < m.length then -1 else 0 := by cases m <;> simp [cmpL]
theorem cmpL_cons_nil (a : Val) (l : List Val) : cmpL (a :: l) [] = 1 := by rw [cmpL]

theorem compareBytes_in : ∀ a b : List UInt8, Lib.compareBytes a b = -1 ∨ Lib.compareBytes a b = 0 ∨ Lib.compareBytes a b = 1
  | [], [] => by simp [Lib.compareBytes]
  | [], _ :: _ => by simp [Lib.compareBytes]
  | _ :: _, [] => by simp [Lib.compareBytes]
  | a :: l, b :: m => by
    rw [Lib.compareBytes]
    split
    · simp
    · split
      · simp
      · exact compareBytes_in l m
theorem sgn_in (a b : Int) : sgn a b = -1 ∨ sgn a b = 0 ∨ sgn a b = 1 := by
  unfold sgn; split
  · simp
  · split <;> simp
theorem orI_in : ∀ {l : List Int}, (∀ x ∈ l, x = -1 ∨ x = 0 ∨ x = 1) → orI l = -1 ∨ orI l = 0 ∨ orI l = 1
  | [], _ => by simp [orI]
  | x :: l, h => by
    rw [orI]
    split
    · exact orI_in fun y hy => h y (List.mem_cons_of_mem _ hy)
    · exact h x (List.mem_cons_self ..)
theorem cmp_in : ∀ (n : Nat) (a b : Val), weight a ≤ n → cmpV a b = -1 ∨ cmpV a b = 0 ∨ cmpV a b = 1
  | 0, a, b, h => by have := weight_pos a; omega
  | n + 1, .mk k m t l, .mk k' m' t' l', h => by
    rw [weight] at h
    have rows : ∀ (l m : List Val), weights l ≤ n → cmpL l m = -1 ∨ cmpL l m = 0 ∨ cmpL l m = 1 := by
      intro l
      induction l with
      | nil => intro m _; cases m <;> simp [cmpL]
      | cons a l ih =>
        intro m hl
        rw [weights] at hl
        cases m with
        | nil => simp [cmpL]
        | cons b m =>
          rw [cmpL]
          split
          · exact ih m (by omega)
          · exact cmp_in n a b (by omega)
    rw [cmpV]
    refine orI_in ?_
    intro x hx
    simp only [List.mem_cons, List.not_mem_nil, or_false] at hx
    rcases hx with rfl | rfl | rfl | rfl
    · exact sgn_in _ _
    · exact sgn_in _ _
    · exact compareBytes_in _ _
    · exact rows l l' (by omega)
theorem cmpV_in (a b : Val) : cmpV a b = -1 ∨ cmpV a b = 0 ∨ cmpV a b = 1 := cmp_in _ a b (Nat.le_refl _)
theorem cmpL_in : ∀ (l m : List Val), cmpL l m = -1 ∨ cmpL l m = 0 ∨ cmpL l m = 1
  | [], m => by cases m <;> simp [cmpL]
  | a :: l, [] => by simp [cmpL]
  | a :: l, b :: m => by
    rw [cmpL]
    split
    · exact cmpL_in l m
    · exact cmpV_in a b
theorem in64 {x : Int} (h : x = -1 ∨ x = 0 ∨ x = 1) : InI64 x := by unfold InI64; omega

theorem buildInts4 {a b c d : Int} (h : ∀ x ∈ [a, b, c, d], InI64 x) : ∃ v, vbuildSlice Try.prog 86 4 [(0, .int .i64 a), (1, .int .i64 b), (2, .int .i64 c), (3, .int .i64 d)] = some v ∧ IntsV v [a, b, c, d] := by
  refine ⟨.slice .exact 1 [i64V a, i64V b, i64V c, i64V d] 4, ?_, .inr ⟨.exact, rfl⟩, h⟩
  simp [vbuildSlice, IT.u, IT.s, IT.z, vcells, vfill, zeroCellsV, setAll, i64V]
  simp [List.range, List.range.loop]

/-- What is known of a comparison of the parts. -/
def CmpOk (F : FuncId) (l : List Val) : Prop := ∀ a ∈ l, ∀ (b : Val) (c1 c2 : List V) (σ : St), ValC a c1 → ValC b c2 → ∃ σ', Does Try.prog prims F [.agg c1, .agg c2] σ (.ret (.int .i64 (cmpV a b))) σ' ∧ Keep σ σ'

def I59 (σ0 : St) (l m : List Val) : Nat → (Nat → V) → St → Prop := fun i e σ => e 13 = .int .i64 i ∧ i ≤ l.length ∧ i ≤ m.length ∧ cmpL l m = cmpL (l.drop i) (m.drop i) ∧ Keep σ0 σ

theorem comparefunc_does {F : FuncId} {l m : List Val} (H : CmpOk F l) {v w : V} (hv : ValsW l v) (hw : ValsW m w) (hl : l.length ≤ 4294967296) (σ : St) :
    ∃ σ', Does Try.prog prims 59 [v, w, .func F []] σ (.ret (.int .i64 (cmpL l m))) σ' ∧ Keep σ σ' := by
  have key : ∃ q σ', Does Try.prog prims 59 [v, w, .func F []] σ q σ' ∧ q = .ret (.int .i64 (cmpL l m)) ∧ Keep σ σ' := by
    apply k59_is.does (by simp)
    simp only [k59_a, WK, vop, evAll, evOpt, evParts, vbuiltin, vun, vextract, Nat.reduceLT, Nat.reduceEqDiff, ↓reduceIte, reduceCtorEq, Nat.reduceAdd, Int.reduceLT, Int.reduceNeg, List.getD_cons_zero, List.getD_cons_succ, hv.len]
    refine Ev.loopF (I59 σ l m) (fun i => l.length - i) 0 ⟨by simp [upd_some], by simp, by simp, by simp, Keep.refl σ⟩ ?_
    rintro i e σ1 ⟨h13, hi, him, heq, hk⟩ hf
    have h12 : e 12 = .int .i64 l.length := (hf 12 (by decide)).trans (by simp [upd_some])
    have h11 : e 11 = v := (hf 11 (by decide)).trans (by simp [upd_some])
    have h0 : e 0 = v := (hf 0 (by decide)).trans (by simp [upd_some])
    have h1 : e 1 = w := (hf 1 (by decide)).trans (by simp [upd_some])
    have h2 : e 2 = .func F [] := (hf 2 (by decide)).trans (by simp [upd_some])
    clear hf
    by_cases hlt : i < l.length
    · have hlt' : (i : Int) < l.length := by omega
      have hwi : IntKind.i64.wrap ((i : Int) + 1) = ((i + 1 : Nat) : Int) := by rw [show ((i : Int) + 1) = ((i + 1 : Nat) : Int) from by omega]; exact wrap_nat (by omega)
      obtain ⟨cs, c, ha, hld, hc⟩ := hv.get hlt
      obtain ⟨s2, hs2⟩ : ∃ s2 : St, s2 = ⟨(σ1.objs ++ [Ob.cells val0C]).set σ1.objs.length (Ob.cells c), σ1.toks⟩ := ⟨_, rfl⟩
      have q2 : IsV s2 σ1.objs.length c := by rw [hs2]; exact IsV.made
      have k2 : Keep σ1 s2 := by rw [hs2]; exact (Keep.refl σ1).madeV _ _
      rw [List.drop_eq_getElem_cons hlt] at heq
      by_cases hge : (m.length : Int) ≤ (i : Int)
      · have hmi : m.drop i = [] := List.drop_of_length_le (by omega)
        rw [hmi, cmpL_cons_nil] at heq
        simp only [k59_a, WK, vop, evAll, evOpt, evParts, vbuiltin, vun, vextract, Nat.reduceLT, Nat.reduceEqDiff, ↓reduceIte, reduceCtorEq, Nat.reduceAdd, Int.reduceLT, Int.reduceNeg, h1, h11, h12, h13, hlt', ha, hld, VZ24, vbox, vcells, IsV.new hc.len (show val0C.length = 4 from rfl) hc.one, ← hs2, hw.len, hge]
        exact ⟨by rw [heq], hk.trans k2⟩
      · have hltm : i < m.length := by omega
        obtain ⟨cs', c', ha', hld', hc'⟩ := hw.get hltm
        rw [List.drop_eq_getElem_cons hltm, cmpL] at heq
        obtain ⟨s3, hs3⟩ : ∃ s3 : St, s3 = ⟨(s2.objs ++ [Ob.cells val0C]).set s2.objs.length (Ob.cells c'), s2.toks⟩ := ⟨_, rfl⟩
        have q3 : IsV s3 s2.objs.length c' := by rw [hs3]; exact IsV.made
        have k3 : Keep s2 s3 := by rw [hs3]; exact (Keep.refl s2).madeV _ _
        have p3 := k3.atV q2
        obtain ⟨s4, d4, k4⟩ := H l[i] (List.getElem_mem hlt) m[i] c c' s3 hc hc'
        simp only [k59_a, WK, vop, evAll, evOpt, evParts, vbuiltin, vun, vextract, Nat.reduceLT, Nat.reduceEqDiff, ↓reduceIte, reduceCtorEq, Nat.reduceAdd, Int.reduceLT, Int.reduceNeg, h1, h2, h11, h12, h13, hlt', ha, hld, VZ24, vbox, vcells, IsV.new hc.len (show val0C.length = 4 from rfl) hc.one, ← hs2, hw.len, hge, ha', hld', IsV.new hc'.len (show val0C.length = 4 from rfl) hc'.one, ← hs3, p3.load hc.len, q3.load hc'.len]
        refine KD.ret d4 ?_
        by_cases hz : cmpV l[i] m[i] = 0
        · rw [if_pos hz] at heq
          simp only [k59_a, WK, vop, evAll, evOpt, evParts, vbuiltin, vun, vextract, Nat.reduceLT, Nat.reduceEqDiff, ↓reduceIte, reduceCtorEq, Nat.reduceAdd, Int.reduceLT, Int.reduceNeg, h13, hz, hwi]
          exact ⟨i + 1, ⟨by simp [upd_some], hlt, hltm, heq, ((hk.trans k2).trans k3).trans k4⟩, by omega⟩
        · rw [if_neg hz] at heq
          simp only [k59_a, WK, vop, evAll, evOpt, evParts, vbuiltin, vun, vextract, Nat.reduceLT, Nat.reduceEqDiff, ↓reduceIte, reduceCtorEq, Nat.reduceAdd, Int.reduceLT, Int.reduceNeg, h13, hz]
          exact ⟨by rw [heq], ((hk.trans k2).trans k3).trans k4⟩
    · have hlt' : ¬ (i : Int) < l.length := by omega
      have hli : l.drop i = [] := List.drop_of_length_le (by omega)
      rw [hli, cmpL_nil, List.length_drop] at heq
      by_cases hs : (l.length : Int) < m.length
      · rw [if_pos (by omega)] at heq
        simp only [k59_a, WK, vop, evAll, evOpt, evParts, vbuiltin, vun, vextract, Nat.reduceLT, Nat.reduceEqDiff, ↓reduceIte, reduceCtorEq, Nat.reduceAdd, Int.reduceLT, Int.reduceNeg, h0, h1, h11, h12, h13, hlt', hv.len, hw.len, hs]
        exact ⟨by rw [heq], hk⟩
      · rw [if_neg (by omega)] at heq
        simp only [k59_a, WK, vop, evAll, evOpt, evParts, vbuiltin, vun, vextract, Nat.reduceLT, Nat.reduceEqDiff, ↓reduceIte, reduceCtorEq, Nat.reduceAdd, Int.reduceLT, Int.reduceNeg, h0, h1, h11, h12, h13, hlt', hv.len, hw.len, hs]
        exact ⟨by rw [heq], hk⟩
  obtain ⟨q, σ', h1, rfl, h3⟩ := key
  exact ⟨σ', h1, h3⟩

theorem compare_ok : ∀ (n : Nat), n ≤ 4294967296 → ∀ {a b : Val} {c1 c2 : List V} (σ : St), weight a ≤ n → ValC a c1 → ValC b c2 → ∃ σ', Does Try.prog prims 26 [.agg c1, .agg c2] σ (.ret (.int .i64 (cmpV a b))) σ' ∧ Keep σ σ' := by
  intro n
  induction n with
  | zero => intro _ a b c1 c2 σ h; have := weight_pos a; omega
  | succ n ih =>
    intro hn a b c1 c2 σ hwt ha hb
    have key : ∃ q σ', Does Try.prog prims 26 [.agg c1, .agg c2] σ q σ' ∧ q = .ret (.int .i64 (cmpV a b)) ∧ Keep σ σ' := by
      obtain ⟨k, m, t, l, w, rfl, rfl, hw, ik, im⟩ := ha.inv
      obtain ⟨k', m', t', l', w', rfl, rfl, hw', ik', im'⟩ := hb.inv
      rw [weight] at hwt
      have hll := weights_len l
      have H : CmpOk 26 l := fun x hx b d1 d2 σ h1 h2 => by
        have := weights_mem hx
        exact ih (by omega) σ (by omega) h1 h2
      apply k26_is.does (by simp)
      obtain ⟨σ2, hσ2⟩ : ∃ σ2 : St, σ2 = ⟨(σ.objs ++ [Ob.cells [.int .i64 k, .int .i64 m, .str t, w]]) ++ [Ob.cells [.int .i64 k', .int .i64 m', .str t', w']], σ.toks⟩ := ⟨_, rfl⟩
      have hk2 : Keep σ σ2 := by rw [hσ2]; exact ((Keep.refl σ).push _).push _
      have q2 : IsV σ2 σ.objs.length [.int .i64 k, .int .i64 m, .str t, w] := by rw [hσ2]; show ((σ.objs ++ [_]) ++ [_])[_]? = _; rw [List.getElem?_append_left (by simp)]; exact push_new _ _
      have p2 : IsV σ2 (σ.objs.length + 1) [.int .i64 k', .int .i64 m', .str t', w'] := by rw [hσ2]; simp [IsV]
      obtain ⟨σ3, d3, k3⟩ := comparefunc_does H hw hw' (by omega) σ2
      have hI : ∀ x ∈ [sgn k k', sgn m m', Lib.compareBytes t t', cmpL l l'], InI64 x := by
        intro x hx
        simp only [List.mem_cons, List.not_mem_nil, or_false] at hx
        rcases hx with rfl | rfl | rfl | rfl
        · exact in64 (sgn_in _ _)
        · exact in64 (sgn_in _ _)
        · exact in64 (compareBytes_in _ _)
        · exact in64 (cmpL_in _ _)
      obtain ⟨b4, hb4, hb4i⟩ := buildInts4 hI
      have dor := or_does hb4i (by simp) σ3
      simp only [k26_a, WK, vop, evAll, evOpt, evParts, vbuiltin, vun, vextract, Nat.reduceLT, Nat.reduceEqDiff, ↓reduceIte, reduceCtorEq, Nat.reduceAdd, Int.reduceLT, Int.reduceNeg, List.getD_cons_zero, List.getD_cons_succ, vbox, vcells, List.length_append, List.length_cons, List.length_nil, ← hσ2, FV0, FV1, FV2, FV3, q2.kind, p2.kind]
      refine KD.ret (sgn_does _ _ _) ?_
      simp only [k26_a, WK, vop, evAll, evOpt, evParts, vbuiltin, vun, vextract, Nat.reduceLT, Nat.reduceEqDiff, ↓reduceIte, reduceCtorEq, Nat.reduceAdd, Int.reduceLT, Int.reduceNeg, FV0, FV1, FV2, FV3, q2.num, p2.num]
      refine KD.ret (sgn_does _ _ _) ?_
      simp only [k26_a, WK, vop, evAll, evOpt, evParts, vbuiltin, vun, vextract, Nat.reduceLT, Nat.reduceEqDiff, ↓reduceIte, reduceCtorEq, Nat.reduceAdd, Int.reduceLT, Int.reduceNeg, FV0, FV1, FV2, FV3, q2.text, p2.text]
      refine KD.ret (Does_compare t t' σ2) ?_
      simp only [k26_a, WK, vop, evAll, evOpt, evParts, vbuiltin, vun, vextract, Nat.reduceLT, Nat.reduceEqDiff, ↓reduceIte, reduceCtorEq, Nat.reduceAdd, Int.reduceLT, Int.reduceNeg, FV0, FV1, FV2, FV3, q2.list, p2.list]
      refine KD.ret d3 ?_
      simp only [k26_a, WK, vop, evAll, evOpt, evParts, vbuiltin, vun, vextract, Nat.reduceLT, Nat.reduceEqDiff, ↓reduceIte, reduceCtorEq, Nat.reduceAdd, Int.reduceLT, Int.reduceNeg, hb4]
      refine KD.ret dor ?_
      simp only [k26_a, WK, vop, evAll, evOpt, evParts, vbuiltin, vun, vextract, Nat.reduceLT, Nat.reduceEqDiff, ↓reduceIte, reduceCtorEq, Nat.reduceAdd, Int.reduceLT, Int.reduceNeg, q2.kind, q2.num, q2.text, q2.list, p2.kind, p2.num, p2.text, p2.list]
      rw [cmpV]
      exact ⟨rfl, hk2.trans k3⟩
    obtain ⟨q, σ', h1, rfl, h3⟩ := key
    exact ⟨σ', h1, h3⟩
theorem compare_does {a b : Val} {c1 c2 : List V} (σ : St) (hw : weight a ≤ 4294967296) (ha : ValC a c1) (hb : ValC b c2) : ∃ σ', Does Try.prog prims 26 [.agg c1, .agg c2] σ (.ret (.int .i64 (cmpV a b))) σ' ∧ Keep σ σ' :=
  compare_ok _ (Nat.le_refl _) σ hw ha hb
end Go.Proofs.Ytlimedbanpfkgaa.Q
