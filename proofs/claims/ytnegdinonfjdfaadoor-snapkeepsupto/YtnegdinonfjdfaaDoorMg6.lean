/- A part of the proof: Pr, Rc, Ta, Ka. -/
import Derived.Test.YtnegdinonfjdfaaDoorMg4
import Derived.Test.YtnegdinonfjdfaaDoorMg5
import Derived.Test.YtnegdinonfjdfaaDoorChecked
import Derived.Lib.LaidTab
import Derived.Shelf.SlIter.Nil
import Derived.Shelf.SortM.Plain
import Derived.Shelf.SortM.SortNone
set_option linter.unusedVariables false
set_option linter.unusedSimpArgs false
set_option maxRecDepth 100000
namespace Go.Proofs.YtnegdinonfjdfaaDoor.Q
open Go Go.RowKit Go.Proofs
theorem pTM : Tryd.prog.underlying 68 = some (.map 9 76) := by kernel_rfl
theorem pTF : Tryd.prog.underlying 76 = some (.pointer 78) := by kernel_rfl
theorem pTD : Tryd.prog.underlying 32 = some (.pointer 70) := by kernel_rfl
theorem pTB : Tryd.prog.underlying 22 = some (.slice 5) := by kernel_rfl
theorem pGM : isAggT Tryd.prog 68 = some false := by kernel_rfl
theorem pGB : isAggT Tryd.prog 22 = some false := by kernel_rfl
theorem pS1 : sizeT Tryd.prog 5 = some 1 := by kernel_rfl
theorem pSB : sizeT Tryd.prog 22 = some 1 := by kernel_rfl
theorem pFA : ∀ (r k : Nat) (hk : k < 6), vfieldAddr Tryd.prog 70 (.optr r 0) k = some (.optr r k)
  | r, 0, _ => by kernel_rfl
  | r, 1, _ => by kernel_rfl
  | r, 2, _ => by kernel_rfl
  | r, 3, _ => by kernel_rfl
  | r, 4, _ => by kernel_rfl
  | r, 5, _ => by kernel_rfl
theorem nilEP : ofVal (.slice none 0 0) = some .nils := by kernel_rfl
theorem pFF0 (r : Nat) : vfieldAddr Tryd.prog 78 (.optr r 0) 0 = some (.optr r 0) := by kernel_rfl
theorem pFF1 (r : Nat) : vfieldAddr Tryd.prog 78 (.optr r 0) 1 = some (.optr r 1) := by kernel_rfl
def rowLen : V → Option Nat
  | .nils => some 0
  | .slice _ _ _ n => some n
  | .hslice _ _ _ n => some n
  | _ => none
theorem rowLen_len {v : V} {n : Nat} (h : rowLen v = some n) : vlen Tryd.prog 22 v = some (.int .i64 (n : Nat)) := by
  cases v <;> simp only [rowLen, Option.some.injEq, reduceCtorEq] at h <;> (subst h; simp [vlen, pTB])
def fileLen (objs : List Ob) : V × V → Option Nat
  | (_, .optr rf 0) => match objs[rf]? with
    | some (.cells [s, w]) => match rowLen s, rowLen w with
      | some a, some b => some (a + b)
      | _, _ => none
    | _ => none
  | _ => none
def fileLens (objs : List Ob) : List (V × V) → Option (List Nat)
  | [] => some []
  | e :: es => match fileLen objs e, fileLens objs es with
    | some a, some l => some (a :: l)
    | _, _ => none
theorem fileLens_get {objs : List Ob} : ∀ {es : List (V × V)} {l : List Nat}, fileLens objs es = some l → l.length = es.length ∧ ∀ i (h : i < es.length), fileLen objs es[i] = some (l.getD i 0)
  | [], l, h => by simp [fileLens] at h; subst h; exact ⟨rfl, fun i h => by simp at h⟩
  | e :: es, l, h => by
    simp only [fileLens] at h
    split at h
    · rename_i a l' h1 h2
      injection h with h
      subst h
      obtain ⟨g1, g2⟩ := fileLens_get h2
      refine ⟨by simp [g1], fun i hi => ?_⟩
      cases i with
      | zero => exact h1
      | succ i => simpa using g2 i (by simpa using hi)
    · cases h
def sizeP (vs : List V) (σ : St) : Option (V × St) := match vs with
  | [.optr r 0] => match σ.objs[r]? with
    | some (.cells (.omap rm :: _)) => match σ.objs[rm]? with
      | some (.mp es) => match fileLens σ.objs es with
        | some l => if l.sum ≤ 4611686018427387904 then some (.int .i64 (l.sum : Nat), ⟨σ.objs ++ [.dead], σ.toks⟩) else none
        | none => none
      | _ => none
    | _ => none
  | _ => none
noncomputable def cSize : Code := (Tryd.f67.body).getD .skip
theorem bSize : Tryd.f67.body = some cSize := by kernel_rfl
noncomputable def lSize : Code := subC [true, true, false, true, false, false] cSize
theorem sSize : cSize = .seq (subC [false] cSize) (.seq (subC [true, false] cSize) (.seq (.seq (.region 2 (regOps (subC [true, true, false, false] cSize)) false) (.block 0 (.loop lSize))) (subC [true, true, true] cSize))) := by kernel_rfl
noncomputable def oSize2 : Array Oper := regOps (subC [true, true, false, false] cSize)
noncomputable def oSize3 : Array Oper := regOps (subC [false] lSize)
noncomputable def oSize4 : Array Oper := regOps (subC [true, true, false, false] lSize)
theorem slSize : lSize = .seq (.region 3 oSize3 false) (.seq (.cond (.tmp 12) .skip (.exit 0)) (.block 1 (.seq (.region 4 oSize4 false) (subC [true, true, false, true] lSize)))) := by kernel_rfl
theorem o2s : oSize2.toList = oSize2.toList.take 4 ++ [oSize2.getD 4 default] := by kernel_rfl
theorem o3s : oSize3.toList = oSize3.getD 0 default :: oSize3.toList.drop 1 := by kernel_rfl
theorem o4s : oSize4.toList = oSize4.getD 0 default :: oSize4.toList.drop 1 := by kernel_rfl
theorem vis_filter {n : Nat} {vis : List Nat} (h : vis.Nodup) (hl : ∀ i ∈ vis, i < n) : vis.Perm ((List.range n).filter fun i => decide (i ∈ vis)) :=
  (List.perm_ext_iff_of_nodup h (List.Pairwise.filter _ List.nodup_range)).2 fun i => by
    rw [List.mem_filter, List.mem_range]
    exact ⟨fun hi => ⟨hl i hi, by simpa using hi⟩, fun hi => by simpa using hi.2⟩
theorem vis_le {n : Nat} {vis : List Nat} (h : vis.Nodup) (hl : ∀ i ∈ vis, i < n) : vis.length ≤ n := by
  rw [(vis_filter h hl).length_eq]
  have := List.length_filter_le (fun i => decide (i ∈ vis)) (List.range n)
  simpa using this
theorem sum_filter_le (f : Nat → Nat) (p : Nat → Bool) : ∀ l : List Nat, ((l.filter p).map f).sum ≤ (l.map f).sum
  | [] => by simp
  | x :: l => by
    have := sum_filter_le f p l
    simp only [List.filter_cons]
    split
    · simp only [List.map_cons, List.sum_cons]; omega
    · simp only [List.map_cons, List.sum_cons]; omega
theorem vis_perm {n : Nat} {vis : List Nat} (h : vis.Nodup) (hl : ∀ i ∈ vis, i < n) (ha : ∀ i, i < n → i ∈ vis) : vis.Perm (List.range n) :=
  (List.perm_ext_iff_of_nodup h List.nodup_range).2 fun i => ⟨fun hi => List.mem_range.2 (hl i hi), fun hi => ha i (List.mem_range.1 hi)⟩
theorem set_self {α : Type} {l : List α} {i : Nat} {x : α} (h : l[i]? = some x) : l.set i x = l := by
  apply List.ext_getElem?
  intro j
  by_cases e : i = j
  · subst e; rw [gA5 (gA0.1 h).1, h]
  · rw [gA3 e]
theorem sum_range (l : List Nat) : ((List.range l.length).map fun i => l.getD i 0).sum = l.sum := by
  congr 1
  apply List.ext_getElem
  · simp
  · intro i h1 h2; simp at h1 ⊢; simp [h1]
theorem sum_le_of_vis {l : List Nat} {vis : List Nat} (h : vis.Nodup) (hl : ∀ i ∈ vis, i < l.length) : (vis.map fun i => l.getD i 0).sum ≤ l.sum := by
  rw [((vis_filter h hl).map _).sum_nat, ← sum_range l]
  exact sum_filter_le _ _ _
theorem size_ok {base : Nat} {w0 : World} {vs : List V} {σ : St} {v : V} {σ' : St} (h : sizeP vs σ = some (v, σ')) : CallOk Tryd.prog base w0 67 vs σ (.ret v) σ' := by
  unfold sizeP at h
  split at h
  · rename_i r
    split at h
    · rename_i rm rest hr
      split at h
      · rename_i es hm
        split at h
        · rename_i l hl
          split at h
          · rename_i hs
            injection h with h
            injection h with h1 h2
            subst h1 h2
            obtain ⟨hll, hlg⟩ := fileLens_get hl
            have hrml := (gA0.1 hm).1
            refine CallOk.nd (fn := Tryd.f67) Tryd.func67 bSize (by show [V.optr r 0].length ≤ 29; simp) ?_
            show Nd Tryd.prog base w0 29 cSize _ _ _
            rw [sSize]
            have hp := prim0_ok base w0
            refine Nd.seq (Nd.ev hp (k := .region k67_r0) (by kernel_rfl) (by kernel_rfl) (by kernel_rfl) ?_)
            simp only [k67_a, WKV, Nat.reduceLT, Nat.reduceEqDiff, ↓reduceIte, reduceCtorEq, Nat.reduceAdd, Int.reduceLT, Int.reduceNeg, noSB0, implies_true, eq_self, false_and, or_false, false_or]
            refine Nd.seq (Nd.ev hp (k := .region k67_r1) (by kernel_rfl) (by kernel_rfl) (by kernel_rfl) ?_)
            simp only [k67_a, WKV, Nat.reduceLT, Nat.reduceEqDiff, ↓reduceIte, reduceCtorEq, Nat.reduceAdd, Int.reduceLT, Int.reduceNeg, noSB0, implies_true, eq_self, false_and, or_false, false_or]
            refine Nd.seq (Nd.seq (Nd.region ?_))
            rw [show regOps (subC [true, true, false, false] cSize) = oSize2 from rfl, o2s]
            refine NdO.app (NdO.eo hp (cl := k67_r2.take 4) (by kernel_rfl) (by kernel_rfl) ?_)
            unfold k67_r2
            simp only [List.take_succ_cons, List.take_zero, WKV, Nat.reduceLT, Nat.reduceEqDiff, ↓reduceIte, reduceCtorEq, Nat.reduceAdd, Int.reduceLT, Int.reduceNeg, noSB0, implies_true, eq_self, false_and, or_false, false_or, gD0, pFA r 0 (by omega), vload_obj hr pGM]
            refine NdO.range (rm := rm) (es := es) (t := 68) (x := .tmp 9) (by kernel_rfl) (by kernel_rfl) pTM (by simp only [WKV, Nat.reduceLT, Nat.reduceEqDiff, ↓reduceIte, reduceCtorEq, Nat.reduceAdd, Int.reduceLT, Int.reduceNeg, noSB0, implies_true, eq_self, false_and, or_false, false_or]) hm ?_
            intro b a clock hI
            have hd : (oSize2.getD 4 default).dst = some 10 := by kernel_rfl
            rw [hd]
            refine NdO.nil (.inl ⟨rfl, ?_⟩)
            refine Nd.block ?_
            refine Nd.loop (fun vis e τ => ∃ seen last, It τ σ.objs.length rm es vis b clock a clock last seen ∧ τ = ⟨σ.objs.set rm (.mpR b es a clock) ++ [.it b clock seen last], σ.toks⟩ ∧ e 10 = .optr σ.objs.length 0 ∧ e 3 = .int .i64 ((vis.map fun i => l.getD i 0).sum : Nat)) (fun vis => es.length - vis.length) ?_ [] ⟨#[], clock, hI, rfl, by simp [upd_some], by simp [upd_some]⟩
            rintro vis e τ ⟨seen, last, hI, rfl, h10, h3⟩
            rw [slSize]
            refine Nd.seq (Nd.region ?_)
            rw [o3s]
            have hd3 : (oSize3.getD 0 default).dst = some 11 := by kernel_rfl
            refine NdO.next (ri := σ.objs.length) (rm := rm) (x := .tmp 10) (by kernel_rfl) (by kernel_rfl) (by simp only [WKV, Nat.reduceLT, Nat.reduceEqDiff, ↓reduceIte, reduceCtorEq, Nat.reduceAdd, Int.reduceLT, Int.reduceNeg, noSB0, implies_true, eq_self, false_and, or_false, false_or, h10]) hI (by omega) ?_ ?_
            · intro hall
              rw [hd3]
              refine NdO.eo hp (cl := k67_r3.drop 1) (by kernel_rfl) (by kernel_rfl) ?_
              unfold k67_r3
              simp only [List.drop_succ_cons, List.drop_zero, WKV, Nat.reduceLT, Nat.reduceEqDiff, ↓reduceIte, reduceCtorEq, Nat.reduceAdd, Int.reduceLT, Int.reduceNeg, noSB0, implies_true, eq_self, false_and, or_false, false_or]
              refine Nd.seq (Nd.cond (t := false) (by simp only [WKV, Nat.reduceLT, Nat.reduceEqDiff, ↓reduceIte, reduceCtorEq, Nat.reduceAdd, Int.reduceLT, Int.reduceNeg, noSB0, implies_true, eq_self, false_and, or_false, false_or]) (Nd.exit (.inr ⟨(by intro h; cases h), .inr ⟨(by intro h; cases h), .inl ⟨rfl, ?_⟩⟩⟩)))
              have hperm := vis_perm hI.vnd hI.vlt hall
              have hsum : (vis.map fun i => l.getD i 0).sum = l.sum := by rw [(hperm.map _).sum_nat, ← hll, sum_range]
              rw [hsum] at h3
              refine Nd.re (σ1 := ⟨σ.objs ++ [.dead], σ.toks⟩) ?_ ?_
              · intro g w tm hR hT
                refine ⟨g, Ext.refl _ _ _, ?_⟩
                obtain ⟨m1, m2, m3, m4, m5, m6, m7⟩ := hR.obj rm _ hI.mp
                have h1 := hR.reOb hI.mp (fun h => h) (o' := .mp es) (by intro h; cases h) ⟨m1, m2, a, clock, m4, m5, m6, m7⟩
                have h2 := h1.bury σ.objs.length (by
                  simp only
                  rw [gA3 (by omega), hI.it]
                  intro h; cases h)
                have e1 : ((σ.objs.set rm (.mpR b es a clock) ++ [Ob.it b clock seen last]).set rm (.mp es)).set σ.objs.length .dead = σ.objs ++ [.dead] := by
                  rw [List.set_append_left _ _ (by simpa using hrml), List.set_set, List.set_append_right _ _ (by simp)]
                  simp [set_self hm]
                simp only at h2
                rw [e1] at h2
                exact h2
              · refine Nd.ev hp (k := .seq (.region k67_r6) .ret) (by kernel_rfl) (by kernel_rfl) (by kernel_rfl) ?_
                simp only [k67_a, WKV, Nat.reduceLT, Nat.reduceEqDiff, ↓reduceIte, reduceCtorEq, Nat.reduceAdd, Int.reduceLT, Int.reduceNeg, noSB0, implies_true, eq_self, false_and, or_false, false_or, h3]
                refine ⟨_, by show vresults _ _ (env 29 _) [ResultVar.tmp 2] = _; simp only [WKV, Nat.reduceLT, Nat.reduceEqDiff, ↓reduceIte, reduceCtorEq, Nat.reduceAdd, Int.reduceLT, Int.reduceNeg, noSB0, implies_true, eq_self, false_and, or_false, false_or]; rfl, rfl⟩
            · intro i hiv hi hI2
              rw [hd3]
              refine NdO.eo hp (cl := k67_r3.drop 1) (by kernel_rfl) (by kernel_rfl) ?_
              unfold k67_r3
              simp only [List.drop_succ_cons, List.drop_zero, WKV, Nat.reduceLT, Nat.reduceEqDiff, ↓reduceIte, reduceCtorEq, Nat.reduceAdd, Int.reduceLT, Int.reduceNeg, noSB0, implies_true, eq_self, false_and, or_false, false_or]
              refine Nd.seq (Nd.cond (t := true) (by simp only [WKV, Nat.reduceLT, Nat.reduceEqDiff, ↓reduceIte, reduceCtorEq, Nat.reduceAdd, Int.reduceLT, Int.reduceNeg, noSB0, implies_true, eq_self, false_and, or_false, false_or]) (Nd.skip (.inl ⟨rfl, ?_⟩)))
              refine Nd.block (Nd.seq (Nd.region ?_))
              rw [o4s]
              refine NdO.entry (x := .tmp 10) (by kernel_rfl) (by kernel_rfl) (by simp only [WKV, Nat.reduceLT, Nat.reduceEqDiff, ↓reduceIte, reduceCtorEq, Nat.reduceAdd, Int.reduceLT, Int.reduceNeg, noSB0, implies_true, eq_self, false_and, or_false, false_or, h10]) hI2 hi ?_
              have hd4 : (oSize4.getD 0 default).dst = some 13 := by kernel_rfl
              rw [hd4]
              refine NdO.eo hp (cl := k67_r4.drop 1) (by kernel_rfl) (by kernel_rfl) ?_
              unfold k67_r4
              simp only [List.drop_succ_cons, List.drop_zero, WKV, Nat.reduceLT, Nat.reduceEqDiff, ↓reduceIte, reduceCtorEq, Nat.reduceAdd, Int.reduceLT, Int.reduceNeg, noSB0, implies_true, eq_self, false_and, or_false, false_or, h3]
              have hfl := hlg i hi
              unfold fileLen at hfl
              split at hfl
              · rename_i key rf hei
                split at hfl
                · rename_i fs fw hrf
                  split at hfl
                  · rename_i la lb hla hlb
                    injection hfl with hfl
                    have hne : rf ≠ rm := fun h => by rw [h, hm] at hrf; cases hrf
                    have hrfl := (gA0.1 hrf).1
                    have hset : (σ.objs.set rm (.mpR b es a clock) ++ [Ob.it b clock seen last]).set σ.objs.length (.it b clock (seen.push (a.getD i default).born) clock) = σ.objs.set rm (.mpR b es a clock) ++ [.it b clock (seen.push (a.getD i default).born) clock] := by
                      rw [List.set_append_right _ _ (by simp), List.length_set, Nat.sub_self]
                      rfl
                    simp only [hset] at hI2 ⊢
                    have hof : (σ.objs.set rm (.mpR b es a clock) ++ [Ob.it b clock (seen.push (a.getD i default).born) clock])[rf]? = some (.cells [fs, fw]) := by
                      rw [gA2 (by simpa using hrfl), gA3 (Ne.symm hne)]
                      exact hrf
                    have hsum := sum_le_of_vis (l := l) hI2.vnd (by rw [hll]; exact hI2.vlt)
                    simp only [List.map_append, List.map_cons, List.map_nil, List.sum_append, List.sum_cons, List.sum_nil, Nat.add_zero] at hsum
                    have w1 : IntKind.i64.wrap ((la : Int) + (lb : Nat)) = ((la + lb : Nat) : Int) := by rw [wrap_i64 (by omega) (by omega)]; omega
                    have w2 : IntKind.i64.wrap ((((vis.map fun i => l.getD i 0).sum : Nat) : Int) + ((la + lb : Nat) : Int)) = ((((vis ++ [i]).map fun i => l.getD i 0).sum : Nat) : Int) := by
                      simp only [List.map_append, List.map_cons, List.map_nil, List.sum_append, List.sum_cons, List.sum_nil, Nat.add_zero]
                      rw [wrap_i64 (by omega) (by omega)]
                      omega
                    refine Nd.ev hp (k := .region k67_r5) (by kernel_rfl) (by kernel_rfl) (by kernel_rfl) ?_
                    simp only [k67_a, WKV, Nat.reduceLT, Nat.reduceEqDiff, ↓reduceIte, reduceCtorEq, Nat.reduceAdd, Int.reduceLT, Int.reduceNeg, noSB0, implies_true, eq_self, false_and, or_false, false_or, h3, hei, pFF0, pFF1, vload_obj hof pGB, rowLen_len hla, rowLen_len hlb, w1, w2]
                    refine ⟨vis ++ [i], ⟨_, _, hI2, rfl, by simp [upd_some, h10], by simp [upd_some]⟩, ?_⟩
                    have := vis_le hI2.vnd hI2.vlt
                    simp only [List.length_append, List.length_cons, List.length_nil] at this ⊢
                    omega
                  · cases hfl
                · cases hfl
              · cases hfl
          · cases h
        · cases h
      · cases h
    · cases h
  · cases h
def applyW (W : List (Nat × Ob)) (O : List Ob) : List Ob := W.foldl (fun O p => O.set p.1 p.2) O
theorem applyW_cons (p : Nat × Ob) (W : List (Nat × Ob)) (O : List Ob) : applyW (p :: W) O = applyW W (O.set p.1 p.2) := rfl
theorem applyW_append (W W2 : List (Nat × Ob)) (O : List Ob) : applyW (W ++ W2) O = applyW W2 (applyW W O) := List.foldl_append
theorem applyW_len : ∀ (W : List (Nat × Ob)) (O : List Ob), (applyW W O).length = O.length
  | [], O => rfl
  | p :: W, O => by rw [applyW_cons, applyW_len W, List.length_set]
theorem applyW_ne : ∀ (W : List (Nat × Ob)) (O : List Ob) {q : Nat}, q ∉ W.map (·.1) → (applyW W O)[q]? = O[q]?
  | [], O, q, h => rfl
  | p :: W, O, q, h => by
    simp only [List.map_cons, List.mem_cons, not_or] at h
    rw [applyW_cons, applyW_ne W _ h.2, gA3 (Ne.symm h.1)]
theorem applyW_set : ∀ (W : List (Nat × Ob)) (O : List Ob) {q : Nat} (x : Ob), q ∉ W.map (·.1) → applyW W (O.set q x) = (applyW W O).set q x
  | [], O, q, x, h => rfl
  | p :: W, O, q, x, h => by
    simp only [List.map_cons, List.mem_cons, not_or] at h
    rw [applyW_cons, applyW_cons, List.set_comm _ _ h.1, applyW_set W _ x h.2]
theorem applyW_dead : ∀ {l : List Nat} {O : List Ob} {q : Nat} {o : Ob}, (applyW (l.map (·, Ob.dead)) O)[q]? = some o → o = .dead ∨ O[q]? = some o
  | [], O, q, o, h => .inr h
  | a :: l, O, q, o, h => by
    rw [List.map_cons, applyW_cons] at h
    rcases applyW_dead h with h | h
    · exact .inl h
    · rw [List.getElem?_set] at h
      split at h
      · split at h
        · injection h with h; exact .inl h.symm
        · cases h
      · exact .inr h
theorem nodup_key : ∀ {W : List (Nat × Ob)}, (W.map (·.1)).Nodup → ∀ x ∈ W, ∀ y ∈ W, x.1 = y.1 → x = y
  | [], _, x, hx, _, _, _ => by cases hx
  | p :: W, h, x, hx, y, hy, he => by
    simp only [List.map_cons, List.nodup_cons] at h
    rcases List.mem_cons.1 hx with rfl | hx1 <;> rcases List.mem_cons.1 hy with rfl | hy1
    · rfl
    · exact absurd (List.mem_map.2 ⟨y, hy1, he.symm⟩) h.1
    · exact absurd (List.mem_map.2 ⟨x, hx1, he⟩) h.1
    · exact nodup_key h.2 x hx1 y hy1 he
theorem applyW_perm {W W2 : List (Nat × Ob)} (hp : W.Perm W2) (hn : (W.map (·.1)).Nodup) (O : List Ob) : applyW W O = applyW W2 O := by
  refine hp.foldl_eq' (fun x hx y hy z => ?_) O
  by_cases e : x.1 = y.1
  · rw [nodup_key hn x hx y hy e]
  · exact List.set_comm _ _ e
theorem nodup_flat {f : Nat → List Nat} : ∀ {l : List Nat}, l.Nodup → (∀ i ∈ l, (f i).Nodup) → (∀ i ∈ l, ∀ j ∈ l, i ≠ j → ∀ x ∈ f i, x ∉ f j) → (l.flatMap f).Nodup
  | [], _, _, _ => by simp
  | i :: l, hl, h1, h2 => by
    rw [List.flatMap_cons, List.nodup_append]
    rw [List.nodup_cons] at hl
    refine ⟨h1 i (List.mem_cons_self ..), nodup_flat hl.2 (fun j hj => h1 j (List.mem_cons_of_mem _ hj)) (fun a ha b hb => h2 a (List.mem_cons_of_mem _ ha) b (List.mem_cons_of_mem _ hb)), fun x hx y hy => ?_⟩
    rintro rfl
    obtain ⟨j, hj, hxj⟩ := List.mem_flatMap.1 hy
    exact h2 i (List.mem_cons_self ..) j (List.mem_cons_of_mem _ hj) (fun e => hl.1 (by rw [e]; exact hj)) x hx hxj
theorem flat_nodup {α : Type} {f : α → List Nat} : ∀ {l : List α}, (l.flatMap f).Nodup → (∀ (i : Nat) (h : i < l.length), (f l[i]).Nodup) ∧ ∀ (i j : Nat) (h : i < l.length) (h' : j < l.length), i ≠ j → ∀ x ∈ f l[i], x ∉ f l[j]
  | [], _ => ⟨fun i h => by simp at h, fun i j h => by simp at h⟩
  | a :: l, hl => by
    rw [List.flatMap_cons, List.nodup_append] at hl
    obtain ⟨g1, g2⟩ := flat_nodup hl.2.1
    have g3 : ∀ (j : Nat) (h : j < l.length), ∀ x ∈ f a, x ∉ f l[j] := fun j h x hx hy => hl.2.2 x hx x (List.mem_flatMap.2 ⟨_, List.getElem_mem h, hy⟩) rfl
    refine ⟨fun i h => ?_, fun i j h h' hne x hx hy => ?_⟩
    · cases i with
      | zero => exact hl.1
      | succ i => exact g1 i (by simpa using h)
    · cases i with
      | zero => cases j with
        | zero => exact hne rfl
        | succ j => exact g3 j (by simpa using h') x hx hy
      | succ i => cases j with
        | zero => exact g3 i (by simpa using h) x hy hx
        | succ j => exact g2 i j (by simpa using h) (by simpa using h') (by omega) x hx hy
structure FO where
  rf : Nat
  s : V
  rs : Option Nat
  cs : List V
  w : V
  rw : Option Nat
  ds : List V
  deriving Inhabited
def rowOf (objs : List Ob) : V → Option (Option Nat × List V)
  | .nils => some (none, [])
  | .hslice r 0 1 n => match objs[r]? with
    | some (.cells cs) => if n ≤ cs.length then some (some r, cs.take n) else none
    | _ => none
  | _ => none
def fileOf (objs : List Ob) : V × V → Option FO
  | (_, .optr rf 0) => match objs[rf]? with
    | some (.cells [s, w]) => match rowOf objs s, rowOf objs w with
      | some (rs, cs), some (rw, ds) => some ⟨rf, s, rs, cs, w, rw, ds⟩
      | _, _ => none
    | _ => none
  | _ => none
def filesOf (objs : List Ob) : List (V × V) → Option (List FO)
  | [] => some []
  | e :: es => match fileOf objs e, filesOf objs es with
    | some a, some l => some (a :: l)
    | _, _ => none
def FO.ids (f : FO) : List Nat := f.rf :: (f.rs.toList ++ f.rw.toList)
def FO.kept (f : FO) (k : Int) : List V := f.ds.take k.toNat
def fwrites (k : Int) (base : Nat) (fos : List FO) (i : Nat) : List (Nat × Ob) :=
  let f := fos.getD i default
  if f.kept k = [] then [(f.rf, .cells [f.s, .nils])] else
    f.rs.toList.map (·, Ob.dead) ++ [(f.rf, .cells [.hslice (base + i) 0 1 (f.cs.length + (f.kept k).length), .nils]), (base + i, .cells (f.cs ++ f.kept k))]
instance (k : Int) (f : FO) : Decidable (f.kept k = []) := match f.kept k with
  | [] => .isTrue rfl
  | _ :: _ => .isFalse (by intro h; cases h)
def offP (vs : List V) (σ : St) : Option (V × St) := match vs with
  | [.nilp, _] => some (.tuple [], σ)
  | [.optr r 0, .int .i64 k] => match σ.objs[r]? with
    | some (.cells [.omap rm, room, .bool off, wr, ar, kp]) => if off = true then some (.tuple [], σ) else match σ.objs[rm]? with
      | some (.mp es) => match filesOf σ.objs es with
        | some fos => if (fos.flatMap FO.ids).Nodup ∧ r ∉ fos.flatMap FO.ids ∧ (fos.all fun f => (f.kept k).all one && decide (f.cs.length + (f.kept k).length ≤ 140737488355328)) = true then
            some (.tuple [], ⟨(applyW ((List.range es.length).flatMap (fwrites k (σ.objs.length + 1) fos)) (σ.objs ++ [.dead] ++ List.replicate es.length .unb)).set r (.cells [.omap rm, room, .bool true, wr, .int .i64 0, kp]), σ.toks⟩)
          else none
        | none => none
      | _ => none
    | _ => none
  | _ => none
theorem filesOf_get {objs : List Ob} : ∀ {es : List (V × V)} {l : List FO}, filesOf objs es = some l → l.length = es.length ∧ ∀ i (h : i < es.length) (h' : i < l.length), fileOf objs es[i] = some l[i]
  | [], l, h => by simp [filesOf] at h; subst h; exact ⟨rfl, fun i h => by simp at h⟩
  | e :: es, l, h => by
    simp only [filesOf] at h
    split at h
    · rename_i a l' h1 h2
      injection h with h
      subst h
      obtain ⟨g1, g2⟩ := filesOf_get h2
      refine ⟨by simp [g1], fun i hi hi' => ?_⟩
      cases i with
      | zero => exact h1
      | succ i => simpa using g2 i (by simpa using hi) (by simpa using hi')
    · cases h
theorem rowOf_spec {objs : List Ob} {v : V} {q : Option Nat} {cs : List V} (h : rowOf objs v = some (q, cs)) : (v = .nils ∧ q = none ∧ cs = []) ∨ ∃ r full, v = .hslice r 0 1 cs.length ∧ q = some r ∧ objs[r]? = some (.cells full) ∧ cs.length ≤ full.length ∧ cs = full.take cs.length := by
  unfold rowOf at h
  split at h
  · injection h with h; injection h with h1 h2; subst h1 h2; exact .inl ⟨rfl, rfl, rfl⟩
  · rename_i r n
    split at h
    · rename_i full hr
      split at h
      · rename_i hn
        injection h with h; injection h with h1 h2; subst h1 h2
        have : (full.take n).length = n := by rw [List.length_take]; omega
        exact .inr ⟨r, full, by rw [this], rfl, hr, by rw [this]; exact hn, by rw [this]⟩
      · cases h
    · cases h
  · cases h
theorem fileOf_spec {objs : List Ob} {e : V × V} {f : FO} (h : fileOf objs e = some f) : e.2 = .optr f.rf 0 ∧ objs[f.rf]? = some (.cells [f.s, f.w]) ∧ rowOf objs f.s = some (f.rs, f.cs) ∧ rowOf objs f.w = some (f.rw, f.ds) := by
  unfold fileOf at h
  split at h
  · rename_i key rf
    split at h
    · rename_i s w hr
      split at h
      · rename_i rs cs rw ds h1 h2
        injection h with h
        subst h
        exact ⟨rfl, hr, h1, h2⟩
      · cases h
    · cases h
  · cases h
theorem fwrites_keys {k : Int} {base : Nat} {fos : List FO} {i : Nat} {q : Nat} (h : q ∈ (fwrites k base fos i).map (·.1)) : q ∈ (fos.getD i default).ids ∨ q = base + i := by
  unfold fwrites at h
  simp only at h
  split at h
  · simp at h; exact .inl (by simp [FO.ids, h])
  · simp only [List.map_append, List.map_map, List.map_cons, List.map_nil, List.mem_append, List.mem_map, List.mem_cons, List.not_mem_nil, or_false] at h
    rcases h with ⟨a, ha, rfl⟩ | rfl | rfl
    · exact .inl (by simp only [FO.ids, List.mem_cons, List.mem_append]; exact .inr (.inl ha))
    · exact .inl (by simp [FO.ids])
    · exact .inr rfl
theorem ids_lt {objs : List Ob} {e : V × V} {f : FO} (h : fileOf objs e = some f) {q : Nat} (hq : q ∈ f.ids) : ∃ cs, objs[q]? = some (.cells cs) := by
  obtain ⟨_, h2, h3, h4⟩ := fileOf_spec h
  simp only [FO.ids, List.mem_cons, List.mem_append] at hq
  rcases hq with rfl | hq | hq
  · exact ⟨_, h2⟩
  · rcases rowOf_spec h3 with ⟨_, e, _⟩ | ⟨r, full, _, e, hr, _⟩
    · rw [e] at hq; cases hq
    · rw [e] at hq; simp at hq; subst hq; exact ⟨_, hr⟩
  · rcases rowOf_spec h4 with ⟨_, e, _⟩ | ⟨r, full, _, e, hr, _⟩
    · rw [e] at hq; cases hq
    · rw [e] at hq; simp at hq; subst hq; exact ⟨_, hr⟩
theorem rowOf_eq {objs objs2 : List Ob} {v : V} {q : Option Nat} {cs : List V} (h : rowOf objs v = some (q, cs)) (hq : ∀ r, q = some r → objs2[r]? = objs[r]?) : rowOf objs2 v = some (q, cs) := by
  rcases rowOf_spec h with ⟨rfl, rfl, rfl⟩ | ⟨r, full, rfl, rfl, hr, hl, hc⟩
  · rfl
  · simp only [rowOf]
    rw [hq r rfl, hr]
    simp only
    rw [if_pos hl, ← hc]
theorem kept_slice {objs : List Ob} {v : V} {q : Option Nat} {ds : List V} (h : rowOf objs v = some (q, ds)) (k : Int) :
    ∃ w', vslice Tryd.prog 22 v none (some (.int .i64 (min (max k 0) (ds.length : Nat)))) none = some w' ∧ vnewsO Tryd.prog objs 22 w' 1 = some (ds.take k.toNat, (ds.take k.toNat).length) := by
  have hk : (min (max k 0) (ds.length : Nat)).toNat = (ds.take k.toNat).length := by rw [List.length_take]; omega
  have h0 : 0 ≤ min (max k 0) (ds.length : Nat) := by omega
  have h1 : min (max k 0) (ds.length : Nat) ≤ ds.length := by omega
  rcases rowOf_spec h with ⟨rfl, rfl, rfl⟩ | ⟨r, full, rfl, rfl, hr, hl, hc⟩
  · refine ⟨.nils, ?_, by simp [vnewsO, vnews, pTB]⟩
    have : min (max k 0) (([] : List V).length : Nat) = 0 := by simp; omega
    rw [this]
    exact (by kernel_rfl : vslice Tryd.prog 22 .nils none (some (.int .i64 0)) none = some .nils)
  · have hb := vbounds_hi (k := .i64) (len := ds.length) h0 h1
    refine ⟨.hslice r 0 1 (ds.take k.toNat).length, ?_, ?_⟩
    · simp only [vslice, pTB, pS1, hb]
      rw [hk]
      simp
    · simp only [vnewsO, vnews, pTB, hr, Nat.zero_add, Nat.mul_one, List.drop_zero]
      have e1 : full.take (ds.take k.toNat).length = ds.take k.toNat := by
        rw [List.length_take, hc]
        simp only [List.length_take]
        rw [List.take_take]
        congr 1
        have := hl
        omega
      have hle : (ds.take k.toNat).length ≤ full.length := by rw [List.length_take]; omega
      simp only [e1, hle, and_self, true_and, ↓reduceIte]
theorem off_append {objs : List Ob} {toks : List Bool} {s w' : V} {q : Option Nat} {cs ys : List V} (h : rowOf objs s = some (q, cs)) (hw : vnewsO Tryd.prog objs 22 w' 1 = some (ys, ys.length)) (ho : ys.all one = true) (hl : cs.length + ys.length ≤ 140737488355328) :
    vappendRow Tryd.prog ⟨objs, toks⟩ 22 22 s w' = if ys = [] then some (s, ⟨objs, toks⟩) else some (.hslice objs.length 0 1 (cs.length + ys.length), ⟨(applyW (q.toList.map (·, Ob.dead)) objs) ++ [.cells (cs ++ ys)], toks⟩) := by
  have hz : zeroT Tryd.prog 5 = some (.int .u8 0) := by kernel_rfl
  have hb : (Tryd.prog.info? 5).map (·.bytes) = some 1 := by kernel_rfl
  rcases rowOf_spec h with ⟨rfl, rfl, rfl⟩ | ⟨r, full, rfl, rfl, hr, hfl, hc⟩
  · by_cases h0 : ys = []
    · subst h0; simp [vappendRow, pTB, hb, pS1, hz, vcells, hw]
    · have h1 : ys.length ≠ 0 := fun h => h0 (List.length_eq_zero_iff.1 h)
      simp only [List.length_nil, Nat.zero_add] at hl
      simp [vappendRow, pTB, hb, pS1, hz, vcells, hw, h0, hl, applyW]
  · by_cases h0 : ys = []
    · subst h0; simp [vappendRow, pTB, hb, pS1, hz, vcells, hw]
    · have h1 : ys.length ≠ 0 := fun h => h0 (List.length_eq_zero_iff.1 h)
      have h2 : List.take cs.length full = cs := hc.symm
      simp [vappendRow, pTB, hb, pS1, hz, vcells, hw, h0, hr, hl, hfl, ho, h2, applyW]
theorem hides {base : Nat} {w0 : World} : ∀ (n : Nat) {g : Gh} {objs : List Ob} {toks : List Bool} {w : World}, Rel base w0 g ⟨objs, toks⟩ w → ∃ g1, Ext g toks w g1 toks w ∧ Rel base w0 g1 ⟨objs ++ List.replicate n .unb, toks⟩ w
  | 0, g, objs, toks, w, h => ⟨g, Ext.refl _ _ _, by simpa using h⟩
  | n + 1, g, objs, toks, w, h => by
    obtain ⟨g1, h1, h2⟩ := hides n h.hide
    refine ⟨g1, (Ext.hide g toks w).trans h1, ?_⟩
    rw [List.replicate_succ, List.append_cons]
    exact h2
noncomputable def cOff : Code := (Tryd.f24.body).getD .skip
theorem bOff : Tryd.f24.body = some cOff := by kernel_rfl
noncomputable def lOff : Code := subC [true, false, true, false, false] cOff
noncomputable def oOff1 : Array Oper := regOps (subC [true, false, false] cOff)
noncomputable def oOff2 : Array Oper := regOps (subC [false] lOff)
noncomputable def oOff3 : Array Oper := regOps (subC [true, true, false, false] lOff)
theorem sOff : cOff = .seq (subC [false] cOff) (.seq (.seq (.region 1 oOff1 false) (.block 0 (.loop lOff))) (subC [true, true] cOff)) := by kernel_rfl
theorem slOff : lOff = .seq (.region 2 oOff2 false) (.seq (.cond (.tmp 20) .skip (.exit 0)) (.block 1 (.seq (.region 3 oOff3 false) (subC [true, true, false, true] lOff)))) := by kernel_rfl
theorem f1s : oOff1.toList = oOff1.toList.take 4 ++ [oOff1.getD 4 default] := by kernel_rfl
theorem f2s : oOff2.toList = oOff2.getD 0 default :: oOff2.toList.drop 1 := by kernel_rfl
theorem f3s : oOff3.toList = oOff3.getD 0 default :: oOff3.toList.drop 1 := by kernel_rfl
theorem renV_optr {N j r o : Nat} (h : r ≠ N) : renV N j (.optr r o) = .optr r o := by simp only [renV]; rw [if_neg h]
theorem ren_sub {N j : Nat} {l : List V} (h : renVs N j l = l) : ∀ v ∈ l, renV N j v = v := by
  rw [renVs_map] at h
  intro v hv
  obtain ⟨i, hi, rfl⟩ := List.mem_iff_getElem.1 hv
  have := congrArg (·[i]?) h
  simpa [hi] using this
theorem ren_of {N j : Nat} {l : List V} (h : ∀ v ∈ l, renV N j v = v) : renVs N j l = l := by
  rw [renVs_map]
  exact (List.map_congr_left h).trans (List.map_id' l)
theorem fwrites_none {k : Int} {b : Nat} {fos : List FO} {i : Nat} {f : FO} (hf : fos.getD i default = f) (h : f.kept k = []) : fwrites k b fos i = [(f.rf, .cells [f.s, .nils])] := by
  unfold fwrites; rw [hf]; simp only; rw [if_pos h]
theorem fwrites_some {k : Int} {b : Nat} {fos : List FO} {i : Nat} {f : FO} (hf : fos.getD i default = f) (h : ¬ f.kept k = []) : fwrites k b fos i = f.rs.toList.map (·, Ob.dead) ++ [(f.rf, .cells [.hslice (b + i) 0 1 (f.cs.length + (f.kept k).length), .nils]), (b + i, .cells (f.cs ++ f.kept k))] := by
  unfold fwrites; rw [hf]; simp only; rw [if_neg h]
theorem off_ok {base : Nat} {w0 : World} {vs : List V} {σ : St} {v : V} {σ' : St} (h : offP vs σ = some (v, σ')) : CallOk Tryd.prog base w0 24 vs σ (.ret v) σ' := by
  have hp := prim0_ok base w0
  unfold offP at h
  split at h
  · rename_i x
    injection h with h
    injection h with h1 h2
    subst h1 h2
    refine CallOk.nd (fn := Tryd.f24) Tryd.func24 bOff (by show [V.nilp, x].length ≤ 53; simp) ?_
    show Nd Tryd.prog base w0 53 cOff _ _ _
    rw [sOff]
    refine Nd.seq (Nd.ev hp (k := .seq (.region k24_r0) (.cond (.tmp 13) .ret .skip)) (by kernel_rfl) (by kernel_rfl) (by kernel_rfl) ?_)
    simp only [k24_a, WKV, Nat.reduceLT, Nat.reduceEqDiff, ↓reduceIte, reduceCtorEq, Nat.reduceAdd, Int.reduceLT, Int.reduceNeg, noSB0, implies_true, eq_self, false_and, or_false, false_or, gD0, ofVal_nilp, eql_nilp pTD]
    exact ⟨[], by show vresults _ _ (env 53 _) [] = _; rfl, rfl⟩
  · rename_i r k
    split at h
    · rename_i rm room off wr ar kp hr
      have lo : vload Tryd.prog σ.objs 4 (.optr r 2) = some (.bool off) := by rw [vload_obj hr (by kernel_rfl)]; rfl
      have lm : vload Tryd.prog σ.objs 68 (.optr r 0) = some (.omap rm) := by rw [vload_obj hr (by kernel_rfl)]; rfl
      refine CallOk.nd (fn := Tryd.f24) Tryd.func24 bOff (by show [V.optr r 0, .int .i64 k].length ≤ 53; simp) ?_
      show Nd Tryd.prog base w0 53 cOff _ _ _
      rw [sOff]
      refine Nd.seq (Nd.ev hp (k := .seq (.region k24_r0) (.cond (.tmp 13) .ret .skip)) (by kernel_rfl) (by kernel_rfl) (by kernel_rfl) ?_)
      split at h
      · rename_i hoff
        injection h with h
        injection h with h1 h2
        subst h1 h2
        subst hoff
        simp only [k24_a, WKV, Nat.reduceLT, Nat.reduceEqDiff, ↓reduceIte, reduceCtorEq, Nat.reduceAdd, Int.reduceLT, Int.reduceNeg, noSB0, implies_true, eq_self, false_and, or_false, false_or, gD0, ofVal_nilp, eql_optr pTD, pFA r 2 (by omega), lo]
        exact ⟨[], by show vresults _ _ (env 53 _) [] = _; rfl, rfl⟩
      · rename_i hoff
        have hoff' : off = false := by simpa using hoff
        subst hoff'
        split at h
        · rename_i es hm
          split at h
          · rename_i fos hfos
            split at h
            · rename_i hcond
              obtain ⟨hnd, hrid, hall⟩ := hcond
              injection h with h
              injection h with h1 h2
              subst h1 h2
              obtain ⟨hfl, hfg⟩ := filesOf_get hfos
              have hrml := (gA0.1 hm).1
              have hrl := (gA0.1 hr).1
              obtain ⟨nd1, nd2⟩ := flat_nodup hnd
              have hgd : ∀ i, i < es.length → ∃ h : i < fos.length, fos.getD i default = fos[i] := fun i hi => ⟨by omega, by simp [gA6, List.getElem?_eq_getElem (show i < fos.length by omega)]⟩
              have hidl : ∀ i, i < es.length → ∀ q ∈ (fos.getD i default).ids, (∃ cs, σ.objs[q]? = some (.cells cs)) ∧ q < σ.objs.length ∧ q ≠ rm ∧ q ≠ r := by
                intro i hi q hq
                obtain ⟨hi', e⟩ := hgd i hi
                rw [e] at hq
                obtain ⟨cs, hc⟩ := ids_lt (hfg i hi hi') hq
                refine ⟨⟨cs, hc⟩, (gA0.1 hc).1, (fun e => by rw [e, hm] at hc; cases hc), ?_⟩
                rintro rfl
                exact hrid (List.mem_flatMap.2 ⟨_, List.getElem_mem hi', hq⟩)
              have hkey : ∀ i, i < es.length → ∀ q ∈ (fwrites k (σ.objs.length + 1) fos i).map (·.1), q ∈ (fos.getD i default).ids ∨ q = σ.objs.length + 1 + i := fun i hi q hq => fwrites_keys hq
              have hnodup : ∀ vis : List Nat, vis.Nodup → (∀ i ∈ vis, i < es.length) → ((vis.flatMap (fwrites k (σ.objs.length + 1) fos)).map (·.1)).Nodup := by
                intro vis hv hvl
                rw [List.map_flatMap]
                refine nodup_flat hv (fun i hi => ?_) (fun i hi j hj hne x hx hx2 => ?_)
                · obtain ⟨hi', e⟩ := hgd i (hvl i hi)
                  have h9 := nd1 i hi'
                  have h8 := hidl i (hvl i hi)
                  rw [← e] at h9
                  obtain ⟨f, hf⟩ : ∃ f, fos.getD i default = f := ⟨_, rfl⟩
                  rw [hf] at h8 h9
                  by_cases hke : f.kept k = []
                  · rw [fwrites_none hf hke]; simp
                  · rw [fwrites_some hf hke]
                    have hrfm : f.rf ∈ f.ids := by simp [FO.ids]
                    have l1 := (h8 _ hrfm).2.1
                    cases hrs : f.rs with
                    | none => simp; omega
                    | some q =>
                      have hqm : q ∈ f.ids := by simp [FO.ids, hrs]
                      have l2 := (h8 _ hqm).2.1
                      have h7 : f.rf ≠ q := by
                        intro e2
                        simp only [FO.ids, hrs, List.nodup_cons] at h9
                        exact h9.1 (by simp [e2])
                      simp
                      omega
                · rcases hkey i (hvl i hi) x hx with h1 | h1 <;> rcases hkey j (hvl j hj) x hx2 with h2 | h2
                  · obtain ⟨hi', e⟩ := hgd i (hvl i hi)
                    obtain ⟨hj', e'⟩ := hgd j (hvl j hj)
                    rw [e] at h1
                    rw [e'] at h2
                    exact nd2 i j hi' hj' hne x h1 h2
                  · have := (hidl i (hvl i hi) x h1).2.1; omega
                  · have := (hidl j (hvl j hj) x h2).2.1; omega
                  · omega
              simp only [k24_a, WKV, Nat.reduceLT, Nat.reduceEqDiff, ↓reduceIte, reduceCtorEq, Nat.reduceAdd, Int.reduceLT, Int.reduceNeg, noSB0, implies_true, eq_self, false_and, or_false, false_or, gD0, ofVal_nilp, eql_optr pTD, pFA r 2 (by omega), lo]
              refine Nd.seq (Nd.seq (Nd.region ?_))
              rw [f1s]
              refine NdO.app (NdO.eo hp (cl := k24_r1.take 4) (by kernel_rfl) (by kernel_rfl) ?_)
              unfold k24_r1
              simp only [List.take_succ_cons, List.take_zero, WKV, Nat.reduceLT, Nat.reduceEqDiff, ↓reduceIte, reduceCtorEq, Nat.reduceAdd, Int.reduceLT, Int.reduceNeg, noSB0, implies_true, eq_self, false_and, or_false, false_or, gD0, pFA r 0 (by omega), lm]
              refine NdO.range (rm := rm) (es := es) (t := 68) (x := .tmp 17) (by kernel_rfl) (by kernel_rfl) pTM (by simp only [WKV, Nat.reduceLT, Nat.reduceEqDiff, ↓reduceIte, reduceCtorEq, Nat.reduceAdd, Int.reduceLT, Int.reduceNeg, noSB0, implies_true, eq_self, false_and, or_false, false_or]) hm ?_
              intro b a clock hI
              have hd : (oOff1.getD 4 default).dst = some 18 := by kernel_rfl
              rw [hd]
              refine NdO.nil (.inl ⟨rfl, ?_⟩)
              obtain ⟨n, hn⟩ : ∃ n, n = σ.objs.length := ⟨_, rfl⟩
              obtain ⟨W, hW⟩ : ∃ W, W = fwrites k (n + 1) fos := ⟨_, rfl⟩
              obtain ⟨B, hB⟩ : ∃ B : Array Nat → Nat → List Ob, B = fun seen last => σ.objs.set rm (.mpR b es a clock) ++ [.it b clock seen last] ++ List.replicate es.length .unb := ⟨_, rfl⟩
              rw [← hn, ← hW] at hkey hnodup
              rw [← hn] at hrml hrl hidl
              rw [← hn, ← hW]
              have hBl : ∀ seen last, (B seen last).length = n + 1 + es.length := fun seen last => by rw [hB]; simp [hn]; omega
              have hBi : ∀ seen last, (B seen last)[n]? = some (.it b clock seen last) := fun seen last => by
                rw [hB]; simp only
                rw [List.append_assoc, gA4 (by rw [List.length_set, hn]; exact Nat.le_refl _), List.length_set, hn, Nat.sub_self]
                rfl
              have hBm : ∀ seen last, (B seen last)[rm]? = some (.mpR b es a clock) := fun seen last => by
                rw [hB]; simp only
                rw [List.append_assoc, gA2 (by rw [List.length_set, ← hn]; exact hrml), gA5 (by rw [← hn]; exact hrml)]
              have hBo : ∀ seen last q, q < n → q ≠ rm → (B seen last)[q]? = σ.objs[q]? := fun seen last q h1 h2 => by
                rw [hB]; simp only
                rw [List.append_assoc, gA2 (by rw [List.length_set, ← hn]; exact h1), gA3 (Ne.symm h2)]
              have hBu : ∀ seen last i, i < es.length → (B seen last)[n + 1 + i]? = some .unb := fun seen last i h1 => by
                rw [hB]; simp only
                rw [gA4 (by simp [hn])]
                simp [hn, h1]
              have hBs : ∀ seen last seen' last', (B seen last).set n (.it b clock seen' last') = B seen' last' := fun seen last seen' last' => by
                rw [hB]; simp only
                rw [List.append_assoc, List.append_assoc, List.set_append_right _ _ (by rw [List.length_set, hn]; exact Nat.le_refl _), List.length_set, hn, Nat.sub_self]
                rfl
              have hkn : ∀ vis : List Nat, (∀ i ∈ vis, i < es.length) → n ∉ (vis.flatMap W).map (·.1) ∧ rm ∉ (vis.flatMap W).map (·.1) ∧ r ∉ (vis.flatMap W).map (·.1) := by
                intro vis hvl
                rw [List.map_flatMap]
                have key : ∀ q, q ∈ vis.flatMap (fun i => (W i).map (·.1)) → q ≠ n ∧ q ≠ rm ∧ q ≠ r := by
                  intro q hq
                  obtain ⟨i, hi, hq⟩ := List.mem_flatMap.1 hq
                  rcases hkey i (hvl i hi) q hq with h1 | h1
                  · have := hidl i (hvl i hi) q h1; omega
                  · omega
                exact ⟨fun h => (key n h).1 rfl, fun h => (key rm h).2.1 rfl, fun h => (key r h).2.2 rfl⟩
              have hkf : ∀ (vis : List Nat) (i : Nat), (∀ i ∈ vis, i < es.length) → i < es.length → i ∉ vis → (∀ q ∈ (fos.getD i default).ids, q ∉ (vis.flatMap W).map (·.1)) ∧ n + 1 + i ∉ (vis.flatMap W).map (·.1) := by
                intro vis i hvl hi hiv
                rw [List.map_flatMap]
                have key : ∀ q, q ∈ vis.flatMap (fun i => (W i).map (·.1)) → q ∉ (fos.getD i default).ids ∧ q ≠ n + 1 + i := by
                  intro q hq
                  obtain ⟨j, hj, hq⟩ := List.mem_flatMap.1 hq
                  have hne : j ≠ i := fun e => hiv (by rw [← e]; exact hj)
                  rcases hkey j (hvl j hj) q hq with h1 | h1
                  · refine ⟨fun h2 => ?_, by have := hidl j (hvl j hj) q h1; omega⟩
                    obtain ⟨hi', e⟩ := hgd i hi
                    obtain ⟨hj', e'⟩ := hgd j (hvl j hj)
                    rw [e] at h2
                    rw [e'] at h1
                    exact nd2 j i hj' hi' hne q h1 h2
                  · exact ⟨fun h2 => (by have := hidl i hi q h2; omega), by omega⟩
                exact ⟨fun q hq h => (key q h).1 hq, fun h => (key _ h).2 rfl⟩
              refine Nd.re (σ1 := ⟨B #[] clock, σ.toks⟩) (fun g w tm hR hT => by rw [hB]; exact hides es.length hR) ?_
              refine Nd.block ?_
              refine Nd.loop (fun vis e τ => ∃ seen last, It τ n rm es vis b clock a clock last seen ∧ τ = ⟨applyW (vis.flatMap W) (B seen last), σ.toks⟩ ∧ e 18 = .optr n 0 ∧ e 0 = .optr r 0 ∧ e 1 = .int .i64 k) (fun vis => es.length - vis.length) ?_ []
                ⟨#[], clock, ⟨hBi _ _, hBm _ _, hI.sz, hI.old, hI.sl, hI.sc, hI.nd, rfl, List.nodup_nil, fun i h => by cases h⟩, rfl, by simp [upd_some, hn], by simp [upd_some], by simp [upd_some]⟩
              rintro vis e τ ⟨seen, last, hI, rfl, h18, h0, h1⟩
              rw [slOff]
              refine Nd.seq (Nd.region ?_)
              rw [f2s]
              have hd2 : (oOff2.getD 0 default).dst = some 19 := by kernel_rfl
              have hvk := hkn vis hI.vlt
              refine NdO.next (ri := n) (rm := rm) (x := .tmp 18) (by kernel_rfl) (by kernel_rfl) (by simp only [WKV, Nat.reduceLT, Nat.reduceEqDiff, ↓reduceIte, reduceCtorEq, Nat.reduceAdd, Int.reduceLT, Int.reduceNeg, noSB0, implies_true, eq_self, false_and, or_false, false_or, h18]) hI (by omega) ?_ ?_
              · intro hall2
                rw [hd2]
                refine NdO.eo hp (cl := k24_r2.drop 1) (by kernel_rfl) (by kernel_rfl) ?_
                unfold k24_r2
                simp only [List.drop_succ_cons, List.drop_zero, WKV, Nat.reduceLT, Nat.reduceEqDiff, ↓reduceIte, reduceCtorEq, Nat.reduceAdd, Int.reduceLT, Int.reduceNeg, noSB0, implies_true, eq_self, false_and, or_false, false_or]
                refine Nd.seq (Nd.cond (t := false) (by simp only [WKV, Nat.reduceLT, Nat.reduceEqDiff, ↓reduceIte, reduceCtorEq, Nat.reduceAdd, Int.reduceLT, Int.reduceNeg, noSB0, implies_true, eq_self, false_and, or_false, false_or]) (Nd.exit (.inr ⟨(by intro h; cases h), .inr ⟨(by intro h; cases h), .inl ⟨rfl, ?_⟩⟩⟩)))
                have hperm := vis_perm hI.vnd hI.vlt hall2
                obtain ⟨O, hO⟩ : ∃ O, O = applyW ((List.range es.length).flatMap W) (σ.objs ++ [.dead] ++ List.replicate es.length .unb) := ⟨_, rfl⟩
                rw [← hO]
                have hrk := hkn (List.range es.length) (fun i hi => List.mem_range.1 hi)
                have hOr : O[r]? = some (.cells [.omap rm, room, .bool false, wr, ar, kp]) := by
                  rw [hO, applyW_ne _ _ hrk.2.2, List.append_assoc, gA2 (by rw [← hn]; exact hrl)]
                  exact hr
                refine Nd.re (σ1 := ⟨O, σ.toks⟩) ?_ ?_
                · intro g w tm hR hT
                  refine ⟨g, Ext.refl _ _ _, ?_⟩
                  obtain ⟨m1, m2, m3, m4, m5, m6, m7⟩ := hR.obj rm _ hI.mp
                  have q1 := hR.reOb hI.mp (fun h => h) (o' := .mp es) (by intro h; cases h) ⟨m1, m2, a, clock, m4, m5, m6, m7⟩
                  have q2 := q1.bury n (by
                    simp only
                    rw [gA3 (by omega), hI.it]
                    intro h; cases h)
                  have e1 : ((applyW (vis.flatMap W) (B seen last)).set rm (.mp es)).set n .dead = O := by
                    rw [← applyW_set _ _ _ hvk.2.1, ← applyW_set _ _ _ hvk.1, hO]
                    have e2 : ((B seen last).set rm (.mp es)).set n .dead = σ.objs ++ [.dead] ++ List.replicate es.length .unb := by
                      rw [hB]; simp only
                      rw [List.append_assoc, List.set_append_left _ _ (by rw [List.length_set, ← hn]; exact hrml), List.set_set, List.set_append_right _ _ (by rw [List.length_set, hn]; exact Nat.le_refl _), List.length_set, hn, Nat.sub_self, set_self hm, List.append_assoc]
                      rfl
                    rw [e2]
                    exact applyW_perm (hperm.flatMap_right _) (hnodup vis hI.vnd hI.vlt) _
                  simp only at q2
                  rw [e1] at q2
                  exact q2
                · have st1 : vstore Tryd.prog ⟨O, σ.toks⟩ 4 (.optr r 2) (.bool true) = some ⟨O.set r (.cells [.omap rm, room, .bool true, wr, ar, kp]), σ.toks⟩ := by
                    rw [vstore_obj hOr (by kernel_rfl) rfl (by simp)]; rfl
                  have hOrl := (gA0.1 hOr).1
                  have st2 : vstore Tryd.prog ⟨O.set r (.cells [.omap rm, room, .bool true, wr, ar, kp]), σ.toks⟩ 3 (.optr r 4) (.int .i64 0) = some ⟨O.set r (.cells [.omap rm, room, .bool true, wr, .int .i64 0, kp]), σ.toks⟩ := by
                    rw [vstore_obj (σ := ⟨O.set r (.cells [.omap rm, room, .bool true, wr, ar, kp]), σ.toks⟩) (cs := [.omap rm, room, .bool true, wr, ar, kp]) (gA5 hOrl) (by kernel_rfl) rfl (by simp)]
                    simp [List.set_set]
                  refine Nd.ev hp (k := .region k24_r5) (by kernel_rfl) (by kernel_rfl) (by kernel_rfl) ?_
                  simp only [k24_a, WKV, Nat.reduceLT, Nat.reduceEqDiff, ↓reduceIte, reduceCtorEq, Nat.reduceAdd, Int.reduceLT, Int.reduceNeg, noSB0, implies_true, eq_self, false_and, or_false, false_or, h0, pFA r 2 (by omega), pFA r 4 (by omega), st1, st2]
                  exact ⟨[], by show vresults _ _ (env 53 _) [] = _; rfl, rfl⟩
              · intro i hiv hi hI2
                rw [hd2]
                refine NdO.eo hp (cl := k24_r2.drop 1) (by kernel_rfl) (by kernel_rfl) ?_
                unfold k24_r2
                simp only [List.drop_succ_cons, List.drop_zero, WKV, Nat.reduceLT, Nat.reduceEqDiff, ↓reduceIte, reduceCtorEq, Nat.reduceAdd, Int.reduceLT, Int.reduceNeg, noSB0, implies_true, eq_self, false_and, or_false, false_or]
                refine Nd.seq (Nd.cond (t := true) (by simp only [WKV, Nat.reduceLT, Nat.reduceEqDiff, ↓reduceIte, reduceCtorEq, Nat.reduceAdd, Int.reduceLT, Int.reduceNeg, noSB0, implies_true, eq_self, false_and, or_false, false_or]) (Nd.skip (.inl ⟨rfl, ?_⟩)))
                obtain ⟨seen', hseen'⟩ : ∃ s, s = seen.push (a.getD i default).born := ⟨_, rfl⟩
                rw [← hseen'] at hI2 ⊢
                rw [← applyW_set _ _ _ hvk.1, hBs] at hI2 ⊢
                obtain ⟨O, hO⟩ : ∃ O, O = applyW (vis.flatMap W) (B seen' clock) := ⟨_, rfl⟩
                rw [← hO] at hI2 ⊢
                have hOl : O.length = n + 1 + es.length := by rw [hO, applyW_len, hBl]
                refine Nd.block (Nd.seq (Nd.region ?_))
                rw [f3s]
                refine NdO.entry (ri := n) (rm := rm) (vis := vis) (seen := seen) (x := .tmp 18) (by kernel_rfl) (by kernel_rfl) (by simp only [WKV, Nat.reduceLT, Nat.reduceEqDiff, ↓reduceIte, reduceCtorEq, Nat.reduceAdd, Int.reduceLT, Int.reduceNeg, noSB0, implies_true, eq_self, false_and, or_false, false_or, h18]) (by rw [← hseen']; exact hI2) hi ?_
                have hd3 : (oOff3.getD 0 default).dst = some 21 := by kernel_rfl
                rw [hd3]
                refine NdO.eo hp (cl := k24_r3.drop 1) (by kernel_rfl) (by kernel_rfl) ?_
                unfold k24_r3
                simp only [List.drop_succ_cons, List.drop_zero, WKV, Nat.reduceLT, Nat.reduceEqDiff, ↓reduceIte, reduceCtorEq, Nat.reduceAdd, Int.reduceLT, Int.reduceNeg, noSB0, implies_true, eq_self, false_and, or_false, false_or]
                obtain ⟨hi', efo⟩ := hgd i hi
                obtain ⟨f, hf⟩ : ∃ f, fos.getD i default = f := ⟨_, rfl⟩
                have hfo := hfg i hi hi'
                have hidi := hidl i hi
                have hkfi := hkf vis i hI.vlt hi hiv
                have hndi := nd1 i hi'
                rw [← efo] at hfo hndi
                rw [hf] at hfo hidi hkfi hndi
                have hallf := List.all_eq_true.1 hall f (by rw [← hf, efo]; exact List.getElem_mem hi')
                simp only [Bool.and_eq_true, decide_eq_true_eq] at hallf
                obtain ⟨k2, k3, k4, k5⟩ := fileOf_spec hfo
                have hOq : ∀ q ∈ f.ids, O[q]? = σ.objs[q]? := fun q hq => by
                  rw [hO, applyW_ne _ _ (hkfi.1 q hq)]
                  exact hBo _ _ q (hidi q hq).2.1 (hidi q hq).2.2.1
                have hrfm : f.rf ∈ f.ids := by simp [FO.ids]
                have hOrf : O[f.rf]? = some (.cells [f.s, f.w]) := by rw [hOq _ hrfm]; exact k3
                have hOs : rowOf O f.s = some (f.rs, f.cs) := rowOf_eq k4 fun q hq => hOq q (by simp [FO.ids, hq])
                have hOw : rowOf O f.w = some (f.rw, f.ds) := rowOf_eq k5 fun q hq => hOq q (by simp [FO.ids, hq])
                have hOu : O[n + 1 + i]? = some .unb := by rw [hO, applyW_ne _ _ hkfi.2]; exact hBu _ _ i hi
                have hlw : rowLen f.w = some f.ds.length := by
                  rcases rowOf_spec hOw with ⟨e1, _, e2⟩ | ⟨_, _, e1, _⟩
                  · rw [e1, e2]; rfl
                  · rw [e1]; rfl
                obtain ⟨w', hsl, hnw⟩ := kept_slice hOw k
                have hmx : vmm true (.int .i64 k) (.int .i64 0) = some (.int .i64 (max k 0)) := by
                  simp only [vmm, if_true]; congr 2; omega
                have hmn : vmm false (.int .i64 (max k 0)) (.int .i64 (f.ds.length : Nat)) = some (.int .i64 (min (max k 0) (f.ds.length : Nat))) := by
                  simp only [vmm, Bool.false_eq_true, if_false]; congr 2; omega
                have hap := off_append (toks := σ.toks) hOs hnw hallf.1 hallf.2
                have ls : vload Tryd.prog O 22 (.optr f.rf 0) = some f.s := by rw [vload_obj hOrf pGB]; rfl
                have lw : vload Tryd.prog O 22 (.optr f.rf 1) = some f.w := by rw [vload_obj hOrf pGB]; rfl
                have hones : one f.s = true := by
                  rcases rowOf_spec hOs with ⟨e1, _⟩ | ⟨_, _, e1, _⟩ <;> rw [e1] <;> rfl
                by_cases hke : f.kept k = []
                · have hap2 : vappendRow Tryd.prog ⟨O, σ.toks⟩ 22 22 f.s w' = some (f.s, ⟨O, σ.toks⟩) := by rw [hap]; exact if_pos hke
                  have s1 : vstore Tryd.prog ⟨O, σ.toks⟩ 22 (.optr f.rf 0) f.s = some ⟨O, σ.toks⟩ := by
                    rw [vstore_obj hOrf pSB hones (by simp)]
                    simp [set_self hOrf]
                  have s2 : vstore Tryd.prog ⟨O, σ.toks⟩ 22 (.optr f.rf 1) .nils = some ⟨O.set f.rf (.cells [f.s, .nils]), σ.toks⟩ := by
                    rw [vstore_obj hOrf pSB rfl (by simp)]; rfl
                  have hOn : O.set f.rf (.cells [f.s, .nils]) = applyW ((vis ++ [i]).flatMap W) (B seen' clock) := by
                    rw [List.flatMap_append, applyW_append, ← hO, List.flatMap_singleton, hW, fwrites_none hf hke]
                    rfl
                  refine Nd.ev hp (k := .region k24_r4) (by kernel_rfl) (by kernel_rfl) (by kernel_rfl) ?_
                  simp only [k24_a, WKV, Nat.reduceLT, Nat.reduceEqDiff, ↓reduceIte, reduceCtorEq, Nat.reduceAdd, Int.reduceLT, Int.reduceNeg, noSB0, implies_true, eq_self, false_and, or_false, false_or, h1, k2, pFF0, pFF1, ls, lw, rowLen_len hlw, hmx, hmn, pTB, hsl, hap2, s1, nilEP, s2]
                  refine ⟨vis ++ [i], ⟨seen', clock, ?_, by rw [hOn], h18, h0⟩, ?_⟩
                  · refine ⟨?_, ?_, hI2.sz, hI2.old, hI2.sl, hI2.sc, hI2.nd, hI2.hvis, hI2.vnd, hI2.vlt⟩
                    · simp only; rw [gA3 (by have := (hidi _ hrfm).2.1; omega)]; exact hI2.it
                    · simp only; rw [gA3 (hidi _ hrfm).2.2.1]; exact hI2.mp
                  · have := vis_le hI2.vnd hI2.vlt
                    simp only [List.length_append, List.length_cons, List.length_nil] at this ⊢
                    omega
                · have hap2 : vappendRow Tryd.prog ⟨O, σ.toks⟩ 22 22 f.s w' = some (.hslice O.length 0 1 (f.cs.length + (f.kept k).length), ⟨applyW (f.rs.toList.map (·, Ob.dead)) O ++ [Ob.cells (f.cs ++ f.kept k)], σ.toks⟩) := by rw [hap]; exact if_neg hke
                  obtain ⟨D, hD⟩ : ∃ D, D = applyW (f.rs.toList.map (·, Ob.dead)) O := ⟨_, rfl⟩
                  rw [← hD] at hap2
                  obtain ⟨len, hlen⟩ : ∃ len, len = f.cs.length + (f.kept k).length := ⟨_, rfl⟩
                  rw [← hlen] at hap2
                  have hDl : D.length = O.length := by rw [hD, applyW_len]
                  have hrsk : ∀ q ∈ (f.rs.toList.map (·, Ob.dead)).map (·.1), q ∈ f.ids ∧ q ≠ f.rf := by
                    intro q hq
                    simp only [List.map_map, List.mem_map, Option.mem_toList] at hq
                    obtain ⟨a', ha, rfl⟩ := hq
                    have hm1 : a' ∈ f.rs.toList := by rw [ha]; simp
                    refine ⟨by simp only [FO.ids, List.mem_cons, List.mem_append]; exact .inr (.inl hm1), fun e => ?_⟩
                    simp only [FO.ids, List.nodup_cons, List.mem_append, not_or] at hndi
                    exact hndi.1.1 (by rw [← e]; exact hm1)
                  have hDrf : D[f.rf]? = some (.cells [f.s, f.w]) := by rw [hD, applyW_ne _ _ (fun h => (hrsk _ h).2 rfl)]; exact hOrf
                  have hDu : D[n + 1 + i]? = some .unb := by rw [hD, applyW_ne _ _ (fun h => by have := (hidi _ (hrsk _ h).1).2.1; omega)]; exact hOu
                  obtain ⟨D2, hD2⟩ : ∃ D2, D2 = D.set f.rf (.cells [.hslice O.length 0 1 len, .nils]) := ⟨_, rfl⟩
                  have hrfD : f.rf < D.length := (gA0.1 hDrf).1
                  have s1 : vstore Tryd.prog ⟨D ++ [Ob.cells (f.cs ++ f.kept k)], σ.toks⟩ 22 (.optr f.rf 0) (.hslice O.length 0 1 len) = some ⟨(D ++ [Ob.cells (f.cs ++ f.kept k)]).set f.rf (.cells [.hslice O.length 0 1 len, f.w]), σ.toks⟩ := by
                    rw [vstore_obj (σ := ⟨D ++ [Ob.cells (f.cs ++ f.kept k)], σ.toks⟩) (by simp only; rw [gA2 hrfD]; exact hDrf) pSB rfl (by simp)]; rfl
                  have s2 : vstore Tryd.prog ⟨(D ++ [Ob.cells (f.cs ++ f.kept k)]).set f.rf (.cells [.hslice O.length 0 1 len, f.w]), σ.toks⟩ 22 (.optr f.rf 1) .nils = some ⟨D2 ++ [Ob.cells (f.cs ++ f.kept k)], σ.toks⟩ := by
                    rw [vstore_obj (σ := ⟨(D ++ [Ob.cells (f.cs ++ f.kept k)]).set f.rf (.cells [.hslice O.length 0 1 len, f.w]), σ.toks⟩) (cs := [.hslice O.length 0 1 len, f.w]) (gA5 (by simp; omega)) pSB rfl (by simp)]
                    simp [List.set_set, hD2, List.set_append_left _ _ hrfD]
                    rw [List.set_append_left _ _ (by simpa using hrfD), List.set_set]
                  have hON : O.length = n + 1 + es.length := hOl
                  refine Nd.post (Q' := fun x e1 σ1 => x = .normal ∧ e1 18 = .optr n 0 ∧ e1 0 = .optr r 0 ∧ e1 1 = .int .i64 k ∧ σ1 = ⟨D2 ++ [Ob.cells (f.cs ++ f.kept k)], σ.toks⟩) ?_ ?_
                  · refine Nd.ev hp (k := .region k24_r4) (by kernel_rfl) (by kernel_rfl) (by kernel_rfl) ?_
                    simp only [k24_a, WKV, Nat.reduceLT, Nat.reduceEqDiff, ↓reduceIte, reduceCtorEq, Nat.reduceAdd, Int.reduceLT, Int.reduceNeg, noSB0, implies_true, eq_self, false_and, or_false, false_or, h0, h1, h18, k2, pFF0, pFF1, ls, lw, rowLen_len hlw, hmx, hmn, pTB, hsl, hap2, s1, nilEP, s2]
                  · rintro x e1 σ1 ⟨rfl, g18, g0, g1, rfl⟩
                    have hOn : (D.set f.rf (.cells [.hslice (n + 1 + i) 0 1 len, .nils])).set (n + 1 + i) (.cells (f.cs ++ f.kept k)) = applyW ((vis ++ [i]).flatMap W) (B seen' clock) := by
                      rw [List.flatMap_append, applyW_append, ← hO, List.flatMap_singleton, hW, fwrites_some hf hke, applyW_append, ← hD, ← hlen]
                      rfl
                    refine ⟨fun t => renV O.length (n + 1 + i) (e1 t), ⟨(D.set f.rf (.cells [.hslice (n + 1 + i) 0 1 len, .nils])).set (n + 1 + i) (.cells (f.cs ++ f.kept k)), σ.toks⟩, ?_, ?_⟩
                    · refine .inr ⟨(by intro h; cases h), .inl ⟨rfl, vis ++ [i], ⟨seen', clock, ?_, by rw [hOn], ?_, ?_, ?_⟩, ?_⟩⟩
                      · refine ⟨?_, ?_, hI2.sz, hI2.old, hI2.sl, hI2.sc, hI2.nd, hI2.hvis, hI2.vnd, hI2.vlt⟩
                        · simp only
                          rw [gA3 (by omega), gA3 (by have := (hidi _ hrfm).2.1; omega), hD, applyW_ne _ _ (fun h => by have := (hidi _ (hrsk _ h).1).2.1; omega)]
                          exact hI2.it
                        · simp only
                          rw [gA3 (by omega), gA3 (hidi _ hrfm).2.2.1, hD, applyW_ne _ _ (fun h => (hidi _ (hrsk _ h).1).2.2.1 rfl)]
                          exact hI2.mp
                      · simp only [g18]; exact renV_optr (by omega)
                      · simp only [g0]; exact renV_optr (by omega)
                      · simp only [g1]; rfl
                      · have := vis_le hI2.vnd hI2.vlt
                        simp only [List.length_append, List.length_cons, List.length_nil] at this ⊢
                        omega
                    · intro gg0 Wd g w tm hR0 hE hR hT
                      have hn0 : gg0.n = O.length := hR0.n
                      have hnN : ¬ gg0.has O.length := fun h => by have := h.1; omega
                      have hnj : ¬ gg0.has (n + 1 + i) := fun h => by
                        have h2 := (hR0.hid (n + 1 + i)).2 hOu
                        rw [h.2] at h2; cases h2
                      have hD2l : D2.length = O.length := by rw [hD2, List.length_set, hDl]
                      have hD2u : D2[n + 1 + i]? = some .unb := by rw [hD2, gA3 (by have := (hidi _ hrfm).2.1; omega)]; exact hDu
                      have hmv := Rel.move hR hD2u (by intro h; cases h)
                      rw [hD2l] at hmv
                      have ok : ∀ q o, O[q]? = some o → renO O.length (n + 1 + i) o = o := fun q o hq => (hR0.obj q o hq).ren_old hnN
                      have cok : ∀ (v : V) (q : Option Nat) (cs : List V), rowOf O v = some (q, cs) → ∀ x ∈ cs, renV O.length (n + 1 + i) x = x := by
                        intro v q cs hv x hx
                        rcases rowOf_spec hv with ⟨_, _, e2⟩ | ⟨rr, full, _, _, hrr, _, e2⟩
                        · rw [e2] at hx; cases hx
                        · have := ok _ _ hrr
                          simp only [renO, Ob.cells.injEq] at this
                          rw [e2] at hx
                          exact ren_sub this x (List.mem_of_mem_take hx)
                      have e3 : D2.map (renO O.length (n + 1 + i)) = D.set f.rf (.cells [.hslice (n + 1 + i) 0 1 len, .nils]) := by
                        apply List.ext_getElem?
                        intro q
                        rw [List.getElem?_map, hD2]
                        by_cases eq : f.rf = q
                        · subst eq
                          rw [gA5 hrfD, gA5 hrfD]
                          simp [renO, renVs, renV]
                        · rw [gA3 eq, gA3 eq]
                          cases hq : D[q]? with
                          | none => rfl
                          | some o =>
                            simp only [Option.map_some]
                            rw [hD] at hq
                            rcases applyW_dead hq with rfl | hq
                            · rfl
                            · rw [ok _ _ hq]
                      have e4 : renO O.length (n + 1 + i) (Ob.cells (f.cs ++ f.kept k)) = .cells (f.cs ++ f.kept k) := by
                        simp only [renO]
                        rw [ren_of]
                        intro x hx
                        rcases List.mem_append.1 hx with hx | hx
                        · exact cok _ _ _ hOs x hx
                        · exact cok _ _ _ hOw x (List.mem_of_mem_take hx)
                      rw [e3, e4] at hmv
                      refine ⟨g.move O.length (n + 1 + i), hE.move (by omega) hnj, hmv, ?_⟩
                      have hgn : g.n = O.length + 1 := by rw [hR.n]; simp [hD2l]
                      have hgh : g.hid (n + 1 + i) = true := (hR.hid _).2 (by simp only; rw [gA2 (by omega)]; exact hD2u)
                      have := VRs.move (N := O.length) (j := n + 1 + i) hgn (by omega) hgh _ hT
                      rw [renVs_map] at this
                      simpa [env, Function.comp_def] using this
            · cases h
          · cases h
        · cases h
    · cases h
  · cases h
section
open Go.Shelf
def layK_ren : Ren where
  f := fun x => match x with
    | 10 => 72
    | n => n
  t := fun x => match x with
    | 0 => 0
    | 3 => 76
    | 4 => 4
    | 23 => 68
    | 26 => 9
    | 33 => 95
    | n => n
  g := fun x => x
theorem layK : SlLaysZ.n10 Tryd.prog layK_ren where
  mixed := by kernel_rfl
  f10 := ⟨ "maps.Keys[map[string]*quern/disk.file,string,*quern/disk.file]$1", by decide, Tryd.func72.trans (congrArg some (by kernel_rfl))⟩
  t0 := Tryd.underlying0
  a0 := Tryd.isAgg0
  z0 := Tryd.sizeOf0
  v0 := Tryd.zeroValue0
  t4 := Tryd.underlying4
  a4 := Tryd.isAgg4
  z4 := Tryd.sizeOf4
  v4 := Tryd.zeroValue4
  t23 := Tryd.underlying68
  a23 := Tryd.isAgg68
  z23 := Tryd.sizeOf68
  v23 := Tryd.zeroValue68
  t26 := Tryd.underlying9
  a26 := Tryd.isAgg9
  z26 := Tryd.sizeOf9
  v26 := Tryd.zeroValue9
  t33 := Tryd.underlying95
  a33 := Tryd.isAgg95
  z33 := Tryd.sizeOf95
  v33 := Tryd.zeroValue95
def layS_ren : Ren where
  f := fun x => match x with
    | 6 => 51
    | 8 => 70
    | 9 => 71
    | 11 => 78
    | n => n
  t := fun x => match x with
    | 0 => 0
    | 24 => 43
    | 26 => 9
    | 28 => 81
    | 33 => 95
    | n => n
  g := fun x => x
theorem layS : SlLaysZ.n6 Tryd.prog layS_ren where
  mixed := by kernel_rfl
  f6 := ⟨ "slices.Sorted[string]", by decide, Tryd.func51.trans (congrArg some (by kernel_rfl))⟩
  f8 := ⟨ "slices.Collect[string]", by decide, Tryd.func70.trans (congrArg some (by kernel_rfl))⟩
  f11 := ⟨ "slices.AppendSeq[[]string,string]", by decide, Tryd.func78.trans (congrArg some (by kernel_rfl))⟩
  t0 := Tryd.underlying0
  a0 := Tryd.isAgg0
  z0 := Tryd.sizeOf0
  v0 := Tryd.zeroValue0
  t24 := Tryd.underlying43
  a24 := Tryd.isAgg43
  z24 := Tryd.sizeOf43
  v24 := Tryd.zeroValue43
  t26 := Tryd.underlying9
  a26 := Tryd.isAgg9
  z26 := Tryd.sizeOf9
  v26 := Tryd.zeroValue9
  t28 := Tryd.underlying81
  a28 := Tryd.isAgg81
  z28 := Tryd.sizeOf81
  v28 := Tryd.zeroValue81
  i26 := by kernel_rfl
def layM_ren : Ren where
  f := fun x => match x with
    | 6 => 71
    | 8 => 80
    | 9 => 79
    | 19 => 99
    | 20 => 100
    | 21 => 90
    | 22 => 91
    | 23 => 92
    | 24 => 93
    | 25 => 94
    | 26 => 95
    | 27 => 96
    | 28 => 97
    | 29 => 98
    | 31 => 109
    | 32 => 110
    | 36 => 108
    | 37 => 111
    | 38 => 112
    | 39 => 113
    | 41 => 118
    | n => n
  t := fun x => match x with
    | 0 => 0
    | 3 => 3
    | 4 => 4
    | 5 => 5
    | 9 => 9
    | 26 => 43
    | 27 => 43
    | 29 => 9
    | 32 => 62
    | 35 => 123
    | 36 => 124
    | 41 => 129
    | 44 => 61
    | 46 => 64
    | 53 => 143
    | 57 => 147
    | 63 => 154
    | 64 => 155
    | n => n
  g := fun x => x
theorem layM : SlLaysM.n6 Tryd.prog layM_ren where
  mixed := by kernel_rfl
  f6 := ⟨ "slices.Sort[[]string,string]", by decide, Tryd.func71.trans (congrArg some (by kernel_rfl))⟩
  f8 := Tryd.func80.trans (congrArg some (by kernel_rfl))
  f9 := ⟨ "slices.pdqsortOrdered[string]", by decide, Tryd.func79.trans (congrArg some (by kernel_rfl))⟩
  f19 := Tryd.func99.trans (congrArg some (by kernel_rfl))
  f20 := Tryd.func100.trans (congrArg some (by kernel_rfl))
  f21 := ⟨ "slices.insertionSortOrdered[string]", by decide, Tryd.func90.trans (congrArg some (by kernel_rfl))⟩
  f22 := ⟨ "slices.heapSortOrdered[string]", by decide, Tryd.func91.trans (congrArg some (by kernel_rfl))⟩
  f23 := ⟨ "slices.breakPatternsOrdered[string]", by decide, Tryd.func92.trans (congrArg some (by kernel_rfl))⟩
  f24 := ⟨ "slices.choosePivotOrdered[string]", by decide, Tryd.func93.trans (congrArg some (by kernel_rfl))⟩
  f25 := ⟨ "slices.reverseRangeOrdered[string]", by decide, Tryd.func94.trans (congrArg some (by kernel_rfl))⟩
  f26 := ⟨ "slices.partialInsertionSortOrdered[string]", by decide, Tryd.func95.trans (congrArg some (by kernel_rfl))⟩
  f27 := ⟨ "cmp.Less[string]", by decide, Tryd.func96.trans (congrArg some (by kernel_rfl))⟩
  f28 := ⟨ "slices.partitionEqualOrdered[string]", by decide, Tryd.func97.trans (congrArg some (by kernel_rfl))⟩
  f29 := ⟨ "slices.partitionOrdered[string]", by decide, Tryd.func98.trans (congrArg some (by kernel_rfl))⟩
  f31 := Tryd.func109.trans (congrArg some (by kernel_rfl))
  f32 := Tryd.func110.trans (congrArg some (by kernel_rfl))
  f36 := ⟨ "slices.siftDownOrdered[string]", by decide, Tryd.func108.trans (congrArg some (by kernel_rfl))⟩
  f37 := ⟨ "slices.medianAdjacentOrdered[string]", by decide, Tryd.func111.trans (congrArg some (by kernel_rfl))⟩
  f38 := ⟨ "slices.medianOrdered[string]", by decide, Tryd.func112.trans (congrArg some (by kernel_rfl))⟩
  f39 := ⟨ "cmp.isNaN[string]", by decide, Tryd.func113.trans (congrArg some (by kernel_rfl))⟩
  f41 := ⟨ "slices.order2Ordered[string]", by decide, Tryd.func118.trans (congrArg some (by kernel_rfl))⟩
  t0 := Tryd.underlying0
  a0 := Tryd.isAgg0
  z0 := Tryd.sizeOf0
  v0 := Tryd.zeroValue0
  t3 := Tryd.underlying3
  a3 := Tryd.isAgg3
  z3 := Tryd.sizeOf3
  v3 := Tryd.zeroValue3
  t4 := Tryd.underlying4
  a4 := Tryd.isAgg4
  z4 := Tryd.sizeOf4
  v4 := Tryd.zeroValue4
  t5 := Tryd.underlying5
  a5 := Tryd.isAgg5
  z5 := Tryd.sizeOf5
  v5 := Tryd.zeroValue5
  t9 := Tryd.underlying9
  a9 := Tryd.isAgg9
  z9 := Tryd.sizeOf9
  v9 := Tryd.zeroValue9
  t26 := Tryd.underlying43
  a26 := Tryd.isAgg43
  z26 := Tryd.sizeOf43
  v26 := Tryd.zeroValue43
  t27 := Tryd.underlying43
  a27 := Tryd.isAgg43
  z27 := Tryd.sizeOf43
  v27 := Tryd.zeroValue43
  t29 := Tryd.underlying9
  a29 := Tryd.isAgg9
  z29 := Tryd.sizeOf9
  v29 := Tryd.zeroValue9
  t32 := Tryd.underlying62
  a32 := Tryd.isAgg62
  z32 := Tryd.sizeOf62
  v32 := Tryd.zeroValue62
  t35 := Tryd.underlying123
  a35 := Tryd.isAgg123
  z35 := Tryd.sizeOf123
  v35 := Tryd.zeroValue123
  t36 := Tryd.underlying124
  a36 := Tryd.isAgg124
  z36 := Tryd.sizeOf124
  v36 := Tryd.zeroValue124
  t41 := Tryd.underlying129
  a41 := Tryd.isAgg129
  z41 := Tryd.sizeOf129
  v41 := Tryd.zeroValue129
  t44 := Tryd.underlying61
  a44 := Tryd.isAgg61
  z44 := Tryd.sizeOf61
  v44 := Tryd.zeroValue61
  t46 := Tryd.underlying64
  a46 := Tryd.isAgg64
  z46 := Tryd.sizeOf64
  v46 := Tryd.zeroValue64
  t53 := Tryd.underlying143
  a53 := Tryd.isAgg143
  z53 := Tryd.sizeOf143
  v53 := Tryd.zeroValue143
  t57 := Tryd.underlying147
  a57 := Tryd.isAgg147
  z57 := Tryd.sizeOf147
  v57 := Tryd.zeroValue147
  t63 := Tryd.underlying154
  a63 := Tryd.isAgg154
  z63 := Tryd.sizeOf154
  v63 := Tryd.zeroValue154
  t64 := Tryd.underlying155
  a64 := Tryd.isAgg155
  z64 := Tryd.sizeOf155
  v64 := Tryd.zeroValue155
def strsOf : List (V × V) → Option (List (List UInt8))
  | [] => some []
  | (.str s, _) :: es => (strsOf es).map (s :: ·)
  | _ => none
theorem strsOf_spec : ∀ {es : List (V × V)} {ks : List (List UInt8)}, strsOf es = some ks → es.map (·.1) = ks.map V.str
  | [], ks, h => by simp [strsOf] at h; subst h; rfl
  | e :: es, ks, h => by
    obtain ⟨a, b⟩ := e
    cases a <;> simp only [strsOf, reduceCtorEq] at h
    rw [gA1] at h
    obtain ⟨l, h1, rfl⟩ := h
    simp [strsOf_spec h1]
def leS : List UInt8 → List UInt8 → Bool := fun x y => decide (x ≤ y)
def sortedP (vs : List V) (σ : St) : Option (V × St) := match vs with
  | [.func f [.optr rb 0]] => if f = 72 then match σ.objs[rb]? with
    | some (.tcells _ [.omap rm]) => match σ.objs[rm]? with
      | some (.mp es) => match strsOf es with
        | some ks => if ks.Nodup ∧ ks.length ≤ 1000000000 ∧ (ks.all fun s => decide (s.length ≤ 140737488355328)) = true then
            (if ks = [] then some (.nils, σ) else some (.hslice σ.objs.length 0 1 ks.length, ⟨σ.objs ++ [.cells ((ks.mergeSort leS).map V.str)], σ.toks⟩)) else none
        | none => none
      | _ => none
    | _ => none
    else none
  | _ => none
theorem layMs (m : Nat) : AnyZ.SortsIn Tryd.prog layS_ren Fence.wide m :=
  ⟨fun blk off cap ss W hH hblk hsz => callsIn_wide.2 (AnyM.slices_Sort_string layM blk off cap ss W hH hblk hsz),
   fun p cap W => callsIn_wide.2 (AnyM.slices_Sort_string_none layM p cap W)⟩
theorem VRs_str {g : Gh} {s : List Bool} {w : World} : ∀ (ks : List (List UInt8)) {us : List Value}, VRs g s w (ks.map V.str) us ↔ us = ks.map fun k => Value.string ⟨k.toArray⟩
  | [], us => by simp [VRs]
  | k :: ks, us => by
    simp only [List.map_cons, VRs, VR]
    constructor
    · rintro ⟨u, us', rfl, rfl, h⟩
      rw [(VRs_str ks).1 h]
    · rintro rfl
      exact ⟨_, _, rfl, rfl, (VRs_str ks).2 rfl⟩
def rAny : Value → Option (DataW Unit × List MemPlace) := fun _ => some (.lit (.bool true), [])
open Go.Maps Go.Sort Go.WideElems in
theorem sorted_ok {base : Nat} {w0 : World} {vs : List V} {σ : St} {v : V} {σ' : St} (h : sortedP vs σ = some (v, σ')) : CallOk Tryd.prog base w0 51 vs σ (.ret v) σ' := by
  unfold sortedP at h
  split at h
  · rename_i f rb
    split at h
    · rename_i hf
      subst hf
      split at h
      · rename_i tb rm hrb
        split at h
        · rename_i es hm
          split at h
          · rename_i ks hks
            split at h
            · rename_i hc
              obtain ⟨c1, c2, c3⟩ := hc
              intro g w us hR hV
              obtain ⟨b1, b2, b3, ub, b4, b5⟩ := hR.obj rb _ hrb
              obtain ⟨m1, m2, a, clock, m3, m4, m5, m6, m7⟩ := hR.obj rm _ hm
              simp only [VRs, VR] at b5
              obtain ⟨u1, us1, rfl, ⟨hrm, rfl⟩, rfl⟩ := b5
              simp only [VRs] at hV
              obtain ⟨u2, us2, rfl, hV1, rfl⟩ := hV
              simp only [VR, VRs] at hV1
              obtain ⟨u3, rfl, u4, us4, rfl, ⟨hrbh, rfl⟩, rfl⟩ := hV1
              rw [b3]
              rw [strsOf_spec hks, VRs_str] at m4
              have hsz : a.size = ks.length := by
                have := congrArg List.length m4
                simpa using this
              have hkey : ∀ x ∈ a.toList, ∃ k ∈ ks, x.key = Value.string ⟨k.toArray⟩ := by
                intro x hx
                have : x.key ∈ ks.map (fun k => Value.string ⟨k.toArray⟩) := by rw [← m4]; exact List.mem_map_of_mem hx
                obtain ⟨k, hk, he⟩ := List.mem_map.1 this
                exact ⟨k, hk, he.symm⟩
              have hkl : ∀ k ∈ ks, k.length ≤ maxLen := fun k hk => by
                have := List.all_eq_true.1 c3 k hk
                have h9 : (140737488355328 : Nat) ≤ maxLen := by decide
                simp at this; omega
              have hrd : ∀ x ∈ a.toList, ∃ k ∈ ks, x.key = Value.string ⟨k.toArray⟩ ∧ rd Tryd.prog 9 rAny x = some (.string k, .lit (.bool true)) := by
                intro x hx
                obtain ⟨k, hk, he⟩ := hkey x hx
                refine ⟨k, hk, he, ?_⟩
                have hko := Go.WideMaps.keyOf_string_mk (P := Tryd.prog) (k := 9) (by kernel_rfl) (s := ⟨k.toArray⟩) (by have := hkl k hk; simpa [ByteArray.size] using this)
                obtain ⟨xk, xv, xb⟩ := x
                simp only at he
                rw [he]
                exact Go.WideElems.rd_mk (R := rAny) (yv := (.lit (.bool true), [])) hko rfl
              have hsm : a.size ≤ maxLen := by
                have h9 : (1000000000 : Nat) ≤ maxLen := by decide
                omega
              have hown : w.ownsMap Tryd.prog 9 rAny (g.ρ rm) a.size (.map ((a.toList.map (rg Tryd.prog 9 rAny)).foldr DataW.insert [])) := by
                refine ⟨a, clock, m3, ⟨hsm, ⟨m6, m7, ?_⟩, fun x hx => ?_⟩, Nat.le_refl _, rfl⟩
                · rw [m4]
                  exact List.Pairwise.map _ (fun x y hne he => hne (by simpa using he)) c1
                · obtain ⟨k, _, _, h3⟩ := hrd x hx
                  exact ⟨_, h3⟩
              have hperm : (strKeys (DataW.map ((a.toList.map (rg Tryd.prog 9 rAny)).foldr DataW.insert []))).Perm ks := by
                have h1 := Go.WideShapes.sorted_perm (a.toList.map (rg Tryd.prog 9 rAny))
                have h2 : ((a.toList.map (rg Tryd.prog 9 rAny)).map fun p => strOf p.1) = ks := by
                  rw [List.map_map]
                  have h3 : a.toList.map ((fun p : Lit × DataW Unit => strOf p.1) ∘ rg Tryd.prog 9 rAny) = a.toList.map fun x => match x.key with | .string b => b.data.toList | _ => [] := by
                    refine List.map_congr_left fun x hx => ?_
                    obtain ⟨k, _, he, h4⟩ := hrd x hx
                    simp only [Function.comp, rg_of h4, he, strOf]
                  rw [h3]
                  have h5 : (a.toList.map fun x => match x.key with | .string b => b.data.toList | _ => []) = (a.toList.map (·.key)).map fun v => match v with | .string b => b.data.toList | _ => [] := by rw [List.map_map]; rfl
                  rw [h5, m4, List.map_map]
                  exact (List.map_congr_left fun x _ => rfl).trans (List.map_id' ks)
                rw [← h2]
                exact h1.map _
              have hseq : SeqGives Fence.wide 2 Tryd.prog 72 #[.pointer (some ⟨g.ρ rb, 0, none⟩)] encStr (fun ss => ss.Perm (strKeys (DataW.map ((a.toList.map (rg Tryd.prog 9 rAny)).foldr DataW.insert [])))) (Maps.size (DataW.map ((a.toList.map (rg Tryd.prog 9 rAny)).foldr DataW.insert []))) w :=
                AnyZ.keys_gives (ρ := layK_ren) layK Fence.wide _ trivial rfl (by omega) (g.ρ rb) (g.ρ rm) a.size _ w ((Array.getElem?_eq_some_iff.1 b4).1) (by simp [World.cell?, b4]) hown
              have hsize : Maps.size (DataW.map ((a.toList.map (rg Tryd.prog 9 rAny)).foldr DataW.insert [])) = ks.length := by
                have := hperm.length_eq
                simpa [strKeys, Maps.size] using this
              have hN1 : Maps.size (DataW.map ((a.toList.map (rg Tryd.prog 9 rAny)).foldr DataW.insert [])) ≤ maxLen := by
                rw [hsize]
                have h9 : (1000000000 : Nat) ≤ maxLen := by decide
                omega
              have hN2 : Maps.size (DataW.map ((a.toList.map (rg Tryd.prog 9 rAny)).foldr DataW.insert [])) * 16 ≤ 140737488355328 := by rw [hsize]; omega
              have cS := AnyZ.sorted_in layS Fence.wide 5 trivial trivial trivial trivial rfl (by omega) (layMs _) (enters_of Tryd.func71 (by kernel_rfl) rfl) 72 #[.pointer (some ⟨g.ρ rb, 0, none⟩)] trivial (enters_of Tryd.func72 (by kernel_rfl) rfl) _ _ hN1 hN2 _ hseq
              refine ((callsIn_wide (n := 5)).1 cS).mono fun e w' hpost => ?_
              obtain ⟨x, ss, rfl, hss, hrow, hnil, hbel⟩ := hpost
              have hsk : ss.Perm ks := hss.trans hperm
              have hms : ss.mergeSort leB = ks.mergeSort leS := mergeSort_of_perm hsk
              obtain ⟨hE, hR1⟩ := hR.later hbel
              have hlen := hsk.length_eq
              split at h
              · rename_i hk0
                injection h with h
                injection h with e1 e2
                subst e1 e2
                subst hk0
                have : ss = [] := List.length_eq_zero_iff.1 hlen
                exact ⟨g, hE, hR1, x, rfl, by simp only [VR]; exact hnil.2 this⟩
              · rename_i hk0
                injection h with h
                injection h with e1 e2
                subst e1 e2
                have hss0 : ss ≠ [] := fun h => hk0 (List.length_eq_zero_iff.1 (by rw [← hlen, h]; rfl))
                obtain ⟨r1, r2⟩ := hrow
                rcases r2 with ⟨r3, _⟩ | ⟨gb, cap, cur, rfl, r3, r4, r5, r6, r7, r8⟩
                · exact absurd (hnil.1 r3) hss0
                · have hcur : VRs g σ.toks w' ((ks.mergeSort leS).map V.str) ((ss.mergeSort leB).map encStr) := by rw [hms]; exact (VRs_str _).2 rfl
                  have hlm : ((ss.mergeSort leB).map encStr).length = ss.length := by simp
                  obtain ⟨hE2, hR2⟩ := hR1.adopt (B := gb) (cs := (ks.mergeSort leS).map V.str) (us := (ss.mergeSort leB).map encStr) ((Array.getElem?_eq_some_iff.1 r4).1) (fun r hr => by have := hR.alive_block hr; omega) (fun t ht => by have := (hR.tok t ht).2.1; omega) (hR.lim gb r3) (by have := hR.bs; omega) r4 hcur (by rw [hlm, ← Nat.mul_one ss.length]; exact r8)
                  refine ⟨g.obj gb, hE.trans hE2, hR2, _, rfl, ?_⟩
                  have hn := hR.n
                  simp only [VR, Gh.obj]
                  rw [if_pos hn.symm, if_pos hn.symm]
                  refine ⟨⟨?_, ?_⟩, cap, by rw [hlen], by omega, r6, ?_⟩
                  · show σ.objs.length < g.n + 1
                    omega
                  · show (if σ.objs.length = g.n then false else g.hid σ.objs.length) = false
                    rw [if_pos hn.symm]
                  · simp only [World.bsize, r4]
                    omega
            · cases h
          · cases h
        · cases h
      · cases h
    · cases h
  · cases h
end
def gHalf : Nat := 0
def gErr : Nat := 2
structure Lays (base : Nat) (w0 : World) : Prop where
  lo : 3 ≤ base
  half : ∀ i, i < 16 → w0.cell? ⟨gHalf, i, none⟩ = some (.int .u32 ((half.getD i 0 : Nat) : Int))
  tab : Lib.TabIs Tryd.prog w0 "internal/strconv.uint64pow10" .u64 Lib.pow10Tab
  err : ∃ ev, w0.cell? ⟨gErr, 0, none⟩ = some ev ∧ (ev = .nilIface ∨ ∃ te pe, ev = .iface te pe)
section
variable {base : Nat} {w0 : World}
theorem Rel.seal {g : Gh} {σ : St} {w : World} (h : Rel base w0 g σ w) {b : Nat} (hb : b < base) (k : Nat) (hk : g.L b ≤ k) : Ext g σ.toks w (g.row b k) σ.toks w ∧ Rel base w0 (g.row b k) σ w := by
  have hbs := h.bs
  have hne : ∀ r, aliveAt σ.objs r → g.ρ r ≠ b := fun r hr e => by
    obtain ⟨o, ho, hd⟩ := hr
    have hob := h.obj r o ho
    have : base ≤ g.ρ r := by
      cases o with
      | dead => exact (hd trivial).elim
      | unb => exact (hd trivial).elim
      | _ => exact hob.1
    omega
  have E : Ext g σ.toks w (g.row b k) σ.toks w := {
    n := Nat.le_refl _
    has := fun _ h => h
    ρ := fun _ _ => rfl
    ob := fun _ _ => rfl
    L := fun b' => by
      simp only [Gh.row]
      split
      · rename_i e; rw [e]; exact hk
      · exact Nat.le_refl _
    cells := fun _ _ _ => rfl
    shape := fun _ c _ fr hbb => ⟨c, fr, hbb, rfl, .inl rfl⟩
    dfr := fun _ _ hbb => hbb
    nt := Nat.le_refl _
    tok := fun t _ hl => ⟨hl, rfl, by
      simp only [Gh.row]
      rw [if_neg (fun e => by have := (h.tok t hl).1; omega)]⟩ }
  refine ⟨E, { below := h.below, bs := h.bs, n := h.n, hid := h.hid, obj := fun r ob hob => ?_, inj := h.inj, tok := h.tok, tinj := h.tinj, lim := fun b' hb' => (by
      simp only [Gh.row]
      rw [if_neg (by omega)]
      exact h.lim b' hb') }⟩
  by_cases hg : ob.gone
  · exact ObjOk.gone hg
  · exact (h.obj r ob hob).ext E (h.hasO hob) rfl (by simp only [Gh.row]; rw [if_neg (hne r ⟨ob, hob, hg⟩)])
theorem VRs_ints (g : Gh) (toks : List Bool) (w : World) (k : IntKind) : ∀ l : List Nat, VRs g toks w (l.map fun n : Nat => V.int k ((n : Nat) : Int)) (l.map fun n : Nat => Value.int k ((n : Nat) : Int))
  | [] => rfl
  | n :: l => ⟨_, _, rfl, rfl, VRs_ints g toks w k l⟩
def halfV : List V := half.map fun n : Nat => V.int .u32 ((n : Nat) : Int)
theorem NdO.tab {N : Nat} (hL : Lays base w0) {ops : Array Oper} {o : Oper} {l : List Oper} {t : TypeId} {x : Operand} (ho : o.op = .indexAddr t (.global gHalf) x) (hg : o.guard = none) {e : Nat → V} {σ : St} {k : IntKind} {i : Nat}
    (hx : evs (env N e) x = some (.int k (i : Int))) (hv : vindexAddr Tryd.prog t (.eptr halfV 0) (.int k (i : Int)) = some (.eptr halfV i)) {Q : VX → (Nat → V) → St → Prop}
    (h : NdO Tryd.prog base w0 N ops l (upd e o.dst (.eptr halfV i)) σ Q) : NdO Tryd.prog base w0 N ops (o :: l) e σ Q := by
  refine NdO.op hg (by rw [ho]; intro c h; cases h) (fun v σ1 => v = .eptr halfV i ∧ σ1 = σ) ?_ ?_
  · intro g w a hR hT
    obtain ⟨E, R⟩ := hR.seal (b := gHalf) (by have := hL.lo; unfold gHalf; omega) (max (g.L gHalf) 16) (Nat.le_max_left _ _)
    have hlo := hL.lo
    have hcell : ∀ j, j < 16 → w.cell? ⟨gHalf, j, none⟩ = some (.int .u32 ((half.getD j 0 : Nat) : Int)) := fun j hj => by
      rw [cell?_heap (hR.below.block gHalf (by unfold gHalf; omega)) j]
      exact hL.half j hj
    have hVp : VR (g.row gHalf (max (g.L gHalf) 16)) σ.toks w (.eptr halfV 0) (.pointer (some ⟨gHalf, 0, none⟩)) := by
      simp only [VR]
      refine ⟨gHalf, 0, half.map fun n : Nat => Value.int .u32 ((n : Nat) : Int), rfl, ⟨?_, fun j u hj => ?_⟩, VRs_ints _ _ _ _ _⟩
      · simp only [Gh.row, if_true]
        show 0 + 16 ≤ _
        omega
      · have hjl : j < 16 := (gA0.1 hj).1
        rw [Nat.zero_add, hcell j hjl]
        have hjh : j < half.length := hjl
        rw [List.getElem?_map, List.getElem?_eq_getElem hjh] at hj
        rw [← hj, gA6, List.getElem?_eq_getElem hjh]
        rfl
    have hiv := VR.ext E _ (evs_ok hT hx)
    obtain ⟨u, hu, hV⟩ := vindexAddr_ok (P := Tryd.prog) hVp hiv hv
    refine ⟨u, w, _, .eptr halfV i, σ, ?_, ⟨rfl, rfl⟩, E, R, hV⟩
    have hgv : a.eval (.global gHalf) = .pointer (some ⟨gHalf, 0, none⟩) := rfl
    simp [execOp, ho, hgv, hu]
  · rintro v σ1 ⟨rfl, rfl⟩
    exact h
end
def bytesIn : List V → Option (List UInt8)
  | [] => some []
  | .int .u8 n :: vs => match bytesIn vs with
    | some l => if 0 ≤ n ∧ n < 256 then some (UInt8.ofNat n.toNat :: l) else none
    | none => none
  | _ :: _ => none
theorem bytesIn_eq : ∀ {cs : List V} {bs : List UInt8}, bytesIn cs = some bs → cs = bs.map byteV
  | [], bs, h => by simp only [bytesIn] at h; injection h with h; subst h; rfl
  | v :: vs, bs, h => by
    unfold bytesIn at h
    split at h
    · rename_i he; cases he
    · rename_i n vs' he
      injection he with e1 e2
      subst e1 e2
      split at h
      · rename_i l hl
        split at h
        · rename_i hr
          injection h with h
          subst h
          have : (UInt8.ofNat n.toNat).toNat = n.toNat := by simp; omega
          rw [List.map_cons, ← bytesIn_eq hl, byteV, this]
          congr 2
          omega
        · cases h
      · cases h
    · cases h
theorem bytesIn_map : ∀ bs : List UInt8, bytesIn (bs.map byteV) = some bs
  | [] => rfl
  | b :: bs => by
    have := b.toNat_lt
    simp only [List.map_cons, byteV, bytesIn]
    rw [bytesIn_map bs]
    simp only
    rw [if_pos (by omega)]
    simp
def vbytesC : V → Option (List UInt8)
  | .nils => some []
  | .slice _ 1 cs n => if cs.length = n then (bytesIn cs) else none
  | _ => none
theorem vbytesC_bts {v : V} {bs : List UInt8} (h : vbytesC v = some bs) : BtsV v bs := by
  unfold vbytesC at h
  split at h
  · injection h with h; subst h; exact .inl ⟨rfl, rfl⟩
  · rename_i p cs n
    split at h
    · rename_i hn
      have := bytesIn_eq h
      subst this
      rw [List.length_map] at hn
      subst hn
      exact .inr ⟨p, rfl⟩
    · cases h
  · cases h
theorem bts_vbytesC {v : V} {bs : List UInt8} (h : BtsV v bs) : vbytesC v = some bs := by
  rcases h with ⟨rfl, rfl⟩ | ⟨p, rfl⟩
  · rfl
  · simp only [vbytesC, List.length_map, if_true, bytesIn_map]
def vbytesO (objs : List Ob) (v : V) : Option (List UInt8) := match v with
  | .hslice r off 1 n => match objs[r]? with
    | some (.cells cs) => if off + n ≤ cs.length then bytesIn ((cs.drop off).take n) else none
    | _ => none
  | _ => vbytesC v
theorem vbytesO_len {objs : List Ob} {v : V} {bs : List UInt8} (h : vbytesO objs v = some bs) : vlen Tryd.prog 22 v = some (.int .i64 (bs.length : Nat)) := by
  unfold vbytesO at h
  split at h
  · rename_i r off n
    split at h
    · rename_i cs hr
      split at h
      · rename_i hl
        have e := bytesIn_eq h
        have : bs.length = n := by
          have := congrArg List.length e
          simp only [List.length_take, List.length_drop, List.length_map] at this
          omega
        subst this
        simp [vlen, pTB]
      · cases h
    · cases h
  · exact (vbytesC_bts h).len pTB
theorem vbytesO_at {objs : List Ob} {v : V} {bs : List UInt8} (h : vbytesO objs v = some bs) {i : Nat} (hi : i < bs.length) : ∃ p, vindexAddr Tryd.prog 22 v (.int .i64 (i : Int)) = some p ∧ vload Tryd.prog objs 5 p = some (.int .u8 ((bs[i].toNat : Nat) : Int)) := by
  have hi' : (i : Int) < (bs.length : Nat) := by omega
  have pG5 : isAggT Tryd.prog 5 = some false := by kernel_rfl
  unfold vbytesO at h
  split at h
  · rename_i r off n
    split at h
    · rename_i cs hr
      split at h
      · rename_i hl
        have e := bytesIn_eq h
        have hn : bs.length = n := by
          have := congrArg List.length e
          simp only [List.length_take, List.length_drop, List.length_map] at this
          omega
        subst hn
        refine ⟨.optr r (off + i), by simp [vindexAddr, pTB, pS1, hi'], ?_⟩
        have h5 : cs[off + i]? = some (byteV bs[i]) := by
          have := congrArg (·[i]?) e
          simp only [List.getElem?_take_of_lt hi, List.getElem?_drop, List.getElem?_map, List.getElem?_eq_getElem hi] at this
          simpa using this
        rw [vload_obj hr pG5, h5]
        rfl
      · cases h
    · cases h
  · have hB := vbytesC_bts h
    refine ⟨.eptr (bs.map byteV) i, ?_, by simp [vload, vcellsAt, vpart, pG5, hi, byteV]⟩
    have := hB.addr pTB pS1 (k := .i64) (n := (i : Int)) (by omega) hi'
    rwa [Int.toNat_natCast] at this
def crcP' (vs : List V) (σ : St) : Option (V × St) := match vs with
  | [.int .u32 s, v] => match vbytesO σ.objs v with
    | some bs => if s = (((BitVec.ofInt 32 s).toNat : Nat) : Int) ∧ bs.length ≤ 1000000000 then some (uV (crcAdd (BitVec.ofInt 32 s) bs), σ) else none
    | none => none
  | _ => none
noncomputable def cAdd : Code := (Tryd.f59.body).getD .skip
theorem bAdd : Tryd.f59.body = some cAdd := by kernel_rfl
noncomputable def lAdd : Code := subC [true, true, false, true, false, false] cAdd
noncomputable def l2Add : Code := subC [true, true, false, false, true, true, true, false, false] lAdd
noncomputable def oAdd8 : Array Oper := regOps (subC [true, true, false, false] l2Add)
theorem sAdd : cAdd = .seq (subC [false] cAdd) (.seq (subC [true, false] cAdd) (.seq (.seq (subC [true, true, false, false] cAdd) (.block 0 (.loop lAdd))) (subC [true, true, true] cAdd))) := by kernel_rfl
theorem slAdd : lAdd = .seq (subC [false] lAdd) (.seq (.cond (.tmp 13) .skip (.exit 0)) (.seq (.block 1 (.seq (subC [true, true, false, false, false] lAdd) (.seq (subC [true, true, false, false, true, false] lAdd) (.seq (subC [true, true, false, false, true, true, false] lAdd) (.block 2 (.loop l2Add)))))) (subC [true, true, true] lAdd))) := by kernel_rfl
theorem sl2Add : l2Add = .seq (subC [false] l2Add) (.seq (.cond (.tmp 21) .skip (.exit 2)) (.seq (.block 3 (.region 8 oAdd8 false)) (subC [true, true, true] l2Add))) := by kernel_rfl
theorem oAdd8s : oAdd8.toList = oAdd8.toList.take 4 ++ (oAdd8.getD 4 default :: oAdd8.toList.drop 5) := by kernel_rfl
theorem pTA : Tryd.prog.underlying 104 = some (.array 16 61) := by kernel_rfl
theorem pSU : sizeT Tryd.prog 61 = some 1 := by kernel_rfl
theorem pGU : isAggT Tryd.prog 61 = some false := by kernel_rfl
theorem pTU : Tryd.prog.underlying 61 = some (.int .u32) := by kernel_rfl
theorem pT5 : Tryd.prog.underlying 5 = some (.int .u8) := by kernel_rfl
theorem pG5 : isAggT Tryd.prog 5 = some false := by kernel_rfl
theorem halfAddr {k : IntKind} {i : Nat} (h : i < 16) : vindexAddr Tryd.prog 104 (.eptr halfV 0) (.int k (i : Int)) = some (.eptr halfV i) := by
  have h2 : (i : Int) < 16 := by omega
  simp [vindexAddr, pTA, pSU, h2]
theorem halfLoad {objs : List Ob} {i : Nat} (h : i < 16) : vload Tryd.prog objs 61 (.eptr halfV i) = some (.int .u32 (((BitVec.ofNat 32 (half.getD i 0)).toNat : Nat) : Int)) := by
  have hl : i < half.length := h
  rw [half_toNat, gA6, List.getElem?_eq_getElem hl]
  simp [vload, vcellsAt, vpart, pGU, halfV, hl]
def nibs : Nat → BitVec 32 → BitVec 32
  | 0, r => r
  | k + 1, r => nib (nibs k r)
theorem crc_ok {base : Nat} {w0 : World} (hL : Lays base w0) {vs : List V} {σ : St} {v : V} {σ' : St} (h : crcP' vs σ = some (v, σ')) : CallOk Tryd.prog base w0 59 vs σ (.ret v) σ' := by
  unfold crcP' at h
  split at h
  · rename_i s x
    split at h
    · rename_i bs hbs
      split at h
      · rename_i hs
        injection h with h
        injection h with h1 h2
        subst h1 h2
        obtain ⟨hs, hbl⟩ := hs
        generalize BitVec.ofInt 32 s = r at hs ⊢
        subst hs
        refine CallOk.nd (fn := Tryd.f59) Tryd.func59 bAdd (by show 2 ≤ 33; omega) ?_
        show Nd Tryd.prog base w0 33 cAdd _ _ _
        rw [sAdd]
        have hp := prim0_ok base w0
        have hlen := vbytesO_len hbs
        refine Nd.seq (Nd.ev hp (k := .region k59_r0) (by kernel_rfl) (by kernel_rfl) (by kernel_rfl) ?_)
        simp only [k59_a, WKV, Nat.reduceLT, Nat.reduceEqDiff, ↓reduceIte, reduceCtorEq, Nat.reduceAdd, Int.reduceLT, Int.reduceNeg, noSB0, implies_true, eq_self, false_and, or_false, false_or]
        refine Nd.seq (Nd.ev hp (k := .region k59_r1) (by kernel_rfl) (by kernel_rfl) (by kernel_rfl) ?_)
        simp only [k59_a, WKV, Nat.reduceLT, Nat.reduceEqDiff, ↓reduceIte, reduceCtorEq, Nat.reduceAdd, Int.reduceLT, Int.reduceNeg, noSB0, implies_true, eq_self, false_and, or_false, false_or, gD0, gD1, bit_notW]
        refine Nd.seq (Nd.seq (Nd.ev hp (k := .region k59_r2) (by kernel_rfl) (by kernel_rfl) (by kernel_rfl) ?_))
        simp only [k59_a, WKV, Nat.reduceLT, Nat.reduceEqDiff, ↓reduceIte, reduceCtorEq, Nat.reduceAdd, Int.reduceLT, Int.reduceNeg, noSB0, implies_true, eq_self, false_and, or_false, false_or, gD0, gD1, hlen]
        refine Nd.block (Nd.loop (fun (i : Nat) e τ => τ = σ ∧ i ≤ bs.length ∧ e 12 = .int .i64 (i : Nat) ∧ e 10 = x ∧ e 11 = .int .i64 (bs.length : Nat) ∧ e 5 = .int .u32 (((runC (~~~ r) (bs.take i)).toNat : Nat) : Int)) (fun i => bs.length - i) ?_ 0 ?_)
        · rintro i e τ ⟨rfl, hi, h12, h10, h11, h5⟩
          rw [slAdd]
          refine Nd.seq (Nd.ev hp (k := .region k59_r3) (by kernel_rfl) (by kernel_rfl) (by kernel_rfl) ?_)
          by_cases hlt : i < bs.length
          · have hlt' : (i : Int) < (bs.length : Nat) := by omega
            have hwi : IntKind.i64.wrap ((i : Int) + 1) = ((i + 1 : Nat) : Int) := by rw [wrap_i64 (by omega) (by omega)]; omega
            obtain ⟨pa, hat, hld⟩ := vbytesO_at hbs hlt
            have hcv : vconv Tryd.prog 5 61 (.int .u8 ((bs[i].toNat : Nat) : Int)) = some (.int .u32 (((BitVec.ofNat 32 bs[i].toNat).toNat : Nat) : Int)) := by
              simp only [vconv, pT5, pTU, byte32]
            simp only [k59_a, WKV, Nat.reduceLT, Nat.reduceEqDiff, ↓reduceIte, reduceCtorEq, Nat.reduceAdd, Int.reduceLT, Int.reduceNeg, noSB0, implies_true, eq_self, false_and, or_false, false_or, h12, h11, hlt', decide_true]
            refine Nd.seq (Nd.cond (t := true) (by simp only [WKV, Nat.reduceLT, Nat.reduceEqDiff, ↓reduceIte, reduceCtorEq, Nat.reduceAdd, Int.reduceLT, Int.reduceNeg, noSB0, implies_true, eq_self, false_and, or_false, false_or]) (Nd.skip (.inl ⟨rfl, ?_⟩)))
            refine Nd.seq (Nd.block (Nd.seq (Nd.ev hp (k := .region k59_r4) (by kernel_rfl) (by kernel_rfl) (by kernel_rfl) ?_)))
            simp only [k59_a, WKV, Nat.reduceLT, Nat.reduceEqDiff, ↓reduceIte, reduceCtorEq, Nat.reduceAdd, Int.reduceLT, Int.reduceNeg, noSB0, implies_true, eq_self, false_and, or_false, false_or, h10, h12, hat, hld]
            refine Nd.seq (Nd.ev hp (k := .region k59_r5) (by kernel_rfl) (by kernel_rfl) (by kernel_rfl) ?_)
            simp only [k59_a, WKV, Nat.reduceLT, Nat.reduceEqDiff, ↓reduceIte, reduceCtorEq, Nat.reduceAdd, Int.reduceLT, Int.reduceNeg, noSB0, implies_true, eq_self, false_and, or_false, false_or, h5, hcv, bit_xor]
            refine Nd.seq (Nd.ev hp (k := .region k59_r6) (by kernel_rfl) (by kernel_rfl) (by kernel_rfl) ?_)
            simp only [k59_a, WKV, Nat.reduceLT, Nat.reduceEqDiff, ↓reduceIte, reduceCtorEq, Nat.reduceAdd, Int.reduceLT, Int.reduceNeg, noSB0, implies_true, eq_self, false_and, or_false, false_or]
            refine Nd.block (Nd.loop (fun (j : Nat) e2 τ2 => τ2 = τ ∧ j ≤ 2 ∧ e2 20 = .int .i64 (j : Nat) ∧ e2 12 = .int .i64 (i : Nat) ∧ e2 10 = x ∧ e2 11 = .int .i64 (bs.length : Nat) ∧ e2 5 = .int .u32 (((nibs j (runC (~~~ r) (bs.take i) ^^^ BitVec.ofNat 32 bs[i].toNat)).toNat : Nat) : Int)) (fun j => 2 - j) ?_ 0 ?_)
            · rintro j e2 τ2 ⟨rfl, hj, m20, m12, m10, m11, m5⟩
              rw [sl2Add]
              generalize hq : nibs j (runC (~~~ r) (bs.take i) ^^^ BitVec.ofNat 32 bs[i].toNat) = q at m5
              refine Nd.seq (Nd.ev hp (k := .region k59_r7) (by kernel_rfl) (by kernel_rfl) (by kernel_rfl) ?_)
              by_cases hjt : j < 2
              · have hjt' : (j : Int) < 2 := by omega
                have hwj : IntKind.i64.wrap ((j : Int) + 1) = ((j + 1 : Nat) : Int) := by rw [wrap_i64 (by omega) (by omega)]; omega
                have hq15 : (q &&& 15#32).toNat < 16 := by
                  rw [BitVec.toNat_and]
                  exact Nat.lt_of_le_of_lt Nat.and_le_right (by decide)
                simp only [k59_a, WKV, Nat.reduceLT, Nat.reduceEqDiff, ↓reduceIte, reduceCtorEq, Nat.reduceAdd, Int.reduceLT, Int.reduceNeg, noSB0, implies_true, eq_self, false_and, or_false, false_or, m20, hjt', decide_true]
                refine Nd.seq (Nd.cond (t := true) (by simp only [WKV, Nat.reduceLT, Nat.reduceEqDiff, ↓reduceIte, reduceCtorEq, Nat.reduceAdd, Int.reduceLT, Int.reduceNeg, noSB0, implies_true, eq_self, false_and, or_false, false_or]) (Nd.skip (.inl ⟨rfl, ?_⟩)))
                refine Nd.seq (Nd.block (Nd.region ?_))
                rw [oAdd8s]
                refine NdO.app (NdO.eo hp (cl := k59_r8.take 4) (by kernel_rfl) (by kernel_rfl) ?_)
                unfold k59_r8
                simp only [List.take_succ_cons, List.take_zero, WKV, Nat.reduceLT, Nat.reduceEqDiff, ↓reduceIte, reduceCtorEq, Nat.reduceAdd, Int.reduceLT, Int.reduceNeg, noSB0, implies_true, eq_self, false_and, or_false, false_or, m5, shr4, and15]
                have hd8 : (oAdd8.getD 4 default).dst = some 26 := by kernel_rfl
                refine NdO.tab hL (t := 104) (x := .tmp 25) (k := .u32) (i := (q &&& 15#32).toNat) (by kernel_rfl) (by kernel_rfl) (by simp only [WKV, Nat.reduceLT, Nat.reduceEqDiff, ↓reduceIte, reduceCtorEq, Nat.reduceAdd, Int.reduceLT, Int.reduceNeg, noSB0, implies_true, eq_self, false_and, or_false, false_or]) (halfAddr hq15) ?_
                rw [hd8]
                refine NdO.eo hp (cl := k59_r8.drop 5) (by kernel_rfl) (by kernel_rfl) ?_
                unfold k59_r8
                simp only [List.drop_succ_cons, List.drop_zero, WKV, Nat.reduceLT, Nat.reduceEqDiff, ↓reduceIte, reduceCtorEq, Nat.reduceAdd, Int.reduceLT, Int.reduceNeg, noSB0, implies_true, eq_self, false_and, or_false, false_or, halfLoad hq15, bit_xor]
                refine Nd.ev hp (k := .region k59_r9) (by kernel_rfl) (by kernel_rfl) (by kernel_rfl) ?_
                simp only [k59_a, WKV, Nat.reduceLT, Nat.reduceEqDiff, ↓reduceIte, reduceCtorEq, Nat.reduceAdd, Int.reduceLT, Int.reduceNeg, noSB0, implies_true, eq_self, false_and, or_false, false_or, m20, hwj]
                refine ⟨j + 1, ⟨by omega, by simp [upd_some], by simp [upd_some, m12], by simp [upd_some, m10], by simp [upd_some, m11], ?_⟩, by omega⟩
                simp only [upd_some, Nat.reduceEqDiff, ↓reduceIte, nibs, hq]
                rfl
              · have hjt' : ¬ (j : Int) < 2 := by omega
                have hj2 : j = 2 := by omega
                subst hj2
                simp only [k59_a, WKV, Nat.reduceLT, Nat.reduceEqDiff, ↓reduceIte, reduceCtorEq, Nat.reduceAdd, Int.reduceLT, Int.reduceNeg, noSB0, implies_true, eq_self, false_and, or_false, false_or, m20, hjt', decide_false]
                refine Nd.seq (Nd.cond (t := false) (by simp only [WKV, Nat.reduceLT, Nat.reduceEqDiff, ↓reduceIte, reduceCtorEq, Nat.reduceAdd, Int.reduceLT, Int.reduceNeg, noSB0, implies_true, eq_self, false_and, or_false, false_or]) (Nd.exit (.inr ⟨(by intro h; cases h), .inr ⟨(by intro h; cases h), .inl ⟨rfl, ?_⟩⟩⟩)))
                refine Nd.ev hp (k := .region k59_r10) (by kernel_rfl) (by kernel_rfl) (by kernel_rfl) ?_
                simp only [k59_a, WKV, Nat.reduceLT, Nat.reduceEqDiff, ↓reduceIte, reduceCtorEq, Nat.reduceAdd, Int.reduceLT, Int.reduceNeg, noSB0, implies_true, eq_self, false_and, or_false, false_or, m12, hwi]
                refine ⟨i + 1, ⟨by omega, by simp [upd_some], by simp [upd_some, m10], by simp [upd_some, m11], ?_⟩, by omega⟩
                simp only [upd_some, Nat.reduceEqDiff, ↓reduceIte, m5, runC_succ hlt, byteC]
                rw [← hq]
                rfl
            · exact ⟨rfl, by omega, by simp [upd_some], by simp [upd_some, h12], by simp [upd_some, h10], by simp [upd_some, h11], by simp [upd_some, nibs]⟩
          · have hlt' : ¬ (i : Int) < (bs.length : Nat) := by omega
            have hil : bs.take i = bs := List.take_of_length_le (by omega)
            rw [hil] at h5
            simp only [k59_a, WKV, Nat.reduceLT, Nat.reduceEqDiff, ↓reduceIte, reduceCtorEq, Nat.reduceAdd, Int.reduceLT, Int.reduceNeg, noSB0, implies_true, eq_self, false_and, or_false, false_or, h12, h11, hlt', decide_false]
            refine Nd.seq (Nd.cond (t := false) (by simp only [WKV, Nat.reduceLT, Nat.reduceEqDiff, ↓reduceIte, reduceCtorEq, Nat.reduceAdd, Int.reduceLT, Int.reduceNeg, noSB0, implies_true, eq_self, false_and, or_false, false_or]) (Nd.exit (.inr ⟨(by intro h; cases h), .inr ⟨(by intro h; cases h), .inl ⟨rfl, ?_⟩⟩⟩)))
            refine Nd.ev hp (k := .seq (.region k59_r11) .ret) (by kernel_rfl) (by kernel_rfl) (by kernel_rfl) ?_
            simp only [k59_a, WKV, Nat.reduceLT, Nat.reduceEqDiff, ↓reduceIte, reduceCtorEq, Nat.reduceAdd, Int.reduceLT, Int.reduceNeg, noSB0, implies_true, eq_self, false_and, or_false, false_or, h5, bit_notW]
            refine ⟨_, by show vresults _ _ (env 33 _) [ResultVar.tmp 4] = _; simp only [WKV, Nat.reduceLT, Nat.reduceEqDiff, ↓reduceIte, reduceCtorEq, Nat.reduceAdd, Int.reduceLT, Int.reduceNeg, noSB0, implies_true, eq_self, false_and, or_false, false_or]; rfl, rfl⟩
        · exact ⟨rfl, Nat.zero_le _, by simp [upd_some], by simp [upd_some], by simp [upd_some], by simp [upd_some, runC]⟩
      · cases h
    · cases h
  · cases h
theorem tab_below {base : Nat} {w0 w : World} (hL : Lays base w0) (hb : Below base w0 w) : Lib.TabIs Tryd.prog w "internal/strconv.uint64pow10" .u64 Lib.pow10Tab := by
  have h := hL.tab
  unfold Lib.TabIs at h ⊢
  rw [← h]
  have hlo := hL.lo
  have hg : Tryd.prog.globalNamed "internal/strconv.uint64pow10" = some 1 := by kernel_rfl
  unfold World.var?
  rw [hg]
  simp only [Option.bind_some, hb.block 1 (by omega)]
theorem below_more (w : World) (k : Nat) (os : Array Obj) : Below w.heap.size w (Go.Sort.grow (w.drewN k) os) := ⟨rfl, rfl, rfl, by simp [Go.Sort.grow, World.drewN], fun i hi => by
  simp only [Go.Sort.grow, World.drewN]
  rw [Array.getElem?_append_left hi]⟩
theorem below_bytes (w : World) (e : TypeId) (s : ByteArray) : Below w.heap.size w (Lib.bytesWorld w e s) := by
  have h1 : Below w.heap.size w (w.drew.alloc (.cells (Lib.bytesCells w e s) e)) := (Below.refl _ _).drew.alloc (Nat.le_refl _) _
  refine h1.trans ?_
  unfold Lib.bytesWorld World.freeze
  split
  · exact Below.refl _ _
  · refine ⟨rfl, rfl, rfl, by simp, fun k hk => ?_⟩
    rw [Array.getElem?_modify, if_neg (by simp only [World.drew]; omega)]
def itoaP (vs : List V) (σ : St) : Option (V × St) := match vs with
  | [.int .i64 n] => if 0 ≤ n ∧ n ≤ 999999999 then some (.str (digK (wid n.toNat) n.toNat), σ) else none
  | _ => none
theorem itoa_ok {base : Nat} {w0 : World} (hL : Lays base w0) {vs : List V} {σ : St} {v : V} {σ' : St} (h : itoaP vs σ = some (v, σ')) : CallOk Tryd.prog base w0 43 vs σ (.ret v) σ' := by
  unfold itoaP at h
  split at h
  · rename_i n
    split at h
    · rename_i hn
      injection h with h
      injection h with h1 h2
      subst h1 h2
      intro g w us hR hV
      simp only [VRs, VR] at hV
      obtain ⟨u1, us1, rfl, rfl, rfl⟩ := hV
      have c := Tryd.strconv_Itoa n (by omega) (by omega) w (tab_below hL hR.below)
      refine c.mono fun e w' hpost => ?_
      obtain ⟨rfl, k, os, rfl⟩ := hpost
      obtain ⟨m, rfl⟩ : ∃ m : Nat, n = (m : Int) := ⟨n.toNat, by omega⟩
      have hw := (wid_ok (n := m) (by omega)).2.2.2
      obtain ⟨hE, hR1⟩ := hR.later (below_more w k os)
      refine ⟨g, hE, hR1, _, rfl, ?_⟩
      simp only [VR, hw, Int.toNat_natCast]
    · cases h
  · cases h
def atoiP (vs : List V) (σ : St) : Option (V × St) := match vs with
  | [.str s] => if s.length ≤ 18 then match Lib.atoi s with
      | some n => some (.tuple [.int .i64 n, .nili], σ)
      | none => some (.tuple [.int .i64 0, .iface 119 (.optr σ.objs.length 0)], ⟨σ.objs ++ [.cells []], σ.toks⟩)
    else none
  | _ => none
theorem atoi_ok {base : Nat} {w0 : World} (hL : Lays base w0) {vs : List V} {σ : St} {v : V} {σ' : St} (h : atoiP vs σ = some (v, σ')) : CallOk Tryd.prog base w0 69 vs σ (.ret v) σ' := by
  unfold atoiP at h
  split at h
  · rename_i s
    split at h
    · rename_i hs
      intro g w us hR hV
      simp only [VRs, VR] at hV
      obtain ⟨u1, us1, rfl, rfl, rfl⟩ := hV
      split at h
      · rename_i n hn
        injection h with h
        injection h with h1 h2
        subst h1 h2
        have c := Tryd.strconv_Atoi ⟨s.toArray⟩ n (by simpa [ByteArray.size] using hs) (by simpa using hn) w
        refine c.mono fun e w' hpost => ?_
        obtain ⟨rfl, t, rfl⟩ := hpost
        obtain ⟨hE, hR1⟩ := hR.later (below_bytes w _ _)
        refine ⟨g, hE, hR1, _, rfl, ?_⟩
        simp [VR, VRs]
      · rename_i hn
        injection h with h
        injection h with h1 h2
        subst h1 h2
        obtain ⟨ev, e1, e2⟩ := hL.err
        have hlo := hL.lo
        have hv : w.cell? ⟨gErr, 0, none⟩ = some ev := by rw [cell?_heap (hR.below.block gErr (by unfold gErr; omega)) 0]; exact e1
        have c := Tryd.strconv_Atoi_err ⟨s.toArray⟩ (by simpa [ByteArray.size] using hs) (by simpa using hn) ev w hv e2
        refine c.mono fun e w' hpost => ?_
        obtain ⟨N, rfl, h2, h3, h4⟩ := hpost
        obtain ⟨hE, hR1⟩ := hR.later h4
        obtain ⟨hE2, hR2⟩ := hR1.adopt (B := N) (cs := []) (us := []) ((Array.getElem?_eq_some_iff.1 h3).1) (fun r hr => by have := hR.alive_block hr; omega) (fun t ht => by have := (hR.tok t ht).2.1; omega) (hR.lim N h2) (by have := hR.bs; omega) h3 (by simp [VRs]) (by simp)
        refine ⟨g.obj N, hE.trans hE2, hR2, _, rfl, ?_⟩
        have hn := hR.n
        simp only [VR, VRs]
        refine ⟨[.int .i64 0, .iface 119 (.pointer (some ⟨N, 0, none⟩))], rfl, _, _, rfl, rfl, _, _, rfl, ⟨_, rfl, ?_, ?_⟩, rfl⟩
        · constructor
          · show σ.objs.length < g.n + 1
            omega
          · show (if σ.objs.length = g.n then false else g.hid σ.objs.length) = false
            rw [if_pos hn.symm]
        · simp only [Gh.obj]
          rw [if_pos hn.symm, if_pos hn.symm]
    · cases h
  · cases h
def prims : Prim := ⟨fun f => f == 67 || f == 24 || f == 51 || f == 59 || f == 43 || f == 69, fun f vs σ => if f = 67 then sizeP vs σ else if f = 24 then offP vs σ else if f = 51 then sortedP vs σ else if f = 59 then crcP' vs σ else if f = 43 then itoaP vs σ else if f = 69 then atoiP vs σ else none, hots⟩
theorem prims_ok (base : Nat) (w0 : World) (hL : Lays base w0) : PrimOk Tryd.prog prims base w0 := by
  intro f vs σ v σ' hi h
  simp only [prims] at h
  split at h
  · rename_i e; subst e; exact ⟨size_ok h, _, Tryd.func67, by kernel_rfl, by kernel_rfl⟩
  split at h
  · rename_i e; subst e; exact ⟨off_ok h, _, Tryd.func24, by kernel_rfl, by kernel_rfl⟩
  split at h
  · rename_i e; subst e; exact ⟨sorted_ok h, _, Tryd.func51, by kernel_rfl, by kernel_rfl⟩
  split at h
  · rename_i e; subst e; exact ⟨crc_ok hL h, _, Tryd.func59, by kernel_rfl, by kernel_rfl⟩
  split at h
  · rename_i e; subst e; exact ⟨itoa_ok hL h, _, Tryd.func43, by kernel_rfl, by kernel_rfl⟩
  split at h
  · rename_i e; subst e; exact ⟨atoi_ok hL h, _, Tryd.func69, by kernel_rfl, by kernel_rfl⟩
  · cases h
end Go.Proofs.YtnegdinonfjdfaaDoor.Q
namespace Go.Proofs.YtnegdinonfjdfaaDoor.Q
open Go Go.RowKit Go.Proofs
variable {P : Program} {pr : Prim} {N : Nat} {e : Nat → V} {σ : St} {Q : VX → (Nat → V) → St → Prop} {QQ : QD} {SS : QS} {m : Pn}
def k3_r0 : List COp := [o 4 (pO false)]
def k3_r1 : List COp := [o 9 (.call { callee := .value (.func 11), args := #[], argTypes := #[] }),
o 10 (.unOp .not 4 (.tmp 9))]
def k3_r2 : List COp := [o 4 (pO false)]
def k3_r3 : List COp := [o 12 (pM 0),
o 13 (pM 1),
o 14 (pD 12 12 13 3 22),
o 11 (pM 14),
o 15 (pX 11 0),
o 16 (pX 11 1),
o 5 (pA 15),
o 6 (pA 16)]
def k3_r4 : List COp := [o 18 (pM 0),
o 19 (pM 1),
o 20 (pD 13 18 19 3 22),
o 17 (pM 20),
o 21 (pX 17 0),
o 22 (pX 17 1),
o 7 (pA 21),
o 8 (pA 22)]
def k3_r5 : List COp := [o 23 (pM 0),
o 24 (pC 14 23 3),
o 25 (pM 0),
o 26 (pC 15 25 3),
o 27 (pB .eql 9 24 26 9),
o 28 (pM 27),
oT 29 (pM 0) 28,
oT 30 (pM 1) 28,
oT 31 (pD 17 29 30 3 22) 28,
oT 32 (pM 0) 28,
oT 33 (pM 1) 28,
oT 34 (pD 18 32 33 3 22) 28,
oT 35 (pD 16 31 34 22 22) 28,
o 36 (pU 28 35),
o 37 (pM 36),
oT 38 (pM 5) 37,
oT 39 (pM 7) 37,
oT 40 (pD 16 38 39 22 22) 37,
o 41 (pU 37 40),
o 42 (pM 41),
oT 43 (pM 6) 42,
oT 44 (pM 8) 42,
oT 45 (pB .eql 24 43 44 24) 42,
o 46 (pU 42 45),
o 4 (pA 46)]
def k3 : CC := (.seq (.region k3_r0) (.seq (.seq (.region k3_r1) (.cond (.tmp 10) (.seq (.region k3_r2) .ret) .skip)) (.seq (.region k3_r3) (.seq (.region k3_r4) (.seq (.region k3_r5) .ret)))))
def k4_r0 : List COp := [o 6 (pO false)]
def k4_r1 : List COp := [o 13 (.call { callee := .value (.func 11), args := #[], argTypes := #[] }),
o 14 (.unOp .not 4 (.tmp 13))]
def k4_r2 : List COp := [o 6 (pO false)]
def k4_r3 : List COp := [o 15 (pM 1),
o 16 (pN 15 22),
o 17 (pK .gtr 3 16 .i64 4096 3)]
def k4_r4 : List COp := [o 6 (pO true)]
def k4_r5 : List COp := [o 18 (pM 0),
o 19 (pM 1),
o 20 (pD 17 18 19 3 22),
o 7 (pA 20)]
def k4_r6 : List COp := [o 22 (pM 0),
o 23 (pM 7),
o 24 (pD 12 22 23 3 22),
o 21 (pM 24),
o 25 (pX 21 0),
o 26 (pX 21 1),
o 8 (pA 25),
o 9 (pA 26)]
def k4_r7 : List COp := [o 27 (pM 0),
o 28 (pC 14 27 3),
o 29 (.binOp .eql 9 (.tmp 28) (.const (.string { data := #[] })) 9)]
def k4_r8 : List COp := [o 30 (pM 9),
o 31 (pK .eql 24 30 .i64 11 24),
o 6 (pA 31)]
def k4_r9 : List COp := [o 32 (pM 9),
o 33 (pK .neq 24 32 .i64 0 24),
o 34 (pM 33),
oF 35 (pM 8) 34,
oF 36 (pM 1) 34,
oF 37 (pD 16 35 36 22 22) 34,
oF 38 (.unOp .not 4 (.tmp 37)) 34,
o 39 (pV 34 38)]
def k4_r10 : List COp := [o 6 (pO false)]
def k4_r11 : List COp := [o 10 (pZ .i64 0)]
def k4_r12 : List COp := [o 40 (pM 10),
o 41 (pM 7),
o 42 (pN 41 22),
o 43 (pB .lss 3 40 42 3)]
def k4_r14 : List COp := [o 47 (pM 0),
o 48 (pM 7),
o 49 (pM 10),
o 50 (.slice 22 (.tmp 48) .none (some (.tmp 49)) .none),
o 51 (pD 12 47 50 3 22),
o 46 (pM 51),
o 52 (pX 46 0),
o 53 (pX 46 1),
o 9 (pA 53)]
def k4_r15 : List COp := [o 54 (pM 9),
o 55 (pK .neq 24 54 .i64 10 24)]
def k4_r16 : List COp := [o 6 (pO false)]
def k4_r13 : List COp := [o 44 (pM 10),
o 45 (pK .add 3 44 .i64 1 3),
o 10 (pA 45)]
def k4_l0 : CC := (.seq (.seq (.region k4_r12) (.cond (.tmp 43) .skip (.exit 0))) (.seq (.block 1 (.seq (.region k4_r14) (.seq (.region k4_r15) (.cond (.tmp 55) (.seq (.region k4_r16) .ret) .skip)))) (.region k4_r13)))
def k4_r17 : List COp := [o 57 (pM 0),
o 58 (.buildSlice 22 0 #[]),
o 59 (pM 7),
o 60 (pQ 58 59 22 22),
o 61 (.buildSlice 22 1 #[(0, .const (.int .u8 0))]),
o 62 (pQ 60 61 22 22),
o 63 (pD 12 57 62 3 22),
o 56 (pM 63),
o 64 (pX 56 0),
o 65 (pX 56 1),
o 9 (pA 65)]
def k4_r18 : List COp := [o 67 (pM 2),
o 68 (pM 7),
o 69 (pD 12 67 68 3 22),
o 66 (pM 69),
o 70 (pX 66 0),
o 71 (pX 66 1),
o 11 (pA 70),
o 12 (pA 71)]
def k4_r19 : List COp := [o 72 (pM 9),
o 73 (pK .eql 24 72 .i64 11 24),
o 74 (pM 73),
oT 75 (pM 12) 74,
oT 76 (pK .eql 24 75 .i64 0 24) 74,
oT 77 (pM 2) 74,
oT 78 (pM 0) 74,
oT 79 (pB .eql 3 77 78 3) 74,
oT 80 (pB .eql 4 76 79 4) 74,
o 81 (pU 74 80),
o 6 (pA 81)]
def k4 : CC := (.seq (.region k4_r0) (.seq (.seq (.region k4_r1) (.cond (.tmp 14) (.seq (.region k4_r2) .ret) .skip)) (.seq (.seq (.region k4_r3) (.cond (.tmp 17) (.seq (.region k4_r4) .ret) .skip)) (.seq (.region k4_r5) (.seq (.region k4_r6) (.seq (.seq (.region k4_r7) (.cond (.tmp 29) (.seq (.region k4_r8) .ret) .skip)) (.seq (.seq (.region k4_r9) (.cond (.tmp 39) (.seq (.region k4_r10) .ret) .skip)) (.seq (.seq (.region k4_r11) (.block 0 (.loop k4_l0))) (.seq (.region k4_r17) (.seq (.region k4_r18) (.seq (.region k4_r19) .ret)))))))))))
def k5_r0 : List COp := [o 4 (pO false)]
def k5_r1 : List COp := [o 23 (.call { callee := .value (.func 11), args := #[], argTypes := #[] }),
o 24 (.unOp .not 4 (.tmp 23))]
def k5_r2 : List COp := [o 4 (pO false)]
def k5_r3 : List COp := [o 25 (pM 1),
o 26 (pN 25 22),
o 27 (pK .gtr 3 26 .i64 4096 3)]
def k5_r4 : List COp := [o 4 (pO true)]
def k5_r5 : CC := (.hreg [
(true, o 28 (.buildSlice 22 0 #[])),
(false, o 29 (pM 1)),
(true, o 30 (pQ 28 29 22 22)),
(true, o 31 (.buildSlice 22 1 #[(0, .const (.int .u8 71))])),
(true, o 32 (pQ 30 31 22 22)),
(false, o 5 (pA 32))])
def k5_r6 : List COp := [o 33 (.call { callee := .value (.func 19), args := #[.const (.int .i64 1048576)], argTypes := #[3] }),
o 6 (pA 33)]
def k5_r7 : List COp := [o 34 (pM 6),
o 35 (pM 0),
o 36 (pM 5),
o 37 (pM 1),
o 38 (pN 37 22),
o 39 (.slice 22 (.tmp 36) .none (some (.tmp 38)) .none),
o 40 (.call { callee := .value (.func 20), args := #[.tmp 34, .tmp 35, .tmp 39], argTypes := #[32, 3, 22] }),
o 7 (pA 40)]
def k5_r8 : List COp := [o 41 (pM 0),
o 42 (pM 5),
o 43 (pM 1),
o 44 (pN 43 22),
o 45 (.slice 22 (.tmp 42) .none (some (.tmp 44)) .none),
o 46 (pD 17 41 45 3 22),
o 8 (pA 46)]
def k5_r9 : CC := (.hreg [
(false, o 47 (pM 0)),
(false, o 48 (pM 5)),
(false, o 49 (pM 1)),
(false, o 50 (pN 49 22)),
(false, o 51 (.slice 22 (.tmp 48) .none (some (.tmp 50)) .none)),
(false, o 52 (pD 17 47 51 3 22)),
(true, o 9 (pA 52))])
def k5_r10 : List COp := [o 53 (pM 5),
o 54 (pM 1),
o 55 (pN 54 22),
o 56 (.slice 22 (.tmp 53) .none (some (.tmp 55)) .none),
o 57 (pM 1),
o 58 (pD 16 56 57 22 22),
o 59 (.unOp .not 4 (.tmp 58)),
o 60 (pM 59),
oF 61 (pM 5) 60,
oF 62 (pM 1) 60,
oF 63 (pN 62 22) 60,
oF 64 (pI 22 61 63) 60,
oF 65 (pL 5 64) 60,
oF 66 (pK .neq 5 65 .u8 71 5) 60,
o 67 (pV 60 66)]
def k5_r11 : List COp := [o 4 (pO false)]
def k5_r12 : List COp := [o 68 (pM 5),
o 69 (pN 68 22),
o 70 (pW .i64 0)]
def k5_r13 : List COp := [o 71 (pB .lss 3 70 69 3)]
def k5_r14 : List COp := [o 72 (pM 70),
o 10 (pA 72)]
def k5_r15 : List COp := [o 73 (pM 5),
o 74 (pM 10),
o 75 (pI 22 73 74),
⟨none, .store 5 (.tmp 75) (.const (.int .u8 1)), none, true⟩]
def k5_r16 : List COp := [o 76 (pK .add 3 70 .i64 1 3),
o 70 (pM 76)]
def k5_l0 : CC := (.seq (.region k5_r13) (.seq (.cond (.tmp 71) .skip (.exit 0)) (.seq (.block 1 (.seq (.region k5_r14) (.region k5_r15))) (.region k5_r16))))
def k5_r17 : List COp := [o 77 (.buildSlice 22 0 #[]),
o 78 (pM 9),
o 79 (pQ 77 78 22 22),
o 11 (pA 79)]
def k5_r18 : List COp := [o 81 (pM 0),
o 82 (pM 9),
o 83 (pD 12 81 82 3 22),
o 80 (pM 83),
o 84 (pX 80 0),
o 85 (pX 80 1),
o 12 (pA 84),
o 13 (pA 85)]
def k5_r19 : List COp := [o 86 (pM 8),
o 87 (pN 86 22),
o 88 (pW .i64 0)]
def k5_r20 : List COp := [o 89 (pB .lss 3 88 87 3)]
def k5_r21 : List COp := [o 90 (pM 88),
o 14 (pA 90)]
def k5_r22 : List COp := [o 91 (pM 8),
o 92 (pM 14),
o 93 (pI 22 91 92),
⟨none, .store 5 (.tmp 93) (.const (.int .u8 2)), none, true⟩]
def k5_r23 : List COp := [o 94 (pK .add 3 88 .i64 1 3),
o 88 (pM 94)]
def k5_l1 : CC := (.seq (.region k5_r20) (.seq (.cond (.tmp 89) .skip (.exit 2)) (.seq (.block 3 (.seq (.region k5_r21) (.region k5_r22))) (.region k5_r23))))
def k5_r24 : CC := (.hreg [
(false, o 95 (pM 8)),
(true, o 96 (.buildSlice 22 1 #[(0, .const (.int .u8 3))])),
(true, o 97 (pQ 95 96 22 22)),
(false, o 8 (pA 97))])
def k5_r25 : List COp := [o 98 (pM 9),
o 99 (pM 11),
o 100 (pD 16 98 99 22 22),
o 101 (.unOp .not 4 (.tmp 100)),
o 102 (pM 101),
oF 103 (pM 8) 102,
oF 104 (pN 103 22) 102,
oF 105 (pM 9) 102,
oF 106 (pN 105 22) 102,
oF 107 (pK .add 3 106 .i64 1 3) 102,
oF 108 (pB .neq 3 104 107 3) 102,
o 109 (pV 102 108)]
def k5_r26 : List COp := [o 4 (pO false)]
def k5_r27 : List COp := [o 110 (pM 12),
o 111 (pN 110 22),
o 112 (pW .i64 0)]
def k5_r28 : List COp := [o 113 (pB .lss 3 112 111 3)]
def k5_r29 : List COp := [o 114 (pM 112),
o 15 (pA 114)]
def k5_r30 : List COp := [o 115 (pM 12),
o 116 (pM 15),
o 117 (pI 22 115 116),
⟨none, .store 5 (.tmp 117) (.const (.int .u8 4)), none, true⟩]
def k5_r31 : List COp := [o 118 (pK .add 3 112 .i64 1 3),
o 112 (pM 118)]
def k5_l2 : CC := (.seq (.region k5_r28) (.seq (.cond (.tmp 113) .skip (.exit 4)) (.seq (.block 5 (.seq (.region k5_r29) (.region k5_r30))) (.region k5_r31))))
def k5_r32 : List COp := [o 119 (pM 9),
o 120 (pM 11),
o 121 (pD 16 119 120 22 22),
o 122 (.unOp .not 4 (.tmp 121))]
def k5_r33 : List COp := [o 4 (pO false)]
def k5_r34 : List COp := [o 123 (pM 7),
o 124 (pK .neq 24 123 .i64 0 24)]
def k5_r35 : List COp := [o 125 (pM 7),
o 126 (pK .eql 24 125 .i64 1 24),
o 127 (pM 126),
oT 128 (pM 0) 127,
oT 129 (pC 14 128 3) 127,
oT 130 (.binOp .eql 9 (.tmp 129) (.const (.string { data := #[] })) 9) 127,
o 131 (pU 127 130),
o 4 (pA 131)]
def k5_r36 : List COp := [o 133 (pM 6),
o 134 (pC 21 133 32),
o 132 (pM 134),
o 135 (pX 132 0),
o 136 (pX 132 1),
o 137 (pX 132 2),
o 16 (pA 135),
o 17 (pA 136),
o 18 (pA 137)]
def k5_r37 : List COp := [o 139 (pM 6),
o 140 (pC 21 139 32),
o 138 (pM 140),
o 141 (pX 138 0),
o 142 (pX 138 1),
o 143 (pX 138 2),
o 19 (pA 141),
o 20 (pA 142),
o 21 (pA 143)]
def k5_r38 : List COp := [o 144 (pM 17),
o 145 (pN 144 22),
o 146 (pW .i64 0)]
def k5_r39 : List COp := [o 147 (pB .lss 3 146 145 3)]
def k5_r40 : List COp := [o 148 (pM 146),
o 22 (pA 148)]
def k5_r41 : List COp := [o 149 (pM 17),
o 150 (pM 22),
o 151 (pI 22 149 150),
⟨none, .store 5 (.tmp 151) (.const (.int .u8 5)), none, true⟩]
def k5_r42 : List COp := [o 152 (pK .add 3 146 .i64 1 3),
o 146 (pM 152)]
def k5_l3 : CC := (.seq (.region k5_r39) (.seq (.cond (.tmp 147) .skip (.exit 6)) (.seq (.block 7 (.seq (.region k5_r40) (.region k5_r41))) (.region k5_r42))))
def k5_r43 : List COp := [o 153 (pM 20),
o 154 (pM 1),
o 155 (pD 16 153 154 22 22),
o 4 (pA 155)]
def k5 : CC := (.seq (.region k5_r0) (.seq (.seq (.region k5_r1) (.cond (.tmp 24) (.seq (.region k5_r2) .ret) .skip)) (.seq (.seq (.region k5_r3) (.cond (.tmp 27) (.seq (.region k5_r4) .ret) .skip)) (.seq k5_r5 (.seq (.region k5_r6) (.seq (.region k5_r7) (.seq (.region k5_r8) (.seq k5_r9 (.seq (.seq (.region k5_r10) (.cond (.tmp 67) (.seq (.region k5_r11) .ret) .skip)) (.seq (.seq (.region k5_r12) (.block 0 (.loop k5_l0))) (.seq (.region k5_r17) (.seq (.region k5_r18) (.seq (.seq (.region k5_r19) (.block 2 (.loop k5_l1))) (.seq k5_r24 (.seq (.seq (.region k5_r25) (.cond (.tmp 109) (.seq (.region k5_r26) .ret) .skip)) (.seq (.seq (.region k5_r27) (.block 4 (.loop k5_l2))) (.seq (.seq (.region k5_r32) (.cond (.tmp 122) (.seq (.region k5_r33) .ret) .skip)) (.seq (.seq (.region k5_r34) (.cond (.tmp 124) (.seq (.region k5_r35) .ret) .skip)) (.seq (.region k5_r36) (.seq (.region k5_r37) (.seq (.seq (.region k5_r38) (.block 6 (.loop k5_l3))) (.seq (.region k5_r43) .ret))))))))))))))))))))))
def k5_p := PLift.up <| aI (vE k5.eq_1) <| aO k5_r0.eq_1 <| aO k5_r1.eq_1 <| aO k5_r2.eq_1 <| aO k5_r3.eq_1 <| aO k5_r4.eq_1 <| aI (vE k5_r5.eq_1) <| aO k5_r6.eq_1 <| aO k5_r7.eq_1 <| aO k5_r8.eq_1 <| aI (vE k5_r9.eq_1) <| aO k5_r10.eq_1 <| aO k5_r11.eq_1 <| aO k5_r12.eq_1 <| aO k5_r13.eq_1 <| aO k5_r14.eq_1 <| aO k5_r15.eq_1 <| aO k5_r16.eq_1 <| aI (vE k5_l0.eq_1) <| aO k5_r17.eq_1 <| aO k5_r18.eq_1 <| aO k5_r19.eq_1 <| aO k5_r20.eq_1 <| aO k5_r21.eq_1 <| aO k5_r22.eq_1 <| aO k5_r23.eq_1 <| aI (vE k5_l1.eq_1) <| aI (vE k5_r24.eq_1) <| aO k5_r25.eq_1 <| aO k5_r26.eq_1 <| aO k5_r27.eq_1 <| aO k5_r28.eq_1 <| aO k5_r29.eq_1 <| aO k5_r30.eq_1 <| aO k5_r31.eq_1 <| aI (vE k5_l2.eq_1) <| aO k5_r32.eq_1 <| aO k5_r33.eq_1 <| aO k5_r34.eq_1 <| aO k5_r35.eq_1 <| aO k5_r36.eq_1 <| aO k5_r37.eq_1 <| aO k5_r38.eq_1 <| aO k5_r39.eq_1 <| aO k5_r40.eq_1 <| aO k5_r41.eq_1 <| aO k5_r42.eq_1 <| aI (vE k5_l3.eq_1) (oE k5_r43.eq_1)
theorem k5_a : type_of% k5_p.down := k5_p.down
theorem k5_is : FnIs Tryd.prog prims 5 156 [ResultVar.tmp 4] k5 := FnIs.of_fn Tryd.func5 (by kernel_rfl) rfl
def k6_r0 : List COp := [o 1 (.box 40 (.tmp 0)),
o 2 (pO false)]
def k6_r1 : List COp := [o 18 (.call { callee := .value (.func 11), args := #[], argTypes := #[] }),
o 19 (.unOp .not 4 (.tmp 18))]
def k6_r2 : List COp := [o 2 (pO false)]
def k6_r3 : List COp := [o 3 (pZ .i64 0)]
def k6_r4 : List COp := [o 20 (pF 40 1 0),
o 21 (pL 37 20),
o 22 (pN 21 37),
o 23 (pW .i64 0)]
def k6_r5 : List COp := [o 24 (pB .lss 3 23 22 3)]
def k6_r6 : List COp := [o 25 (pI 37 21 23),
o 26 (pL 22 25),
o 5 (pA 26)]
def k6_r7 : List COp := [o 27 (pM 3),
o 28 (pM 5),
o 29 (pN 28 22),
o 30 (pB .add 3 27 29 3),
o 3 (pA 30)]
def k6_r8 : List COp := [o 31 (pM 3),
o 32 (pK .gtr 3 31 .i64 262144 3)]
def k6_r9 : List COp := [o 2 (pO true)]
def k6_r10 : List COp := [o 33 (pK .add 3 23 .i64 1 3),
o 23 (pM 33)]
def k6_l0 : CC := (.seq (.region k6_r5) (.seq (.cond (.tmp 24) .skip (.exit 0)) (.seq (.block 1 (.seq (.region k6_r6) (.seq (.region k6_r7) (.seq (.region k6_r8) (.cond (.tmp 32) (.seq (.region k6_r9) .ret) .skip))))) (.region k6_r10))))
def k6_r11 : List COp := [o 34 (pF 40 1 0),
o 35 (pL 37 34),
o 36 (pN 35 37),
o 37 (pK .gtr 3 36 .i64 256 3)]
def k6_r12 : List COp := [o 2 (pO true)]
def k6_r13 : List COp := [o 38 (.call { callee := .value (.func 19), args := #[.const (.int .i64 2097152)], argTypes := #[3] }),
o 6 (pA 38)]
def k6_r14 : List COp := [o 39 (pM 6),
o 40 (pF 40 1 2),
o 41 (pL 3 40),
o 42 (pF 40 1 3),
o 43 (pL 3 42),
o 44 (.call { callee := .value (.func 22), args := #[.tmp 39, .tmp 41, .tmp 43], argTypes := #[32, 3, 3] })]
def k6_r15 : List COp := [o 7 (pZ .i64 0)]
def k6_r16 : List COp := [o 8 (pZ .i64 (-1)),
o 9 (.assign (.const (.slice .none 0 0)))]
def k6_r17 : List COp := [o 10 (pZ .i64 (-1)),
o 11 (.assign (.const (.slice .none 0 0)))]
def k6_r18 : List COp := [o 45 (pF 40 1 0),
o 46 (pL 37 45),
o 47 (pN 46 37),
o 48 (pW .i64 0)]
def k6_r19 : List COp := [o 49 (pB .lss 3 48 47 3)]
def k6_r20 : List COp := [o 50 (pM 48),
o 51 (pI 37 46 48),
o 52 (pL 22 51),
o 12 (pA 50),
o 13 (pA 52)]
def k6_r21 : List COp := [o 53 (pM 12),
o 54 (pF 40 1 1),
o 55 (pL 38 54),
o 56 (pN 55 38),
o 57 (pB .lss 3 53 56 3)]
def k6_r22 : List COp := [o 58 (pM 7),
o 59 (pF 40 1 1),
o 60 (pL 38 59),
o 61 (pM 12),
o 62 (pI 38 60 61),
o 63 (pL 3 62),
o 64 (pK .and 3 63 .i64 255 3),
o 65 (.binOp .add 3 (.const (.int .i64 1)) (.tmp 64) 3),
o 66 (pB .add 3 58 65 3),
o 7 (pA 66)]
def k6_r23 : List COp := [o 67 (pM 7),
o 68 (pK .add 3 67 .i64 1 3),
o 7 (pA 68)]
def k6_r24 : List COp := [o 69 (pM 7),
o 70 (pM 13),
o 10 (pA 69),
o 11 (pA 70)]
def k6_r25 : List COp := [o 71 (pM 6),
o 72 (pM 7),
o 73 (pM 13),
o 74 (.call { callee := .value (.func 20), args := #[.tmp 71, .tmp 72, .tmp 73], argTypes := #[32, 3, 22] }),
o 14 (pA 74)]
def k6_r26 : List COp := [o 75 (pM 14),
o 76 (pK .neq 24 75 .i64 0 24)]
def k6_r27 : List COp := [o 77 (pM 14),
o 78 (pK .neq 24 77 .i64 20 24),
o 79 (pM 78),
oF 80 (pM 6) 79,
oF 81 (pC 23 80 32) 79,
oF 82 (.unOp .not 4 (.tmp 81)) 79,
o 83 (pV 79 82)]
def k6_r28 : List COp := [o 2 (pO false)]
def k6_r29 : List COp := [o 84 (pM 7),
o 85 (pM 13),
o 8 (pA 84),
o 9 (pA 85)]
def k6_r30 : List COp := [o 86 (pK .add 3 48 .i64 1 3),
o 48 (pM 86)]
def k6_l1 : CC := (.seq (.region k6_r19) (.seq (.cond (.tmp 49) .skip (.exit 2)) (.seq (.block 3 (.seq (.region k6_r20) (.seq (.seq (.region k6_r21) (.cond (.tmp 57) (.region k6_r22) (.region k6_r23))) (.seq (.region k6_r24) (.seq (.region k6_r25) (.seq (.seq (.region k6_r26) (.cond (.tmp 76) (.seq (.seq (.region k6_r27) (.cond (.tmp 83) (.seq (.region k6_r28) .ret) .skip)) (.exit 2)) .skip)) (.region k6_r29))))))) (.region k6_r30))))
def k6_r31 : List COp := [o 87 (pM 6),
o 88 (pC 23 87 32),
o 89 (.unOp .not 4 (.tmp 88))]
def k6_r32 : List COp := [o 90 (pM 6),
o 91 (pF 40 1 3),
o 92 (pL 3 91),
o 93 (pD 24 90 92 32 3)]
def k6_r33 : List COp := [o 94 (pM 6),
o 95 (pC 25 94 32)]
def k6_r34 : List COp := [o 96 (pM 6),
o 97 (.call { callee := .value (.func 22), args := #[.tmp 96, .const (.int .i64 0), .const (.int .i64 0)], argTypes := #[32, 3, 3] })]
def k6_r35 : List COp := [o 99 (pM 6),
o 100 (pC 21 99 32),
o 98 (pM 100),
o 101 (pX 98 0),
o 102 (pX 98 1),
o 103 (pX 98 2),
o 15 (pA 101),
o 16 (pA 102),
o 17 (pA 103)]
def k6_r36 : List COp := [o 104 (pM 17),
o 105 (pK .neq 24 104 .i64 0 24)]
def k6_r37 : List COp := [o 2 (pO false)]
def k6_r38 : List COp := [o 106 (pM 15),
o 107 (pM 8),
o 108 (pB .neq 3 106 107 3),
o 109 (pM 108),
oT 110 (pM 15) 109,
oT 111 (pM 10) 109,
oT 112 (pB .neq 3 110 111 3) 109,
o 113 (pU 109 112),
o 114 (pM 113),
oF 115 (pM 15) 114,
oF 116 (pM 8) 114,
oF 117 (pB .eql 3 115 116 3) 114,
oF 118 (pM 117) 114,
oT 119 (pM 16) 118,
oT 120 (pM 9) 118,
oT 121 (pD 16 119 120 22 22) 118,
oT 122 (.unOp .not 4 (.tmp 121)) 118,
oF 123 (pU 118 122) 114,
o 124 (pV 114 123),
o 125 (pM 124),
oF 126 (pM 15) 125,
oF 127 (pM 8) 125,
oF 128 (pB .neq 3 126 127 3) 125,
oF 129 (pM 128) 125,
oT 130 (pM 16) 129,
oT 131 (pM 11) 129,
oT 132 (pD 16 130 131 22 22) 129,
oT 133 (.unOp .not 4 (.tmp 132)) 129,
oF 134 (pU 129 133) 125,
o 135 (pV 125 134)]
def k6_r39 : List COp := [o 2 (pO false)]
def k6_r40 : CC := (.hreg [
(false, o 136 (pM 6)),
(false, o 137 (pM 7)),
(false, o 138 (pK .add 3 137 .i64 1 3)),
(true, o 139 (.buildSlice 22 1 #[(0, .const (.int .u8 122))])),
(true, o 140 (.convert 22 22 (.tmp 139))),
(false, o 141 (.call { callee := .value (.func 20), args := #[.tmp 136, .tmp 138, .tmp 140], argTypes := #[32, 3, 22] })),
(false, o 142 (pK .neq 24 141 .i64 0 24))])
def k6_r41 : List COp := [o 2 (pO false)]
def k6_r42 : List COp := [o 144 (pM 6),
o 145 (pC 21 144 32),
o 143 (pM 145),
o 146 (pX 143 0),
o 147 (pX 143 1),
o 148 (pX 143 2),
o 15 (pA 146),
o 16 (pA 147),
o 17 (pA 148)]
def k6_r43 : List COp := [o 149 (pM 15),
o 150 (pM 7),
o 151 (pK .add 3 150 .i64 1 3),
o 152 (pB .eql 3 149 151 3),
o 153 (pM 152),
oT 154 (pM 16) 153,
oT 155 (.convert 22 9 (.tmp 154)) 153,
oT 156 (.binOp .eql 9 (.tmp 155) (.const (.string { data := #[122] })) 9) 153,
o 157 (pU 153 156),
o 158 (pM 157),
oT 159 (pM 17) 158,
oT 160 (pK .eql 24 159 .i64 0 24) 158,
o 161 (pU 158 160),
o 162 (pM 161),
oT 163 (pM 6) 162,
oT 164 (pC 26 163 32) 162,
oT 165 (pN 164 43) 162,
oT 166 (pK .eql 3 165 .i64 1 3) 162,
o 167 (pU 162 166),
o 2 (pA 167)]
def k6 : CC := (.seq (.region k6_r0) (.seq (.seq (.region k6_r1) (.cond (.tmp 19) (.seq (.region k6_r2) .ret) .skip)) (.seq (.region k6_r3) (.seq (.seq (.region k6_r4) (.block 0 (.loop k6_l0))) (.seq (.seq (.region k6_r11) (.cond (.tmp 37) (.seq (.region k6_r12) .ret) .skip)) (.seq (.region k6_r13) (.seq (.region k6_r14) (.seq (.region k6_r15) (.seq (.region k6_r16) (.seq (.region k6_r17) (.seq (.seq (.region k6_r18) (.block 2 (.loop k6_l1))) (.seq (.seq (.region k6_r31) (.cond (.tmp 89) (.region k6_r32) .skip)) (.seq (.region k6_r33) (.seq (.region k6_r34) (.seq (.region k6_r35) (.seq (.seq (.region k6_r36) (.cond (.tmp 105) (.seq (.region k6_r37) .ret) .skip)) (.seq (.seq (.region k6_r38) (.cond (.tmp 135) (.seq (.region k6_r39) .ret) .skip)) (.seq (.seq k6_r40 (.cond (.tmp 142) (.seq (.region k6_r41) .ret) .skip)) (.seq (.region k6_r42) (.seq (.region k6_r43) .ret))))))))))))))))))))
def k12_r0 : List COp := [o 3 (.box 22 (.tmp 1)),
o 4 (.assign (.const (.slice .none 0 0))),
o 5 (pZ .i64 0)]
def k12_r1 : List COp := [o 8 (pL 22 3),
o 9 (pN 8 22),
o 10 (pK .lss 3 9 .i64 12 3)]
def k12_r2 : List COp := [o 4 (.assign (.const (.slice .none 0 0))),
o 5 (pZ .i64 10)]
def k12_r3 : List COp := [o 11 (.makeFunc (.func 40) #[] #[.tmp 3]),
o 6 (pA 11)]
def k12_r4 : List COp := [o 12 (pL 22 3),
o 13 (.slice 22 (.tmp 12) (some (.const (.int .i64 12))) .none .none),
o 7 (pA 13)]
def k12_r5 : List COp := [o 15 (pM 6),
o 16 (.call { callee := .value (.tmp 15), args := #[.const (.int .i64 4)], argTypes := #[3] }),
o 17 (.convert 61 64 (.tmp 16)),
o 18 (pM 7),
o 19 (pN 18 22),
o 20 (.convert 3 64 (.tmp 19)),
o 21 (pB .gtr 64 17 20 64),
o 14 (pA 21)]
def k12_r6 : List COp := [o 4 (.assign (.const (.slice .none 0 0))),
o 5 (pZ .i64 10)]
def k12_r7 : List COp := [o 23 (pM 6),
o 24 (.call { callee := .value (.tmp 23), args := #[.const (.int .i64 4)], argTypes := #[3] }),
o 25 (.convert 61 64 (.tmp 24)),
o 26 (pM 7),
o 27 (pN 26 22),
o 28 (.convert 3 64 (.tmp 27)),
o 29 (pB .lss 64 25 28 64),
o 30 (pM 29),
oF 31 (pM 0) 30,
oF 32 (pK .lss 3 31 .i64 0 3) 30,
o 33 (pV 30 32),
o 34 (pM 33),
oF 35 (pM 0) 34,
oF 36 (pK .gtr 3 35 .i64 999999999 3) 34,
o 37 (pV 34 36),
o 38 (pM 37),
oF 39 (pM 6) 38,
oF 40 (.call { callee := .value (.tmp 39), args := #[.const (.int .i64 0)], argTypes := #[3] }) 38,
oF 41 (pM 0) 38,
oF 42 (.convert 3 61 (.tmp 41)) 38,
oF 43 (pB .neq 61 40 42 61) 38,
o 44 (pV 38 43),
o 22 (pA 44)]
def k12_r8 : List COp := [o 4 (.assign (.const (.slice .none 0 0))),
o 5 (pZ .i64 11)]
def k12_r9 : CC := (.wregion [
(true, oX 46 (pM 6)),
(false, oX 47 (.call { callee := .value (.tmp 46), args := #[.const (.int .i64 8)], argTypes := #[3] })),
(true, oX 48 (pL 22 3)),
(false, oX 49 (.slice 22 (.tmp 48) .none (some (.const (.int .i64 8))) (some (.const (.int .i64 8))))),
(false, o 50 (pM 7)),
(false, o 51 (pQ 49 50 22 22)),
(false, o 52 (pC 41 51 22)),
(false, o 53 (pB .neq 61 47 52 61)),
(false, o 45 (pA 53))] false [(2, oX 48 (pL 22 3), [0, 2])])
def k12_r10 : List COp := [o 4 (.assign (.const (.slice .none 0 0))),
o 5 (pZ .i64 12)]
def k12_r11 : CC := (.hreg [
(true, o 54 (.buildSlice 22 0 #[])),
(false, o 55 (pM 7)),
(true, o 56 (pQ 54 55 22 22)),
(false, o 4 (pA 56)),
(false, o 5 (pZ .i64 0))])
def k12 : CC := (.seq (.region k12_r0) (.seq (.seq (.region k12_r1) (.cond (.tmp 10) (.seq (.region k12_r2) .ret) .skip)) (.seq (.region k12_r3) (.seq (.region k12_r4) (.seq (.block 0 (.seq (.region k12_r5) (.cond (.tmp 14) (.seq (.region k12_r6) .ret) (.seq (.region k12_r7) (.cond (.tmp 22) (.seq (.region k12_r8) .ret) (.seq k12_r9 (.cond (.tmp 45) (.seq (.region k12_r10) .ret) .skip))))))) (.seq k12_r11 .ret))))))
def k12_p := PLift.up <| aI (vE k12.eq_1) <| aO k12_r0.eq_1 <| aO k12_r1.eq_1 <| aO k12_r2.eq_1 <| aO k12_r3.eq_1 <| aO k12_r4.eq_1 <| aO k12_r5.eq_1 <| aO k12_r6.eq_1 <| aO k12_r7.eq_1 <| aO k12_r8.eq_1 <| aI (vE k12_r9.eq_1) <| aI (oE k12_r10.eq_1) (vE k12_r11.eq_1)
theorem k12_a : type_of% k12_p.down := k12_p.down
theorem k12_is : FnIs Tryd.prog prims 12 57 [ResultVar.tmp 4, ResultVar.tmp 5] k12 := FnIs.of_fn Tryd.func12 (by kernel_rfl) rfl
def k14_r0 : List COp := [o 2 (.assign (.const (.string { data := #[] })))]
def k14_r1 : List COp := [o 4 (pM 0),
o 5 (pK .lss 3 4 .i64 0 3),
o 6 (pM 5),
oF 7 (pM 0) 6,
oF 8 (pK .gtr 3 7 .i64 999999999 3) 6,
o 9 (pV 6 8)]
def k14_r2 : List COp := [o 2 (.assign (.const (.string { data := #[] })))]
def k14_r3 : List COp := [o 10 (pM 0),
o 11 (pC 43 10 3),
o 3 (pA 11)]
def k14_r4 : List COp := [o 12 (pM 3),
o 13 (pN 12 9),
o 14 (pK .lss 3 13 .i64 9 3)]
def k14_r5 : List COp := [o 15 (pM 3),
o 16 (.binOp .add 9 (.const (.string { data := #[48] })) (.tmp 15) 9),
o 3 (pA 16)]
def k14_l0 : CC := (.seq (.seq (.region k14_r4) (.cond (.tmp 14) .skip (.exit 0))) (.block 1 (.region k14_r5)))
def k14_r6 : List COp := [o 17 (pM 3),
o 18 (.binOp .add 9 (.const (.string { data := #[115] })) (.tmp 17) 9),
o 2 (pA 18)]
def k14 : CC := (.seq (.region k14_r0) (.seq (.seq (.region k14_r1) (.cond (.tmp 9) (.seq (.region k14_r2) .ret) .skip)) (.seq (.region k14_r3) (.seq (.block 0 (.loop k14_l0)) (.seq (.region k14_r6) .ret)))))
def k14_p := PLift.up <| aI (vE k14.eq_1) <| aO k14_r0.eq_1 <| aO k14_r1.eq_1 <| aO k14_r2.eq_1 <| aO k14_r3.eq_1 <| aO k14_r4.eq_1 <| aO k14_r5.eq_1 <| aI (vE k14_l0.eq_1) (oE k14_r6.eq_1)
theorem k14_a : type_of% k14_p.down := k14_p.down
theorem k14_is : FnIs Tryd.prog prims 14 19 [ResultVar.tmp 2] k14 := FnIs.of_fn Tryd.func14 (by kernel_rfl) rfl
def k16_r0 : List COp := [o 4 (pO false)]
def k16_r1 : List COp := [o 6 (pM 0),
o 7 (pN 6 22),
o 8 (pM 1),
o 9 (pN 8 22),
o 10 (pB .neq 3 7 9 3)]
def k16_r2 : List COp := [o 4 (pO false)]
def k16_r3 : List COp := [o 11 (pM 0),
o 12 (pN 11 22),
o 13 (pW .i64 0)]
def k16_r4 : List COp := [o 14 (pB .lss 3 13 12 3)]
def k16_r5 : List COp := [o 15 (pM 13),
o 5 (pA 15)]
def k16_r6 : List COp := [oX 16 (pM 0),
oX 17 (pM 5),
oX 18 (pI 22 16 17),
oX 19 (pL 5 18),
oX 20 (pM 1),
o 21 (pM 5),
o 22 (pI 22 20 21),
o 23 (pL 5 22),
o 24 (pB .neq 5 19 23 5)]
def k16_r7 : List COp := [o 4 (pO false)]
def k16_r8 : List COp := [o 25 (pK .add 3 13 .i64 1 3),
o 13 (pM 25)]
def k16_l0 : CC := (.seq (.region k16_r4) (.seq (.cond (.tmp 14) .skip (.exit 0)) (.seq (.block 1 (.seq (.region k16_r5) (.seq (.region k16_r6) (.cond (.tmp 24) (.seq (.region k16_r7) .ret) .skip)))) (.region k16_r8))))
def k16_r9 : List COp := [o 4 (pO true)]
def k16 : CC := (.seq (.region k16_r0) (.seq (.seq (.region k16_r1) (.cond (.tmp 10) (.seq (.region k16_r2) .ret) .skip)) (.seq (.seq (.region k16_r3) (.block 0 (.loop k16_l0))) (.seq (.region k16_r9) .ret))))
def k16_p := PLift.up <| aI (vE k16.eq_1) <| aO k16_r0.eq_1 <| aO k16_r1.eq_1 <| aO k16_r2.eq_1 <| aO k16_r3.eq_1 <| aO k16_r4.eq_1 <| aO k16_r5.eq_1 <| aO k16_r6.eq_1 <| aO k16_r7.eq_1 <| aO k16_r8.eq_1 <| aI (vE k16_l0.eq_1) (oE k16_r9.eq_1)
theorem k16_a : type_of% k16_p.down := k16_p.down
theorem k16_is : FnIs Tryd.prog prims 16 26 [ResultVar.tmp 4] k16 := FnIs.of_fn Tryd.func16 (by kernel_rfl) rfl
def k17_r0 : List COp := [o 4 (.assign (.const (.slice .none 0 0)))]
def k17_r1 : List COp := [o 5 (.assign (.const (.slice .none 0 0)))]
def k17_r2 : List COp := [o 9 (pM 0),
o 10 (.convert 3 61 (.tmp 9)),
o 11 (pM 1),
o 12 (pN 11 22),
o 13 (.convert 3 61 (.tmp 12)),
o 14 (.build 67 #[(0, .tmp 10), (1, .tmp 13)]),
o 15 (pW .i64 0)]
def k17_r3 : List COp := [o 16 (pK .lss 3 15 .i64 2 3)]
def k17_r4 : List COp := [o 17 (.index 67 (.tmp 14) (.tmp 15)),
o 7 (pA 17)]
def k17_r5 : CC := (.hreg [
(false, o 18 (pM 5)),
(false, o 19 (pM 7)),
(true, o 20 (.convert 61 5 (.tmp 19))),
(false, o 21 (pM 7)),
(false, o 22 (pK .shr 61 21 .u64 8 62)),
(true, o 23 (.convert 61 5 (.tmp 22))),
(false, o 24 (pM 7)),
(false, o 25 (pK .shr 61 24 .u64 16 62)),
(true, o 26 (.convert 61 5 (.tmp 25))),
(false, o 27 (pM 7)),
(false, o 28 (pK .shr 61 27 .u64 24 62)),
(true, o 29 (.convert 61 5 (.tmp 28))),
(true, o 30 (.buildSlice 22 4 #[(0, .tmp 20), (1, .tmp 23), (2, .tmp 26), (3, .tmp 29)])),
(true, o 31 (pQ 18 30 22 22)),
(false, o 5 (pA 31))])
def k17_r6 : List COp := [o 32 (pK .add 3 15 .i64 1 3),
o 15 (pM 32)]
def k17_l0 : CC := (.seq (.region k17_r3) (.seq (.cond (.tmp 16) .skip (.exit 0)) (.seq (.block 1 (.seq (.region k17_r4) k17_r5)) (.region k17_r6))))
def k17_r7 : CC := (.hreg [
(false, o 33 (pM 5)),
(false, o 34 (pM 5)),
(true, o 35 (pN 34 22)),
(false, o 36 (pM 5)),
(true, o 37 (pN 36 22)),
(false, o 38 (.slice 22 (.tmp 33) .none (some (.tmp 35)) (some (.tmp 37)))),
(false, o 39 (pM 1)),
(true, o 40 (pQ 38 39 22 22)),
(false, o 41 (pC 41 40 22)),
(false, o 8 (pA 41))])
def k17_r8 : CC := (.hreg [
(false, o 42 (pM 5)),
(false, o 43 (pM 8)),
(true, o 44 (.convert 61 5 (.tmp 43))),
(false, o 45 (pM 8)),
(false, o 46 (pK .shr 61 45 .u64 8 62)),
(true, o 47 (.convert 61 5 (.tmp 46))),
(false, o 48 (pM 8)),
(false, o 49 (pK .shr 61 48 .u64 16 62)),
(true, o 50 (.convert 61 5 (.tmp 49))),
(false, o 51 (pM 8)),
(false, o 52 (pK .shr 61 51 .u64 24 62)),
(true, o 53 (.convert 61 5 (.tmp 52))),
(true, o 54 (.buildSlice 22 4 #[(0, .tmp 44), (1, .tmp 47), (2, .tmp 50), (3, .tmp 53)])),
(true, o 55 (pQ 42 54 22 22)),
(false, o 5 (pA 55))])
def k17_r9 : CC := (.hreg [
(false, o 56 (pM 5)),
(false, o 57 (pM 1)),
(true, o 58 (pQ 56 57 22 22)),
(false, o 4 (pA 58))])
def k17 : CC := (.seq (.region k17_r0) (.seq (.region k17_r1) (.seq (.seq (.region k17_r2) (.block 0 (.loop k17_l0))) (.seq k17_r7 (.seq k17_r8 (.seq k17_r9 .ret))))))
def k17_p := PLift.up <| aI (vE k17.eq_1) <| aO k17_r0.eq_1 <| aO k17_r1.eq_1 <| aO k17_r2.eq_1 <| aO k17_r3.eq_1 <| aO k17_r4.eq_1 <| aI (vE k17_r5.eq_1) <| aO k17_r6.eq_1 <| aI (vE k17_l0.eq_1) <| aI (vE k17_r7.eq_1) <| aI (vE k17_r8.eq_1) (vE k17_r9.eq_1)
theorem k17_a : type_of% k17_p.down := k17_p.down
theorem k17_is : FnIs Tryd.prog prims 17 59 [ResultVar.tmp 4] k17 := FnIs.of_fn Tryd.func17 (by kernel_rfl) rfl
def k19_r0 : List COp := [o 2 (.assign (.const (.pointer .none)))]
def k19_r1 : List COp := [o 3 (.makeMap 68 .none),
o 4 (pM 0),
o 5 (.build 70 #[(0, .tmp 3), (1, .tmp 4)]),
o 6 (.box 70 (.tmp 5)),
o 2 (pA 6)]
def k19 : CC := (.seq (.region k19_r0) (.seq (.region k19_r1) .ret))
def k19_p := PLift.up <| aI (vE k19.eq_1) <| aI (oE k19_r0.eq_1) (oE k19_r1.eq_1)
theorem k19_a : type_of% k19_p.down := k19_p.down
theorem k19_is : FnIs Tryd.prog prims 19 7 [ResultVar.tmp 2] k19 := FnIs.of_fn Tryd.func19 (by kernel_rfl) rfl
def k20_r0 : List COp := [o 6 (pZ .i64 0)]
def k20_r1 : List COp := [o 18 (pM 0),
o 19 (.binOp .eql 32 (.tmp 18) (.const (.pointer .none)) 32),
o 17 (pA 19)]
def k20_r2 : List COp := [o 6 (pZ .i64 2)]
def k20_r3 : List COp := [o 21 (pM 1),
o 22 (pC 14 21 3),
o 23 (.binOp .eql 9 (.tmp 22) (.const (.string { data := #[] })) 9),
o 20 (pA 23)]
def k20_r4 : List COp := [o 6 (pZ .i64 1)]
def k20_r5 : List COp := [o 25 (pM 2),
o 26 (pN 25 22),
o 27 (pK .gtr 3 26 .i64 1048564 3),
o 24 (pA 27)]
def k20_r6 : List COp := [o 6 (pZ .i64 3)]
def k20_r7 : List COp := [o 29 (pM 0),
o 30 (pC 23 29 32),
o 28 (pA 30)]
def k20_r8 : List COp := [o 6 (pZ .i64 20)]
def k20_r9 : List COp := [o 32 (pM 0),
o 33 (.call { callee := .value (.func 45), args := #[.tmp 32, .const (.string { data := #[100, 114, 97, 102, 116] })], argTypes := #[32, 9] }),
o 31 (pM 33),
o 34 (pX 31 0),
o 35 (pX 31 1),
o 7 (pA 34),
o 8 (pA 35)]
def k20_r10 : List COp := [o 36 (pM 8),
o 37 (pK .eql 24 36 .i64 0 24)]
def k20_r11 : List COp := [o 38 (pM 0),
o 39 (.call { callee := .value (.func 46), args := #[.tmp 38, .const (.string { data := #[100, 114, 97, 102, 116] })], argTypes := #[32, 9] }),
o 9 (pA 39)]
def k20_r12 : List COp := [o 40 (pM 9),
o 41 (pK .neq 24 40 .i64 0 24)]
def k20_r13 : List COp := [o 42 (pM 9),
o 6 (pA 42)]
def k20_r14 : List COp := [o 43 (pM 0),
o 44 (pM 1),
o 45 (pM 2),
o 46 (pD 17 44 45 3 22),
o 47 (.call { callee := .value (.func 47), args := #[.tmp 43, .const (.string { data := #[100, 114, 97, 102, 116] }), .tmp 46], argTypes := #[32, 9, 22] }),
o 10 (pA 47)]
def k20_r15 : List COp := [o 48 (pM 10),
o 49 (pK .neq 24 48 .i64 0 24)]
def k20_r16 : List COp := [o 50 (pM 10),
o 6 (pA 50)]
def k20_r17 : List COp := [o 51 (pM 0),
o 52 (.call { callee := .value (.func 48), args := #[.tmp 51, .const (.string { data := #[100, 114, 97, 102, 116] })], argTypes := #[32, 9] }),
o 11 (pA 52)]
def k20_r18 : List COp := [o 53 (pM 11),
o 54 (pK .neq 24 53 .i64 0 24)]
def k20_r19 : List COp := [o 55 (pM 11),
o 6 (pA 55)]
def k20_r20 : List COp := [o 56 (pM 0),
o 57 (pM 1),
o 58 (pC 14 57 3),
o 59 (.call { callee := .value (.func 49), args := #[.tmp 56, .const (.string { data := #[100, 114, 97, 102, 116] }), .tmp 58], argTypes := #[32, 9, 9] }),
o 12 (pA 59)]
def k20_r21 : List COp := [o 60 (pM 12),
o 61 (pK .neq 24 60 .i64 0 24)]
def k20_r22 : List COp := [o 62 (pM 12),
o 6 (pA 62)]
def k20_r23 : List COp := [o 63 (pM 0),
o 64 (pC 26 63 32),
o 65 (pN 64 43),
o 66 (pW .i64 0)]
def k20_r24 : List COp := [o 67 (pB .lss 3 66 65 3)]
def k20_r25 : List COp := [o 68 (pI 43 64 66),
o 69 (pL 9 68),
o 14 (pA 69)]
def k20_r26 : List COp := [o 70 (pM 14),
o 71 (pC 50 70 9),
o 15 (pA 71)]
def k20_r27 : List COp := [o 72 (pM 15),
o 73 (pK .lss 3 72 .i64 0 3),
o 74 (pM 73),
oF 75 (pM 15) 74,
oF 76 (pM 1) 74,
oF 77 (pB .eql 3 75 76 3) 74,
o 78 (pV 74 77)]
def k20_r28 : List COp := [o 79 (pM 0),
o 80 (pM 14),
o 81 (pD 46 79 80 32 9),
o 16 (pA 81)]
def k20_r29 : List COp := [o 82 (pM 16),
o 83 (pK .neq 24 82 .i64 0 24)]
def k20_r30 : List COp := [o 84 (pM 16),
o 6 (pA 84)]
def k20_r31 : List COp := [o 85 (pK .add 3 66 .i64 1 3),
o 66 (pM 85)]
def k20_l0 : CC := (.seq (.region k20_r24) (.seq (.cond (.tmp 67) .skip (.exit 1)) (.seq (.block 2 (.seq (.region k20_r25) (.seq (.seq (.region k20_r26) (.seq (.region k20_r27) (.cond (.tmp 78) (.exit 2) .skip))) (.seq (.region k20_r28) (.seq (.region k20_r29) (.cond (.tmp 83) (.seq (.region k20_r30) .ret) .skip)))))) (.region k20_r31))))
def k20_r32 : List COp := [o 6 (pZ .i64 0)]
def k20 : CC := (.seq (.region k20_r0) (.seq (.block 0 (.seq (.region k20_r1) (.cond (.tmp 17) (.seq (.region k20_r2) .ret) (.seq (.region k20_r3) (.cond (.tmp 20) (.seq (.region k20_r4) .ret) (.seq (.region k20_r5) (.cond (.tmp 24) (.seq (.region k20_r6) .ret) (.seq (.region k20_r7) (.cond (.tmp 28) (.seq (.region k20_r8) .ret) .skip))))))))) (.seq (.seq (.region k20_r9) (.seq (.region k20_r10) (.cond (.tmp 37) (.seq (.region k20_r11) (.seq (.region k20_r12) (.cond (.tmp 41) (.seq (.region k20_r13) .ret) .skip))) .skip))) (.seq (.seq (.region k20_r14) (.seq (.region k20_r15) (.cond (.tmp 49) (.seq (.region k20_r16) .ret) .skip))) (.seq (.seq (.region k20_r17) (.seq (.region k20_r18) (.cond (.tmp 54) (.seq (.region k20_r19) .ret) .skip))) (.seq (.seq (.region k20_r20) (.seq (.region k20_r21) (.cond (.tmp 61) (.seq (.region k20_r22) .ret) .skip))) (.seq (.seq (.region k20_r23) (.block 1 (.loop k20_l0))) (.seq (.region k20_r32) .ret))))))))
def k20_p := PLift.up <| aI (vE k20.eq_1) <| aO k20_r0.eq_1 <| aO k20_r1.eq_1 <| aO k20_r2.eq_1 <| aO k20_r3.eq_1 <| aO k20_r4.eq_1 <| aO k20_r5.eq_1 <| aO k20_r6.eq_1 <| aO k20_r7.eq_1 <| aO k20_r8.eq_1 <| aO k20_r9.eq_1 <| aO k20_r10.eq_1 <| aO k20_r11.eq_1 <| aO k20_r12.eq_1 <| aO k20_r13.eq_1 <| aO k20_r14.eq_1 <| aO k20_r15.eq_1 <| aO k20_r16.eq_1 <| aO k20_r17.eq_1 <| aO k20_r18.eq_1 <| aO k20_r19.eq_1 <| aO k20_r20.eq_1 <| aO k20_r21.eq_1 <| aO k20_r22.eq_1 <| aO k20_r23.eq_1 <| aO k20_r24.eq_1 <| aO k20_r25.eq_1 <| aO k20_r26.eq_1 <| aO k20_r27.eq_1 <| aO k20_r28.eq_1 <| aO k20_r29.eq_1 <| aO k20_r30.eq_1 <| aO k20_r31.eq_1 <| aI (vE k20_l0.eq_1) (oE k20_r32.eq_1)
theorem k20_a : type_of% k20_p.down := k20_p.down
theorem k20_is : FnIs Tryd.prog prims 20 86 [ResultVar.tmp 6] k20 := FnIs.of_fn Tryd.func20 (by kernel_rfl) rfl
def k21_r0 : List COp := [o 2 (pZ .i64 0),
o 3 (.assign (.const (.slice .none 0 0))),
o 4 (pZ .i64 0)]
def k21_r1 : List COp := [o 15 (pM 0),
o 16 (.binOp .eql 32 (.tmp 15) (.const (.pointer .none)) 32),
o 14 (pA 16)]
def k21_r2 : List COp := [o 2 (pZ .i64 0),
o 3 (.assign (.const (.slice .none 0 0))),
o 4 (pZ .i64 2)]
def k21_r3 : List COp := [o 18 (pM 0),
o 19 (pC 23 18 32),
o 17 (pA 19)]
def k21_r4 : List COp := [o 2 (pZ .i64 0),
o 3 (.assign (.const (.slice .none 0 0))),
o 4 (pZ .i64 20)]
def k21_r5 : List COp := [o 5 (pZ .i64 (-1)),
o 6 (.assign (.const (.slice .none 0 0)))]
def k21_r6 : List COp := [o 20 (pM 0),
o 21 (pC 26 20 32),
o 22 (pN 21 43),
o 23 (pW .i64 0)]
def k21_r7 : List COp := [o 24 (pB .lss 3 23 22 3)]
def k21_r8 : List COp := [o 25 (pI 43 21 23),
o 26 (pL 9 25),
o 8 (pA 26)]
def k21_r9 : List COp := [o 27 (pM 8),
o 28 (pC 50 27 9),
o 9 (pA 28)]
def k21_r10 : List COp := [o 29 (pM 9),
o 30 (pK .lss 3 29 .i64 0 3)]
def k21_r11 : CC := (.hreg [
(false, o 32 (pM 0)),
(false, o 33 (pM 8)),
(false, o 34 (pD 45 32 33 32 9)),
(false, o 31 (pM 34)),
(false, o 35 (pX 31 0)),
(false, o 36 (pX 31 1)),
(true, o 10 (pA 35)),
(true, o 11 (pA 36))])
def k21_r12 : List COp := [o 38 (pM 9),
o 39 (pM 10),
o 40 (pD 12 38 39 3 22),
o 37 (pM 40),
o 41 (pX 37 0),
o 42 (pX 37 1),
o 12 (pA 41),
o 13 (pA 42)]
def k21_r13 : List COp := [o 43 (pM 13),
o 44 (pK .eql 24 43 .i64 0 24)]
def k21_r14 : List COp := [o 45 (pM 9),
o 46 (pM 12),
o 5 (pA 45),
o 6 (pA 46)]
def k21_r15 : List COp := [o 47 (pK .add 3 23 .i64 1 3),
o 23 (pM 47)]
def k21_l0 : CC := (.seq (.region k21_r7) (.seq (.cond (.tmp 24) .skip (.exit 1)) (.seq (.block 2 (.seq (.region k21_r8) (.seq (.region k21_r9) (.seq (.seq (.region k21_r10) (.cond (.tmp 30) (.exit 2) .skip)) (.seq k21_r11 (.seq (.region k21_r12) (.seq (.region k21_r13) (.cond (.tmp 44) (.region k21_r14) .skip)))))))) (.region k21_r15))))
def k21_r16 : List COp := [o 48 (pM 5),
o 49 (pM 6),
o 2 (pA 48),
o 3 (pA 49),
o 4 (pZ .i64 0)]
def k21 : CC := (.seq (.region k21_r0) (.seq (.block 0 (.seq (.region k21_r1) (.cond (.tmp 14) (.seq (.region k21_r2) .ret) (.seq (.region k21_r3) (.cond (.tmp 17) (.seq (.region k21_r4) .ret) .skip))))) (.seq (.region k21_r5) (.seq (.seq (.region k21_r6) (.block 1 (.loop k21_l0))) (.seq (.region k21_r16) .ret)))))
def k21_p := PLift.up <| aI (vE k21.eq_1) <| aO k21_r0.eq_1 <| aO k21_r1.eq_1 <| aO k21_r2.eq_1 <| aO k21_r3.eq_1 <| aO k21_r4.eq_1 <| aO k21_r5.eq_1 <| aO k21_r6.eq_1 <| aO k21_r7.eq_1 <| aO k21_r8.eq_1 <| aO k21_r9.eq_1 <| aO k21_r10.eq_1 <| aI (vE k21_r11.eq_1) <| aO k21_r12.eq_1 <| aO k21_r13.eq_1 <| aO k21_r14.eq_1 <| aO k21_r15.eq_1 <| aI (vE k21_l0.eq_1) (oE k21_r16.eq_1)
theorem k21_a : type_of% k21_p.down := k21_p.down
theorem k21_is : FnIs Tryd.prog prims 21 50 [ResultVar.tmp 2, ResultVar.tmp 3, ResultVar.tmp 4] k21 := FnIs.of_fn Tryd.func21 (by kernel_rfl) rfl
def k23_r0 : List COp := [o 2 (pO false)]
def k23_r1 : List COp := [o 3 (pM 0),
o 4 (.binOp .neq 32 (.tmp 3) (.const (.pointer .none)) 32),
o 5 (pM 4),
oT 6 (pM 0) 5,
oT 7 (.nilCheck (.tmp 6)) 5,
oT 8 (pF 70 7 2) 5,
oT 9 (pL 4 8) 5,
o 10 (pU 5 9),
o 2 (pA 10)]
def k23 : CC := (.seq (.region k23_r0) (.seq (.region k23_r1) .ret))
def k23_p := PLift.up <| aI (vE k23.eq_1) <| aI (oE k23_r0.eq_1) (oE k23_r1.eq_1)
theorem k23_a : type_of% k23_p.down := k23_p.down
theorem k23_is : FnIs Tryd.prog prims 23 11 [ResultVar.tmp 2] k23 := FnIs.of_fn Tryd.func23 (by kernel_rfl) rfl
def k25_r0 : List COp := [o 2 (pM 0),
o 3 (.binOp .neq 32 (.tmp 2) (.const (.pointer .none)) 32)]
def k25_r1 : List COp := [o 4 (pM 0),
o 5 (.nilCheck (.tmp 4)),
o 6 (pF 70 5 2),
⟨none, .store 4 (.tmp 6) (.const (.bool false)), none, true⟩]
def k25 : CC := (.seq (.region k25_r0) (.cond (.tmp 3) (.region k25_r1) .skip))
def k26_r0 : List COp := [o 2 (.assign (.const (.slice .none 0 0)))]
def k26_r1 : List COp := [o 3 (pM 0),
o 4 (.binOp .eql 32 (.tmp 3) (.const (.pointer .none)) 32),
o 5 (pM 4),
oF 6 (pM 0) 5,
oF 7 (.nilCheck (.tmp 6)) 5,
oF 8 (pF 70 7 2) 5,
oF 9 (pL 4 8) 5,
o 10 (pV 5 9)]
def k26_r2 : List COp := [o 2 (.assign (.const (.slice .none 0 0)))]
def k26_r3 : List COp := [o 11 (pM 0),
o 12 (.nilCheck (.tmp 11)),
o 13 (pF 70 12 0),
o 14 (pL 68 13),
o 15 (pC 52 14 68),
o 16 (pC 51 15 81),
o 2 (pA 16)]
def k26 : CC := (.seq (.region k26_r0) (.seq (.seq (.region k26_r1) (.cond (.tmp 10) (.seq (.region k26_r2) .ret) .skip)) (.seq (.region k26_r3) .ret)))
def k26_p := PLift.up <| aI (vE k26.eq_1) <| aO k26_r0.eq_1 <| aO k26_r1.eq_1 <| aI (oE k26_r2.eq_1) (oE k26_r3.eq_1)
theorem k26_a : type_of% k26_p.down := k26_p.down
theorem k26_is : FnIs Tryd.prog prims 26 17 [ResultVar.tmp 2] k26 := FnIs.of_fn Tryd.func26 (by kernel_rfl) rfl
def k27_r0 : List COp := [o 0 (pO false)]
def k27_r1 : List COp := [o 7 (.call { callee := .value (.func 19), args := #[.const (.int .i64 1000)], argTypes := #[3] }),
o 1 (pA 7)]
def k27_r2 : List COp := [o 9 (pM 1),
o 10 (.call { callee := .value (.func 36), args := #[.tmp 9, .const (.int .i64 2)], argTypes := #[32, 3] }),
o 8 (pM 10),
o 11 (pX 8 0),
o 12 (pX 8 1),
o 13 (pX 8 2),
o 14 (pX 8 3),
o 2 (pA 11),
o 3 (pA 12),
o 4 (pA 13),
o 5 (pA 14)]
def k27_r3 : List COp := [o 15 (pM 5),
o 16 (pK .neq 24 15 .i64 0 24),
o 17 (pM 16),
oF 18 (pM 2) 17,
oF 19 (.binOp .eql 50 (.tmp 18) (.const (.pointer .none)) 50) 17,
o 20 (pV 17 19),
o 21 (pM 20),
oF 22 (pM 3) 21,
oF 23 (pN 22 37) 21,
oF 24 (pK .neq 3 23 .i64 0 3) 21,
o 25 (pV 21 24),
o 26 (pM 25),
oF 27 (pM 4) 26,
oF 28 (pK .neq 3 27 .i64 1 3) 26,
o 29 (pV 26 28)]
def k27_r4 : List COp := [o 0 (pO false)]
def k27_r5 : CC := (.hreg [
(false, o 31 (pM 2)),
(true, o 32 (.buildSlice 22 1 #[(0, .const (.int .u8 97))])),
(true, o 33 (.convert 22 22 (.tmp 32))),
(false, o 34 (pD 38 31 33 50 22)),
(false, o 30 (pM 34)),
(false, o 35 (pX 30 0)),
(false, o 36 (pX 30 1)),
(false, o 6 (pA 35)),
(false, o 5 (pA 36))])
def k27_r6 : List COp := [o 37 (pM 6),
o 38 (pK .neq 3 37 .i64 1 3),
o 39 (pM 38),
oF 40 (pM 5) 39,
oF 41 (pK .neq 24 40 .i64 0 24) 39,
o 42 (pV 39 41)]
def k27_r7 : List COp := [o 0 (pO false)]
def k27_r8 : List COp := [o 44 (pM 1),
o 45 (.call { callee := .value (.func 36), args := #[.tmp 44, .const (.int .i64 2)], argTypes := #[32, 3] }),
o 43 (pM 45),
o 46 (pX 43 0),
o 47 (pX 43 1),
o 48 (pX 43 2),
o 49 (pX 43 3),
o 3 (pA 47),
o 4 (pA 48),
o 5 (pA 49)]
def k27_r9 : List COp := [o 50 (pM 5),
o 51 (pK .eql 24 50 .i64 0 24),
o 52 (pM 51),
oT 53 (pM 4) 52,
oT 54 (pK .eql 3 53 .i64 1 3) 52,
o 55 (pU 52 54),
o 56 (pM 55),
oT 57 (pM 3) 56,
oT 58 (pN 57 37) 56,
oT 59 (pK .eql 3 58 .i64 1 3) 56,
o 60 (pU 56 59),
o 61 (pM 60),
oT 62 (pM 3) 61,
oT 63 (.indexAddr 37 (.tmp 62) (.const (.int .i64 0))) 61,
oT 64 (pL 22 63) 61,
oT 65 (.convert 22 9 (.tmp 64)) 61,
oT 66 (.binOp .eql 9 (.tmp 65) (.const (.string { data := #[97] })) 9) 61,
o 67 (pU 61 66),
o 0 (pA 67)]
def k27 : CC := (.seq (.region k27_r0) (.seq (.region k27_r1) (.seq (.region k27_r2) (.seq (.seq (.region k27_r3) (.cond (.tmp 29) (.seq (.region k27_r4) .ret) .skip)) (.seq k27_r5 (.seq (.seq (.region k27_r6) (.cond (.tmp 42) (.seq (.region k27_r7) .ret) .skip)) (.seq (.region k27_r8) (.seq (.region k27_r9) .ret))))))))
def k40_r0 : List COp := [o 3 (pZ .u32 0)]
def k40_r1 : List COp := [oX 4 (pL 22 1),
oX 5 (pM 0),
oX 6 (pI 22 4 5),
oX 7 (pL 5 6),
oX 8 (.convert 5 61 (.tmp 7)),
oX 9 (pL 22 1),
oX 10 (pM 0),
oX 11 (pK .add 3 10 .i64 1 3),
oX 12 (pI 22 9 11),
oX 13 (pL 5 12),
oX 14 (.convert 5 61 (.tmp 13)),
oX 15 (pK .shl 61 14 .u64 8 62),
oX 16 (pB .or 61 8 15 61),
oX 17 (pL 22 1),
oX 18 (pM 0),
oX 19 (pK .add 3 18 .i64 2 3),
oX 20 (pI 22 17 19),
oX 21 (pL 5 20),
oX 22 (.convert 5 61 (.tmp 21)),
oX 23 (pK .shl 61 22 .u64 16 62),
oX 24 (pB .or 61 16 23 61),
oX 25 (pL 22 1),
o 26 (pM 0),
o 27 (pK .add 3 26 .i64 3 3),
o 28 (pI 22 25 27),
o 29 (pL 5 28),
o 30 (.convert 5 61 (.tmp 29)),
o 31 (pK .shl 61 30 .u64 24 62),
o 32 (pB .or 61 24 31 61),
o 3 (pA 32)]
def k40 : CC := (.seq (.region k40_r0) (.seq (.region k40_r1) .ret))
def k40_p := PLift.up <| aI (vE k40.eq_1) <| aI (oE k40_r0.eq_1) (oE k40_r1.eq_1)
theorem k40_a : type_of% k40_p.down := k40_p.down
theorem k40_is : FnIs Tryd.prog prims 40 33 [ResultVar.tmp 3] k40 := FnIs.of_fn Tryd.func40 (by kernel_rfl) rfl
def k41_r0 : List COp := [o 2 (pZ .u32 0)]
def k41_r1 : List COp := [o 3 (pM 0),
o 4 (.call { callee := .value (.func 59), args := #[.const (.int .u32 0), .tmp 3], argTypes := #[61, 22] }),
o 2 (pA 4)]
def k41 : CC := (.seq (.region k41_r0) (.seq (.region k41_r1) .ret))
def k41_p := PLift.up <| aI (vE k41.eq_1) <| aI (oE k41_r0.eq_1) (oE k41_r1.eq_1)
theorem k41_a : type_of% k41_p.down := k41_p.down
theorem k41_is : FnIs Tryd.prog prims 41 5 [ResultVar.tmp 2] k41 := FnIs.of_fn Tryd.func41 (by kernel_rfl) rfl
def k45_r0 : List COp := [o 4 (.assign (.const (.slice .none 0 0))),
o 5 (pZ .i64 0)]
def k45_r1 : List COp := [o 9 (pM 0),
o 10 (pM 1),
o 11 (pD 62 9 10 32 9),
o 8 (pM 11),
o 12 (pX 8 0),
o 13 (pX 8 1),
o 6 (pA 12),
o 7 (pA 13)]
def k45_r2 : List COp := [o 14 (pM 7),
o 15 (pK .neq 24 14 .i64 0 24)]
def k45_r3 : List COp := [o 16 (pM 7),
o 4 (.assign (.const (.slice .none 0 0))),
o 5 (pA 16)]
def k45_r4 : List COp := [oX 17 (pM 6),
oX 18 (.nilCheck (.tmp 17)),
oX 19 (pF 78 18 0),
oX 20 (pL 22 19),
o 21 (pM 6),
o 22 (.nilCheck (.tmp 21)),
o 23 (pF 78 22 1),
o 24 (pL 22 23),
o 25 (.buildSlice 37 2 #[(0, .tmp 20), (1, .tmp 24)]),
o 26 (pC 63 25 37),
o 4 (pA 26),
o 5 (pZ .i64 0)]
def k45 : CC := (.seq (.region k45_r0) (.seq (.region k45_r1) (.seq (.seq (.region k45_r2) (.cond (.tmp 15) (.seq (.region k45_r3) .ret) .skip)) (.seq (.region k45_r4) .ret))))
def k45_p := PLift.up <| aI (vE k45.eq_1) <| aO k45_r0.eq_1 <| aO k45_r1.eq_1 <| aO k45_r2.eq_1 <| aI (oE k45_r3.eq_1) (oE k45_r4.eq_1)
theorem k45_a : type_of% k45_p.down := k45_p.down
theorem k45_is : FnIs Tryd.prog prims 45 27 [ResultVar.tmp 4, ResultVar.tmp 5] k45 := FnIs.of_fn Tryd.func45 (by kernel_rfl) rfl
def k46_r0 : List COp := [o 4 (pZ .i64 0)]
def k46_r1 : List COp := [o 8 (pM 0),
o 9 (pM 1),
o 10 (pD 62 8 9 32 9),
o 7 (pM 10),
o 11 (pX 7 0),
o 12 (pX 7 1),
o 5 (pA 11),
o 6 (pA 12)]
def k46_r2 : List COp := [o 13 (pM 6),
o 14 (pK .neq 24 13 .i64 0 24)]
def k46_r3 : List COp := [o 15 (pM 6),
o 4 (pA 15)]
def k46_r4 : List COp := [o 16 (pM 0),
o 17 (pC 64 16 32)]
def k46_r5 : List COp := [o 18 (pM 0),
o 19 (pC 65 18 32),
o 4 (pA 19)]
def k46_r6 : CC := (.hreg [
(false, o 20 (pM 0)),
(false, o 21 (.nilCheck (.tmp 20))),
(false, o 22 (pF 70 21 0)),
(false, o 23 (pL 68 22)),
(false, o 24 (pM 1)),
(true, ⟨none, .call { callee := .builtin .delete, args := #[.tmp 23, .tmp 24], argTypes := #[68, 9] }, none, true⟩)])
def k46_r7 : List COp := [o 4 (pZ .i64 0)]
def k46 : CC := (.seq (.region k46_r0) (.seq (.seq (.region k46_r1) (.seq (.region k46_r2) (.cond (.tmp 14) (.seq (.region k46_r3) .ret) .skip))) (.seq (.seq (.region k46_r4) (.cond (.tmp 17) (.seq (.region k46_r5) .ret) .skip)) (.seq k46_r6 (.seq (.region k46_r7) .ret)))))
def k46_p := PLift.up <| aI (vE k46.eq_1) <| aO k46_r0.eq_1 <| aO k46_r1.eq_1 <| aO k46_r2.eq_1 <| aO k46_r3.eq_1 <| aO k46_r4.eq_1 <| aO k46_r5.eq_1 <| aI (vE k46_r6.eq_1) (oE k46_r7.eq_1)
theorem k46_a : type_of% k46_p.down := k46_p.down
theorem k46_is : FnIs Tryd.prog prims 46 25 [ResultVar.tmp 4] k46 := FnIs.of_fn Tryd.func46 (by kernel_rfl) rfl
def k47_r0 : List COp := [o 6 (pZ .i64 0)]
def k47_r1 : List COp := [o 9 (pM 0),
o 10 (pM 1),
o 11 (pD 66 9 10 32 9),
o 7 (pA 11)]
def k47_r2 : List COp := [o 12 (pM 7),
o 13 (pK .neq 24 12 .i64 0 24)]
def k47_r3 : List COp := [o 14 (pM 7),
o 6 (pA 14)]
def k47_r4 : List COp := [o 15 (pM 0),
o 16 (.nilCheck (.tmp 15)),
o 17 (pF 70 16 0),
o 18 (pL 68 17),
o 19 (pM 1),
o 20 (.lookup 68 (.tmp 18) (.tmp 19) false),
o 8 (pA 20)]
def k47_r5 : List COp := [o 22 (pM 8),
o 23 (.binOp .neq 76 (.tmp 22) (.const (.pointer .none)) 76),
o 24 (pM 23),
⟨some 25, .move (.tmp 2), some (24, true), false⟩,
⟨some 26, .call { callee := .builtin .len, args := #[.tmp 25], argTypes := #[22] }, some (24, true), false⟩,
⟨some 27, .move (.tmp 8), some (24, true), false⟩,
⟨some 28, .nilCheck (.tmp 27), some (24, true), false⟩,
⟨some 29, .fieldAddr 78 (.tmp 28) 0, some (24, true), false⟩,
⟨some 30, .load 22 (.tmp 29), some (24, true), false⟩,
⟨some 31, .call { callee := .builtin .len, args := #[.tmp 30], argTypes := #[22] }, some (24, true), false⟩,
⟨some 32, .binOp .sub 3 (.const (.int .i64 1048576)) (.tmp 31) 3, some (24, true), false⟩,
oT 33 (pM 8) 24,
oT 34 (.nilCheck (.tmp 33)) 24,
oT 35 (pF 78 34 1) 24,
oT 36 (pL 22 35) 24,
oT 37 (pN 36 22) 24,
oT 38 (pB .sub 3 32 37 3) 24,
oT 39 (pB .gtr 3 26 38 3) 24,
o 40 (pU 24 39),
o 21 (pA 40)]
def k47_r6 : List COp := [o 41 (pM 2),
o 42 (pN 41 22),
o 43 (pK .gtr 3 42 .i64 1048576 3),
o 21 (pA 43)]
def k47_r7 : List COp := [o 6 (pZ .i64 3)]
def k47_r8 : CC := (.hreg [
(false, o 45 (pM 8)),
(false, o 46 (.binOp .eql 76 (.tmp 45) (.const (.pointer .none)) 76)),
(false, o 47 (pM 46)),
(false, oT 48 (pM 0) 47),
(false, oT 49 (.nilCheck (.tmp 48)) 47),
(false, oT 50 (pF 70 49 0) 47),
(false, oT 51 (pL 68 50) 47),
(true, oT 52 (pN 51 68) 47),
(false, oT 53 (pK .geq 3 52 .i64 16 3) 47),
(false, o 54 (pU 47 53)),
(false, o 44 (pA 54))])
def k47_r9 : CC := (.wregion [
(true, oX 55 (pM 0)),
(false, oX 56 (pC 67 55 32)),
(true, oX 57 (pM 2)),
(false, oX 58 (pN 57 22)),
(false, oX 59 (pB .add 3 56 58 3)),
(false, o 60 (pM 0)),
(false, o 61 (.nilCheck (.tmp 60))),
(false, o 62 (pF 70 61 1)),
(true, o 63 (pL 3 62)),
(false, o 64 (pB .gtr 3 59 63 3)),
(false, o 44 (pA 64))] false [(8, o 63 (pL 3 62), [0, 2])])
def k47_r10 : List COp := [o 6 (pZ .i64 22)]
def k47_r11 : List COp := [o 65 (pM 8),
o 66 (.binOp .eql 76 (.tmp 65) (.const (.pointer .none)) 76)]
def k47_r12 : List COp := [o 67 (.build 78 #[]),
o 68 (.box 78 (.tmp 67)),
o 8 (pA 68)]
def k47_r13 : List COp := [o 69 (pM 0),
o 70 (.nilCheck (.tmp 69)),
o 71 (pF 70 70 0),
o 72 (pL 68 71),
o 73 (pM 1),
o 74 (pM 8),
⟨none, .mapUpdate 68 (.tmp 72) (.tmp 73) (.tmp 74), none, true⟩]
def k47_r14 : CC := (.hreg [
(false, o 75 (pM 8)),
(false, o 76 (pM 8)),
(false, o 77 (.nilCheck (.tmp 76))),
(false, o 78 (pF 78 77 1)),
(false, o 79 (pL 22 78)),
(false, o 80 (pM 2)),
(true, o 81 (pQ 79 80 22 22)),
(false, o 82 (.nilCheck (.tmp 75))),
(false, o 83 (pF 78 82 1)),
(false, oS 22 83 81)])
def k47_r15 : List COp := [o 84 (pM 0),
o 85 (pC 64 84 32)]
def k47_r16 : List COp := [o 86 (pM 0),
o 87 (pC 65 86 32),
o 6 (pA 87)]
def k47_r17 : List COp := [o 6 (pZ .i64 0)]
def k47 : CC := (.seq (.region k47_r0) (.seq (.seq (.region k47_r1) (.seq (.region k47_r2) (.cond (.tmp 13) (.seq (.region k47_r3) .ret) .skip))) (.seq (.region k47_r4) (.seq (.block 0 (.seq (.seq (.region k47_r5) (.cond (.tmp 21) .skip (.region k47_r6))) (.cond (.tmp 21) (.seq (.region k47_r7) .ret) (.seq (.seq k47_r8 (.cond (.tmp 44) .skip k47_r9)) (.cond (.tmp 44) (.seq (.region k47_r10) .ret) .skip))))) (.seq (.seq (.region k47_r11) (.cond (.tmp 66) (.seq (.region k47_r12) (.region k47_r13)) .skip)) (.seq k47_r14 (.seq (.seq (.region k47_r15) (.cond (.tmp 85) (.seq (.region k47_r16) .ret) .skip)) (.seq (.region k47_r17) .ret))))))))
def k47_p := PLift.up <| aI (vE k47.eq_1) <| aO k47_r0.eq_1 <| aO k47_r1.eq_1 <| aO k47_r2.eq_1 <| aO k47_r3.eq_1 <| aO k47_r4.eq_1 <| aO k47_r5.eq_1 <| aO k47_r6.eq_1 <| aO k47_r7.eq_1 <| aI (vE k47_r8.eq_1) <| aI (vE k47_r9.eq_1) <| aO k47_r10.eq_1 <| aO k47_r11.eq_1 <| aO k47_r12.eq_1 <| aO k47_r13.eq_1 <| aI (vE k47_r14.eq_1) <| aO k47_r15.eq_1 <| aI (oE k47_r16.eq_1) (oE k47_r17.eq_1)
theorem k47_a : type_of% k47_p.down := k47_p.down
theorem k47_is : FnIs Tryd.prog prims 47 88 [ResultVar.tmp 6] k47 := FnIs.of_fn Tryd.func47 (by kernel_rfl) rfl
def k48_r0 : List COp := [o 4 (pZ .i64 0)]
def k48_r1 : List COp := [o 8 (pM 0),
o 9 (pM 1),
o 10 (pD 62 8 9 32 9),
o 7 (pM 10),
o 11 (pX 7 0),
o 12 (pX 7 1),
o 5 (pA 11),
o 6 (pA 12)]
def k48_r2 : List COp := [o 13 (pM 6),
o 14 (pK .neq 24 13 .i64 0 24)]
def k48_r3 : List COp := [o 15 (pM 6),
o 4 (pA 15)]
def k48_r4 : List COp := [o 16 (pM 0),
o 17 (pC 64 16 32)]
def k48_r5 : List COp := [o 18 (pM 0),
o 19 (pC 65 18 32),
o 4 (pA 19)]
def k48_r6 : List COp := [oX 20 (pM 5),
oX 21 (pM 5),
oX 22 (pM 5),
oX 23 (.nilCheck (.tmp 22)),
oX 24 (pF 78 23 0),
oX 25 (pL 22 24),
o 26 (pM 5),
o 27 (.nilCheck (.tmp 26)),
o 28 (pF 78 27 1),
o 29 (pL 22 28),
o 30 (.call { callee := .builtin .append, args := #[.tmp 25, .tmp 29], argTypes := #[22, 22, 0] }),
o 31 (.nilCheck (.tmp 20)),
o 32 (pF 78 31 0),
oS 22 32 30,
o 33 (.nilCheck (.tmp 21)),
o 34 (pF 78 33 1),
⟨none, .store 22 (.tmp 34) (.const (.slice .none 0 0)), none, true⟩]
def k48_r7 : List COp := [o 4 (pZ .i64 0)]
def k48 : CC := (.seq (.region k48_r0) (.seq (.region k48_r1) (.seq (.seq (.region k48_r2) (.cond (.tmp 14) (.seq (.region k48_r3) .ret) .skip)) (.seq (.seq (.region k48_r4) (.cond (.tmp 17) (.seq (.region k48_r5) .ret) .skip)) (.seq (.region k48_r6) (.seq (.region k48_r7) .ret))))))
def k48_p := PLift.up <| aI (vE k48.eq_1) <| aO k48_r0.eq_1 <| aO k48_r1.eq_1 <| aO k48_r2.eq_1 <| aO k48_r3.eq_1 <| aO k48_r4.eq_1 <| aO k48_r5.eq_1 <| aI (oE k48_r6.eq_1) (oE k48_r7.eq_1)
theorem k48_a : type_of% k48_p.down := k48_p.down
theorem k48_is : FnIs Tryd.prog prims 48 35 [ResultVar.tmp 4] k48 := FnIs.of_fn Tryd.func48 (by kernel_rfl) rfl
def k49_r0 : List COp := [o 6 (pZ .i64 0)]
def k49_r1 : List COp := [o 10 (pM 0),
o 11 (pM 1),
o 12 (pD 62 10 11 32 9),
o 9 (pM 12),
o 13 (pX 9 0),
o 14 (pX 9 1),
o 7 (pA 13),
o 8 (pA 14)]
def k49_r2 : List COp := [o 15 (pM 8),
o 16 (pK .eql 24 15 .i64 2 24),
o 17 (pM 16),
oF 18 (pM 8) 17,
oF 19 (pK .eql 24 18 .i64 1 24) 17,
o 20 (pV 17 19)]
def k49_r3 : List COp := [o 21 (pM 8),
o 6 (pA 21)]
def k49_r4 : List COp := [o 23 (pM 2),
o 24 (pC 68 23 9),
o 25 (.unOp .not 4 (.tmp 24)),
o 22 (pA 25)]
def k49_r5 : List COp := [o 6 (pZ .i64 1)]
def k49_r6 : List COp := [o 27 (pM 8),
o 28 (pK .neq 24 27 .i64 0 24),
o 26 (pA 28)]
def k49_r7 : List COp := [o 29 (pM 8),
o 6 (pA 29)]
def k49_r8 : List COp := [o 30 (pM 0),
o 31 (pC 64 30 32)]
def k49_r9 : List COp := [o 32 (pM 0),
o 33 (pC 65 32 32),
o 6 (pA 33)]
def k49_r10 : CC := (.hreg [
(false, o 34 (pM 0)),
(false, o 35 (.nilCheck (.tmp 34))),
(false, o 36 (pF 70 35 0)),
(false, o 37 (pL 68 36)),
(false, o 38 (pM 1)),
(true, ⟨none, .call { callee := .builtin .delete, args := #[.tmp 37, .tmp 38], argTypes := #[68, 9] }, none, true⟩)])
def k49_r11 : List COp := [o 39 (pM 0),
o 40 (.nilCheck (.tmp 39)),
o 41 (pF 70 40 0),
o 42 (pL 68 41),
o 43 (pM 2),
o 44 (pM 7),
⟨none, .mapUpdate 68 (.tmp 42) (.tmp 43) (.tmp 44), none, true⟩]
def k49_r12 : List COp := [o 6 (pZ .i64 0)]
def k49 : CC := (.seq (.region k49_r0) (.seq (.region k49_r1) (.seq (.seq (.region k49_r2) (.cond (.tmp 20) (.seq (.region k49_r3) .ret) .skip)) (.seq (.block 0 (.seq (.region k49_r4) (.cond (.tmp 22) (.seq (.region k49_r5) .ret) (.seq (.region k49_r6) (.cond (.tmp 26) (.seq (.region k49_r7) .ret) .skip))))) (.seq (.seq (.region k49_r8) (.cond (.tmp 31) (.seq (.region k49_r9) .ret) .skip)) (.seq k49_r10 (.seq (.region k49_r11) (.seq (.region k49_r12) .ret))))))))
def k49_p := PLift.up <| aI (vE k49.eq_1) <| aO k49_r0.eq_1 <| aO k49_r1.eq_1 <| aO k49_r2.eq_1 <| aO k49_r3.eq_1 <| aO k49_r4.eq_1 <| aO k49_r5.eq_1 <| aO k49_r6.eq_1 <| aO k49_r7.eq_1 <| aO k49_r8.eq_1 <| aO k49_r9.eq_1 <| aI (vE k49_r10.eq_1) <| aI (oE k49_r11.eq_1) (oE k49_r12.eq_1)
theorem k49_a : type_of% k49_p.down := k49_p.down
theorem k49_is : FnIs Tryd.prog prims 49 45 [ResultVar.tmp 6] k49 := FnIs.of_fn Tryd.func49 (by kernel_rfl) rfl
def k50_r0 : List COp := [o 2 (pZ .i64 0)]
def k50_r1 : List COp := [o 5 (pM 0),
o 6 (pN 5 9),
o 7 (pK .neq 3 6 .i64 10 3),
o 8 (pM 7),
oF 9 (pM 0) 8,
oF 10 (.index 9 (.tmp 9) (.const (.int .i64 0))) 8,
oF 11 (pK .neq 5 10 .u8 115 5) 8,
o 12 (pV 8 11)]
def k50_r2 : List COp := [o 2 (pZ .i64 (-1))]
def k50_r3 : List COp := [o 14 (pM 0),
o 15 (.slice 9 (.tmp 14) (some (.const (.int .i64 1))) .none .none),
o 16 (pC 69 15 9),
o 13 (pM 16),
o 17 (pX 13 0),
o 18 (pX 13 1),
o 3 (pA 17),
o 4 (pA 18)]
def k50_r4 : List COp := [o 19 (pM 4),
o 20 (.binOp .neq 97 (.tmp 19) (.const .nilIface) 97),
o 21 (pM 20),
oF 22 (pM 3) 21,
oF 23 (pC 14 22 3) 21,
oF 24 (pM 0) 21,
oF 25 (pB .neq 9 23 24 9) 21,
o 26 (pV 21 25)]
def k50_r5 : List COp := [o 2 (pZ .i64 (-1))]
def k50_r6 : List COp := [o 27 (pM 3),
o 2 (pA 27)]
def k50 : CC := (.seq (.region k50_r0) (.seq (.seq (.region k50_r1) (.cond (.tmp 12) (.seq (.region k50_r2) .ret) .skip)) (.seq (.region k50_r3) (.seq (.seq (.region k50_r4) (.cond (.tmp 26) (.seq (.region k50_r5) .ret) .skip)) (.seq (.region k50_r6) .ret)))))
def k50_p := PLift.up <| aI (vE k50.eq_1) <| aO k50_r0.eq_1 <| aO k50_r1.eq_1 <| aO k50_r2.eq_1 <| aO k50_r3.eq_1 <| aO k50_r4.eq_1 <| aI (oE k50_r5.eq_1) (oE k50_r6.eq_1)
theorem k50_a : type_of% k50_p.down := k50_p.down
theorem k50_is : FnIs Tryd.prog prims 50 28 [ResultVar.tmp 2] k50 := FnIs.of_fn Tryd.func50 (by kernel_rfl) rfl
def k52_r0 : List COp := [o 1 (.box 68 (.tmp 0)),
o 2 (.assign (.const .nilFunc))]
def k52_r1 : List COp := [o 3 (.makeFunc (.func 72) #[] #[.tmp 1]),
o 2 (pA 3)]
def k52 : CC := (.seq (.region k52_r0) (.seq (.region k52_r1) .ret))
def k52_p := PLift.up <| aI (vE k52.eq_1) <| aI (oE k52_r0.eq_1) (oE k52_r1.eq_1)
theorem k52_a : type_of% k52_p.down := k52_p.down
theorem k52_is : FnIs Tryd.prog prims 52 4 [ResultVar.tmp 2] k52 := FnIs.of_fn Tryd.func52 (by kernel_rfl) rfl
def k62_r0 : List COp := [o 4 (.assign (.const (.pointer .none))),
o 5 (pZ .i64 0)]
def k62_r1 : List COp := [o 8 (pM 0),
o 9 (pM 1),
o 10 (pD 66 8 9 32 9),
o 6 (pA 10)]
def k62_r2 : List COp := [o 11 (pM 6),
o 12 (pK .neq 24 11 .i64 0 24)]
def k62_r3 : List COp := [o 13 (pM 6),
o 4 (.assign (.const (.pointer .none))),
o 5 (pA 13)]
def k62_r4 : List COp := [o 14 (pM 0),
o 15 (.nilCheck (.tmp 14)),
o 16 (pF 70 15 0),
o 17 (pL 68 16),
o 18 (pM 1),
o 19 (.lookup 68 (.tmp 17) (.tmp 18) false),
o 7 (pA 19)]
def k62_r5 : List COp := [o 20 (pM 7),
o 21 (.binOp .eql 76 (.tmp 20) (.const (.pointer .none)) 76)]
def k62_r6 : List COp := [o 4 (.assign (.const (.pointer .none))),
o 5 (pZ .i64 21)]
def k62_r7 : List COp := [o 22 (pM 7),
o 4 (pA 22),
o 5 (pZ .i64 0)]
def k62 : CC := (.seq (.region k62_r0) (.seq (.seq (.region k62_r1) (.seq (.region k62_r2) (.cond (.tmp 12) (.seq (.region k62_r3) .ret) .skip))) (.seq (.region k62_r4) (.seq (.seq (.region k62_r5) (.cond (.tmp 21) (.seq (.region k62_r6) .ret) .skip)) (.seq (.region k62_r7) .ret)))))
def k62_p := PLift.up <| aI (vE k62.eq_1) <| aO k62_r0.eq_1 <| aO k62_r1.eq_1 <| aO k62_r2.eq_1 <| aO k62_r3.eq_1 <| aO k62_r4.eq_1 <| aO k62_r5.eq_1 <| aI (oE k62_r6.eq_1) (oE k62_r7.eq_1)
theorem k62_a : type_of% k62_p.down := k62_p.down
theorem k62_is : FnIs Tryd.prog prims 62 23 [ResultVar.tmp 4, ResultVar.tmp 5] k62 := FnIs.of_fn Tryd.func62 (by kernel_rfl) rfl
def k63_r0 : List COp := [o 2 (.assign (.const (.slice .none 0 0)))]
def k63_r1 : List COp := [o 3 (pZ .i64 0)]
def k63_r2 : List COp := [o 9 (pM 0),
o 10 (pN 9 37),
o 11 (pW .i64 0)]
def k63_r3 : List COp := [o 12 (pB .lss 3 11 10 3)]
def k63_r4 : List COp := [o 13 (pI 37 9 11),
o 14 (pL 22 13),
o 5 (pA 14)]
def k63_r5 : List COp := [o 15 (pM 3),
o 16 (pM 5),
o 17 (pN 16 22),
o 18 (pB .add 3 15 17 3),
o 3 (pA 18)]
def k63_r6 : List COp := [o 19 (pM 3),
o 20 (pK .lss 3 19 .i64 0 3)]
def k63_r7 : List COp := [o 21 (.makeInterface 9 (.const (.string { data := #[108, 101, 110, 32, 111, 117, 116, 32, 111, 102, 32, 114, 97, 110, 103, 101] }))),
⟨none, .panic (.tmp 21), none, true⟩]
def k63_r8 : List COp := [o 22 (pK .add 3 11 .i64 1 3),
o 11 (pM 22)]
def k63_l0 : CC := (.seq (.region k63_r3) (.seq (.cond (.tmp 12) .skip (.exit 0)) (.seq (.block 1 (.seq (.region k63_r4) (.seq (.region k63_r5) (.seq (.region k63_r6) (.cond (.tmp 20) (.region k63_r7) .skip))))) (.region k63_r8))))
def k63_r9 : List COp := [o 23 (pM 3),
o 24 (.call { callee := .value (.func 75), args := #[.const (.slice .none 0 0), .tmp 23], argTypes := #[22, 3] }),
o 6 (pA 24)]
def k63_r10 : List COp := [o 25 (pM 0),
o 26 (pN 25 37),
o 27 (pW .i64 0)]
def k63_r11 : List COp := [o 28 (pB .lss 3 27 26 3)]
def k63_r12 : List COp := [o 29 (pI 37 25 27),
o 30 (pL 22 29),
o 8 (pA 30)]
def k63_r13 : CC := (.hreg [
(false, o 31 (pM 6)),
(false, o 32 (pM 8)),
(true, o 33 (pQ 31 32 22 22)),
(false, o 6 (pA 33))])
def k63_r14 : List COp := [o 34 (pK .add 3 27 .i64 1 3),
o 27 (pM 34)]
def k63_l1 : CC := (.seq (.region k63_r11) (.seq (.cond (.tmp 28) .skip (.exit 2)) (.seq (.block 3 (.seq (.region k63_r12) k63_r13)) (.region k63_r14))))
def k63_r15 : List COp := [o 35 (pM 6),
o 2 (pA 35)]
def k63 : CC := (.seq (.region k63_r0) (.seq (.region k63_r1) (.seq (.seq (.region k63_r2) (.block 0 (.loop k63_l0))) (.seq (.region k63_r9) (.seq (.seq (.region k63_r10) (.block 2 (.loop k63_l1))) (.seq (.region k63_r15) .ret))))))
def k63_p := PLift.up <| aI (vE k63.eq_1) <| aO k63_r0.eq_1 <| aO k63_r1.eq_1 <| aO k63_r2.eq_1 <| aO k63_r3.eq_1 <| aO k63_r4.eq_1 <| aO k63_r5.eq_1 <| aO k63_r6.eq_1 <| aO k63_r7.eq_1 <| aO k63_r8.eq_1 <| aI (vE k63_l0.eq_1) <| aO k63_r9.eq_1 <| aO k63_r10.eq_1 <| aO k63_r11.eq_1 <| aO k63_r12.eq_1 <| aI (vE k63_r13.eq_1) <| aO k63_r14.eq_1 <| aI (vE k63_l1.eq_1) (oE k63_r15.eq_1)
theorem k63_a : type_of% k63_p.down := k63_p.down
theorem k63_is : FnIs Tryd.prog prims 63 36 [ResultVar.tmp 2] k63 := FnIs.of_fn Tryd.func63 (by kernel_rfl) rfl
def k64_r0 : List COp := [o 2 (pO false)]
def k64_r1 : List COp := [o 3 (pM 0),
o 4 (.nilCheck (.tmp 3)),
o 5 (pF 70 4 3),
o 6 (pL 3 5),
o 7 (pK .add 3 6 .i64 1 3),
o 8 (.nilCheck (.tmp 3)),
o 9 (pF 70 8 3),
oS 3 9 7]
def k64_r2 : List COp := [o 10 (pM 0),
o 11 (.nilCheck (.tmp 10)),
o 12 (pF 70 11 4),
o 13 (pL 3 12),
o 14 (pK .eql 3 13 .i64 0 3)]
def k64_r3 : List COp := [o 2 (pO false)]
def k64_r4 : List COp := [o 15 (pM 0),
o 16 (.nilCheck (.tmp 15)),
o 17 (pF 70 16 4),
o 18 (pL 3 17),
o 19 (pK .sub 3 18 .i64 1 3),
o 20 (.nilCheck (.tmp 15)),
o 21 (pF 70 20 4),
oS 3 21 19]
def k64_r5 : List COp := [o 22 (pM 0),
o 23 (.nilCheck (.tmp 22)),
o 24 (pF 70 23 4),
o 25 (pL 3 24),
o 26 (pK .eql 3 25 .i64 0 3),
o 2 (pA 26)]
def k64 : CC := (.seq (.region k64_r0) (.seq (.region k64_r1) (.seq (.seq (.region k64_r2) (.cond (.tmp 14) (.seq (.region k64_r3) .ret) .skip)) (.seq (.region k64_r4) (.seq (.region k64_r5) .ret)))))
def k64_p := PLift.up <| aI (vE k64.eq_1) <| aO k64_r0.eq_1 <| aO k64_r1.eq_1 <| aO k64_r2.eq_1 <| aO k64_r3.eq_1 <| aI (oE k64_r4.eq_1) (oE k64_r5.eq_1)
theorem k64_a : type_of% k64_p.down := k64_p.down
theorem k64_is : FnIs Tryd.prog prims 64 27 [ResultVar.tmp 2] k64 := FnIs.of_fn Tryd.func64 (by kernel_rfl) rfl
def k65_r0 : List COp := [o 2 (pZ .i64 0)]
def k65_r1 : List COp := [o 3 (pM 0),
o 4 (pM 0),
o 5 (.nilCheck (.tmp 4)),
o 6 (pF 70 5 5),
o 7 (pL 3 6),
o 8 (pD 24 3 7 32 3)]
def k65_r2 : List COp := [o 2 (pZ .i64 20)]
def k65 : CC := (.seq (.region k65_r0) (.seq (.region k65_r1) (.seq (.region k65_r2) .ret)))
def k65_p := PLift.up <| aI (vE k65.eq_1) <| aO k65_r0.eq_1 <| aI (oE k65_r1.eq_1) (oE k65_r2.eq_1)
theorem k65_a : type_of% k65_p.down := k65_p.down
theorem k65_is : FnIs Tryd.prog prims 65 9 [ResultVar.tmp 2] k65 := FnIs.of_fn Tryd.func65 (by kernel_rfl) rfl
def k66_r0 : List COp := [o 4 (pZ .i64 0)]
def k66_r1 : List COp := [o 6 (pM 0),
o 7 (.binOp .eql 32 (.tmp 6) (.const (.pointer .none)) 32),
o 5 (pA 7)]
def k66_r2 : List COp := [o 4 (pZ .i64 2)]
def k66_r3 : List COp := [o 9 (pM 1),
o 10 (pC 68 9 9),
o 11 (.unOp .not 4 (.tmp 10)),
o 8 (pA 11)]
def k66_r4 : List COp := [o 4 (pZ .i64 1)]
def k66_r5 : List COp := [o 13 (pM 0),
o 14 (.nilCheck (.tmp 13)),
o 15 (pF 70 14 2),
o 16 (pL 4 15),
o 12 (pA 16)]
def k66_r6 : List COp := [o 4 (pZ .i64 20)]
def k66_r7 : List COp := [o 4 (pZ .i64 0)]
def k66 : CC := (.seq (.region k66_r0) (.seq (.block 0 (.seq (.region k66_r1) (.cond (.tmp 5) (.seq (.region k66_r2) .ret) (.seq (.region k66_r3) (.cond (.tmp 8) (.seq (.region k66_r4) .ret) (.seq (.region k66_r5) (.cond (.tmp 12) (.seq (.region k66_r6) .ret) .skip))))))) (.seq (.region k66_r7) .ret)))
def k66_p := PLift.up <| aI (vE k66.eq_1) <| aO k66_r0.eq_1 <| aO k66_r1.eq_1 <| aO k66_r2.eq_1 <| aO k66_r3.eq_1 <| aO k66_r4.eq_1 <| aO k66_r5.eq_1 <| aI (oE k66_r6.eq_1) (oE k66_r7.eq_1)
theorem k66_a : type_of% k66_p.down := k66_p.down
theorem k66_is : FnIs Tryd.prog prims 66 17 [ResultVar.tmp 4] k66 := FnIs.of_fn Tryd.func66 (by kernel_rfl) rfl
def k68_r0 : List COp := [o 2 (pO false)]
def k68_r1 : List COp := [o 3 (pM 0),
o 4 (pN 3 9),
o 5 (pK .geq 3 4 .i64 1 3),
o 6 (pM 5),
oT 7 (pM 0) 6,
oT 8 (pN 7 9) 6,
oT 9 (pK .leq 3 8 .i64 16 3) 6,
o 10 (pU 6 9),
o 2 (pA 10)]
def k68 : CC := (.seq (.region k68_r0) (.seq (.region k68_r1) .ret))
def k68_p := PLift.up <| aI (vE k68.eq_1) <| aI (oE k68_r0.eq_1) (oE k68_r1.eq_1)
theorem k68_a : type_of% k68_p.down := k68_p.down
theorem k68_is : FnIs Tryd.prog prims 68 11 [ResultVar.tmp 2] k68 := FnIs.of_fn Tryd.func68 (by kernel_rfl) rfl
def k75_r0 : List COp := [o 4 (.assign (.const (.slice .none 0 0)))]
def k75_r1 : List COp := [o 5 (pM 1),
o 6 (pK .lss 3 5 .i64 0 3)]
def k75_r2 : List COp := [o 7 (.makeInterface 9 (.const (.string { data := #[99, 97, 110, 110, 111, 116, 32, 98, 101, 32, 110, 101, 103, 97, 116, 105, 118, 101] }))),
⟨none, .panic (.tmp 7), none, true⟩]
def k75_r3 : CC := (.hreg [
(false, o 8 (pM 1)),
(false, o 9 (pM 0)),
(true, o 10 (.call { callee := .builtin .cap, args := #[.tmp 9], argTypes := #[22] })),
(false, o 11 (pM 0)),
(true, o 12 (pN 11 22)),
(false, o 13 (pB .sub 3 10 12 3)),
(false, o 14 (pB .sub 3 8 13 3)),
(false, o 1 (pA 14))])
def k75_r4 : List COp := [o 15 (pM 1),
o 16 (pK .gtr 3 15 .i64 0 3)]
def k75_r5 : CC := (.hreg [
(false, o 17 (pM 0)),
(false, o 18 (pM 0)),
(true, o 19 (.call { callee := .builtin .cap, args := #[.tmp 18], argTypes := #[22] })),
(false, o 20 (.slice 22 (.tmp 17) .none (some (.tmp 19)) .none)),
(false, o 21 (pM 1)),
(true, o 22 (pQ 20 21 22 3)),
(false, o 23 (pM 0)),
(true, o 24 (pN 23 22)),
(false, o 25 (.slice 22 (.tmp 22) .none (some (.tmp 24)) .none)),
(false, o 0 (pA 25))])
def k75_r6 : List COp := [o 26 (pM 0),
o 4 (pA 26)]
def k75 : CC := (.seq (.region k75_r0) (.seq (.seq (.region k75_r1) (.cond (.tmp 6) (.region k75_r2) .skip)) (.seq (.seq k75_r3 (.seq (.region k75_r4) (.cond (.tmp 16) k75_r5 .skip))) (.seq (.region k75_r6) .ret))))
def k75_p := PLift.up <| aI (vE k75.eq_1) <| aO k75_r0.eq_1 <| aO k75_r1.eq_1 <| aO k75_r2.eq_1 <| aI (vE k75_r3.eq_1) <| aO k75_r4.eq_1 <| aI (vE k75_r5.eq_1) (oE k75_r6.eq_1)
theorem k75_a : type_of% k75_p.down := k75_p.down
theorem k75_is : FnIs Tryd.prog prims 75 27 [ResultVar.tmp 4] k75 := FnIs.of_fn Tryd.func75 (by kernel_rfl) rfl
theorem noSB : isSB Tryd.prog 3 = false ∧ isSB Tryd.prog 24 = false ∧ isSB Tryd.prog 37 = false ∧ isSB Tryd.prog 50 = false ∧ isSB Tryd.prog 102 = false ∧ isMapT Tryd.prog 22 = false ∧ isMapT Tryd.prog 40 = false ∧ isMapT Tryd.prog 57 = false ∧ isMapT Tryd.prog 68 = true ∧ isMapT Tryd.prog 70 = false ∧ isMapT Tryd.prog 78 = false ∧ isMapT Tryd.prog 86 = false ∧ True := ⟨by kernel_rfl, by kernel_rfl, by kernel_rfl, by kernel_rfl, by kernel_rfl, by kernel_rfl, by kernel_rfl, by kernel_rfl, by kernel_rfl, by kernel_rfl, by kernel_rfl, by kernel_rfl, trivial⟩
end Go.Proofs.YtnegdinonfjdfaaDoor.Q
namespace Go.Proofs.YtnegdinonfjdfaaDoor.Q
open Go Go.RowKit Go.Proofs
theorem T22 : Tryd.prog.underlying 22 = some (.slice 5) := by kernel_rfl
theorem T5 : Tryd.prog.underlying 5 = some (.int .u8) := by kernel_rfl
theorem T3 : Tryd.prog.underlying 3 = some (.int .i64) := by kernel_rfl
theorem S5 : sizeT Tryd.prog 5 = some 1 := by kernel_rfl
theorem G5 : isAggT Tryd.prog 5 = some false := by kernel_rfl
theorem C5 : Tryd.prog.cellsOf 5 = 1 := by kernel_rfl
theorem G3 : isAggT Tryd.prog 3 = some false := by kernel_rfl
theorem G4 : isAggT Tryd.prog 4 = some false := by kernel_rfl
theorem S3 : sizeT Tryd.prog 3 = some 1 := by kernel_rfl
theorem BT : ByteT Tryd.prog 22 5 := ⟨T22, T5, S5, by kernel_rfl, by kernel_rfl, G5, C5⟩
def isTrue : Option (VRes × St) → Bool
  | some (.ret (.bool true), _) => true
  | _ => false
theorem isTrue_eq {o : Option (VRes × St)} (h : isTrue o = true) : ∃ σ, o = some (.ret (.bool true), σ) := by
  unfold isTrue at h
  split at h
  · exact ⟨_, rfl⟩
  · cases h
theorem wrap_nat {n : Nat} (h : n < 2 ^ 63) : IntKind.i64.wrap (n : Int) = n := wrap_i64 (by omega) (by omega)
end Go.Proofs.YtnegdinonfjdfaaDoor.Q
namespace Go.Proofs.YtnegdinonfjdfaaDoor.Q
structure Fl where
  name : List UInt8
  safe : List UInt8
  wait : List UInt8
  deriving DecidableEq, Inhabited
structure Dk where
  files : List Fl
  room : Int
  on : Bool
  writes : Nat
  armed : Nat
  keep : Int
abbrev Fl.len (f : Fl) : Nat := f.safe.length + f.wait.length
def sizeD (l : List Fl) : Nat := (l.map Fl.len).sum
def namedD (n : List UInt8) : Bool := decide (1 ≤ n.length ∧ n.length ≤ 16)
def readyD (d : Dk) (n : List UInt8) : Nat := if namedD n = false then 1 else if d.on = false then 20 else 0
def getF (l : List Fl) (n : List UInt8) : Option Fl := l.find? fun f => decide (f.name = n)
def putF (x : Fl) (l : List Fl) : List Fl := (l.filter fun f => decide (f.name < x.name)) ++ x :: (l.filter fun f => decide (x.name < f.name))
def dropF (n : List UInt8) (l : List Fl) : List Fl := l.filter fun f => decide (f.name ≠ n)
def offF (k : Int) (f : Fl) : Fl := ⟨f.name, f.safe ++ f.wait.take k.toNat, []⟩
def offD (k : Int) (d : Dk) : Dk := if d.on = true then { d with files := d.files.map (offF k), on := false, armed := 0 } else d
def rawD (d : Dk) : Bool × Dk := if d.armed = 0 then (false, { d with writes := d.writes + 1 }) else (decide (d.armed = 1), { d with writes := d.writes + 1, armed := d.armed - 1 })
def appendD (n b : List UInt8) (d : Dk) : Nat × Dk :=
  if readyD d n ≠ 0 then (readyD d n, d) else
  let f := (getF d.files n).getD ⟨n, [], []⟩
  if 1048576 < f.len + b.length then (3, d) else
  if ((getF d.files n).isNone = true ∧ 16 ≤ d.files.length) ∨ d.room < ((sizeD d.files + b.length : Nat) : Int) then (22, d) else
  let d2 := { d with files := putF ⟨n, f.safe, f.wait ++ b⟩ d.files }
  if (rawD d2).1 = true then (20, offD d.keep (rawD d2).2) else (0, (rawD d2).2)
def thereD (d : Dk) (n : List UInt8) : Nat := if readyD d n ≠ 0 then readyD d n else if (getF d.files n).isNone = true then 21 else 0
def syncD (n : List UInt8) (d : Dk) : Nat × Dk :=
  if thereD d n ≠ 0 then (thereD d n, d) else
  if (rawD d).1 = true then (20, offD d.keep (rawD d).2) else
  let f := (getF d.files n).getD default
  (0, { (rawD d).2 with files := putF ⟨n, f.safe ++ f.wait, []⟩ d.files })
def truncD (n : List UInt8) (k : Int) (d : Dk) : Nat × Dk :=
  if thereD d n ≠ 0 then (thereD d n, d) else
  let f := (getF d.files n).getD default
  if k < 0 ∨ (f.len : Int) < k then (3, d) else
  if (rawD d).1 = true then (20, offD d.keep (rawD d).2) else
  (0, { (rawD d).2 with files := putF ⟨n, f.safe.take k.toNat, f.wait.take (k.toNat - f.safe.length)⟩ d.files })
def renameD (a b : List UInt8) (d : Dk) : Nat × Dk :=
  if namedD a = false ∨ namedD b = false then (1, d) else
  if thereD d a ≠ 0 then (thereD d a, d) else
  if (rawD d).1 = true then (20, offD d.keep (rawD d).2) else
  let f := (getF d.files a).getD default
  (0, { (rawD d).2 with files := putF ⟨b, f.safe, f.wait⟩ (dropF a d.files) })
def removeD (n : List UInt8) (d : Dk) : Nat × Dk :=
  if thereD d n ≠ 0 then (thereD d n, d) else
  if (rawD d).1 = true then (20, offD d.keep (rawD d).2) else
  (0, { (rawD d).2 with files := dropF n d.files })
def readD (n : List UInt8) (d : Dk) : Nat × List UInt8 :=
  if thereD d n ≠ 0 then (thereD d n, []) else
  let f := (getF d.files n).getD default
  (0, f.safe ++ f.wait)
def namesD (d : Dk) : List (List UInt8) := if d.on = true then d.files.map Fl.name else []
def armD (n k : Int) (d : Dk) : Dk := { d with armed := n.toNat, keep := k }
structure Dk.Ok (d : Dk) : Prop where
  rise : d.files.Pairwise fun f g => f.name < g.name
  nm : ∀ f ∈ d.files, namedD f.name = true
  few : d.files.length ≤ 16
  sm : ∀ f ∈ d.files, f.len ≤ 1048576
  arm : (d.armed : Int) ≤ 9223372036854775807
  rm : InI64 d.room
  kp : InI64 d.keep
theorem lt_irrefl' (a : List UInt8) : ¬ a < a := List.lt_irrefl a
theorem lt_trans' {a b c : List UInt8} (h : a < b) (h2 : b < c) : a < c := List.lt_trans h h2
theorem lt_or {a b : List UInt8} (h : a ≠ b) : a < b ∨ b < a := by
  rcases Classical.em (a < b) with h1 | h1
  · exact .inl h1
  · rcases Classical.em (b < a) with h2 | h2
    · exact .inr h2
    · exact absurd (List.le_antisymm h2 h1) h
theorem Dk.Ok.nodup {d : Dk} (h : d.Ok) : (d.files.map Fl.name).Nodup := by
  rw [List.nodup_iff_pairwise_ne, List.pairwise_map]
  exact h.rise.imp fun {f g} hlt (he : f.name = g.name) => lt_irrefl' f.name (by rw [← he] at hlt; exact hlt)
theorem mem_putF {x f : Fl} {l : List Fl} : f ∈ putF x l ↔ f = x ∨ (f ∈ l ∧ f.name ≠ x.name) := by
  unfold putF
  simp only [List.mem_append, List.mem_cons, List.mem_filter, decide_eq_true_eq]
  constructor
  · rintro (⟨h1, h2⟩ | rfl | ⟨h1, h2⟩)
    · exact .inr ⟨h1, fun e => lt_irrefl' x.name (by rw [e] at h2; exact h2)⟩
    · exact .inl rfl
    · exact .inr ⟨h1, fun e => lt_irrefl' x.name (by rw [e] at h2; exact h2)⟩
  · rintro (rfl | ⟨h1, h2⟩)
    · exact .inr (.inl rfl)
    · rcases lt_or h2 with h | h
      · exact .inl ⟨h1, h⟩
      · exact .inr (.inr ⟨h1, h⟩)
theorem mem_dropF {n : List UInt8} {f : Fl} {l : List Fl} : f ∈ dropF n l ↔ f ∈ l ∧ f.name ≠ n := by
  simp [dropF]
theorem rise_putF {x : Fl} {l : List Fl} (h : l.Pairwise fun f g => f.name < g.name) : (putF x l).Pairwise fun f g => f.name < g.name := by
  unfold putF
  rw [List.pairwise_append, List.pairwise_cons]
  refine ⟨h.filter _, ⟨fun g hg => ?_, h.filter _⟩, fun f hf g hg => ?_⟩
  · simpa using (List.mem_filter.1 hg).2
  · have hf2 : f.name < x.name := by simpa using (List.mem_filter.1 hf).2
    rcases List.mem_cons.1 hg with rfl | hg
    · exact hf2
    · exact lt_trans' hf2 (by simpa using (List.mem_filter.1 hg).2)
theorem rise_dropF {n : List UInt8} {l : List Fl} (h : l.Pairwise fun f g => f.name < g.name) : (dropF n l).Pairwise fun f g => f.name < g.name := h.filter _
theorem getF_some {l : List Fl} {n : List UInt8} {f : Fl} (h : getF l n = some f) : f ∈ l ∧ f.name = n := by
  unfold getF at h
  exact ⟨List.mem_of_find?_eq_some h, by simpa using List.find?_some h⟩
theorem getF_none {l : List Fl} {n : List UInt8} (h : getF l n = none) : ∀ f ∈ l, f.name ≠ n := by
  unfold getF at h
  rw [List.find?_eq_none] at h
  intro f hf e
  exact h f hf (by simp [e])
theorem mem_name {l : List Fl} (hn : (l.map Fl.name).Nodup) {f g : Fl} (hf : f ∈ l) (hg : g ∈ l) (h : f.name = g.name) : f = g := by
  induction l with
  | nil => cases hf
  | cons a l ih =>
    simp only [List.map_cons, List.nodup_cons] at hn
    rcases List.mem_cons.1 hf with rfl | hf' <;> rcases List.mem_cons.1 hg with rfl | hg'
    · rfl
    · exact absurd (by rw [h]; exact List.mem_map_of_mem hg') hn.1
    · exact absurd (by rw [← h]; exact List.mem_map_of_mem hf') hn.1
    · exact ih hn.2 hf' hg'
theorem getF_mem {l : List Fl} (hn : (l.map Fl.name).Nodup) {f : Fl} (hf : f ∈ l) : getF l f.name = some f := by
  cases h : getF l f.name with
  | none => exact absurd rfl (getF_none h f hf)
  | some g =>
    obtain ⟨h1, h2⟩ := getF_some h
    rw [mem_name hn h1 hf h2]
theorem fl_nodup {l : List Fl} (hn : (l.map Fl.name).Nodup) : l.Nodup := by
  rw [List.nodup_iff_pairwise_ne] at hn ⊢
  rw [List.pairwise_map] at hn
  exact hn.imp fun {f g} h e => h (by rw [e])
theorem fl_perm {l m : List Fl} (hl : (l.map Fl.name).Nodup) (hm : (m.map Fl.name).Nodup) (h : ∀ f, f ∈ l ↔ f ∈ m) : l.Perm m := (List.perm_ext_iff_of_nodup (fl_nodup hl) (fl_nodup hm)).2 h
theorem len_putF {x : Fl} {l : List Fl} (hr : l.Pairwise fun f g => f.name < g.name) : (putF x l).length = if (getF l x.name).isNone = true then l.length + 1 else l.length := by
  have hn : (l.map Fl.name).Nodup := by
    rw [List.nodup_iff_pairwise_ne, List.pairwise_map]
    exact hr.imp fun {f g} hlt (he : f.name = g.name) => lt_irrefl' f.name (by rw [← he] at hlt; exact hlt)
  have hn2 : ((putF x l).map Fl.name).Nodup := by
    rw [List.nodup_iff_pairwise_ne, List.pairwise_map]
    exact (rise_putF hr).imp fun {f g} hlt (he : f.name = g.name) => lt_irrefl' f.name (by rw [← he] at hlt; exact hlt)
  have hp : (putF x l).Perm (x :: dropF x.name l) := by
    refine fl_perm hn2 ?_ fun f => ?_
    · simp only [List.map_cons, List.nodup_cons]
      refine ⟨fun h => ?_, ?_⟩
      · obtain ⟨g, hg, he⟩ := List.mem_map.1 h
        exact (mem_dropF.1 hg).2 he
      · exact List.Sublist.nodup ((List.filter_sublist).map _) hn
    · rw [mem_putF, List.mem_cons, mem_dropF]
  rw [hp.length_eq, List.length_cons]
  cases h : getF l x.name with
  | none =>
    have : dropF x.name l = l := by
      unfold dropF
      rw [List.filter_eq_self]
      intro f hf
      simpa using getF_none h f hf
    simp [this]
  | some f =>
    obtain ⟨h1, h2⟩ := getF_some h
    have hq : l.Perm (f :: dropF x.name l) := by
      refine fl_perm hn ?_ fun g => ?_
      · simp only [List.map_cons, List.nodup_cons]
        refine ⟨fun h => ?_, List.Sublist.nodup ((List.filter_sublist).map _) hn⟩
        obtain ⟨g, hg, he⟩ := List.mem_map.1 h
        exact (mem_dropF.1 hg).2 (he.trans h2)
      · rw [List.mem_cons, mem_dropF]
        constructor
        · intro hg
          by_cases e : g.name = x.name
          · exact .inl (mem_name hn hg h1 (e.trans h2.symm))
          · exact .inr ⟨hg, e⟩
        · rintro (rfl | h3)
          · exact h1
          · exact h3.1
    have := hq.length_eq
    simp at this ⊢
    omega
end Go.Proofs.YtnegdinonfjdfaaDoor.Q
