/- A part of the proof: Cr, Cs, Ct, Cx, Cy, Tw, Ld. -/
import Derived.Test.YtplhelapcpcncaaMd6
import Derived.Test.YtplhelapcpcncaaMd5
import Derived.Test.YtplhelapcpcncaaMd4
/- A module that is read; a constant. -/
set_option linter.unusedVariables false
set_option linter.unusedSimpArgs false
set_option maxRecDepth 100000
namespace Go.Proofs.Ytplhelapcpcncaa.Q
open Go Go.RowKit Go.Proofs
/-! ### What is read -/
def rdA {α : Type} (g : RS → α × RS) : Nat → RS → List α × RS
  | 0, s => ([], s)
  | n + 1, s => if (rdA g n s).2.2 = true then rdA g n s else ((rdA g n s).1 ++ [(g (rdA g n s).2).1], (g (rdA g n s).2).2)
def rdConst (s : RS) : Val × RS :=
  let k := numS s.1 s.2
  let a := numS k.2.1 k.2.2
  if k.1 = 1 then
    let b := numS a.2.1 a.2.2
    (.mk 1 (if a.1 = 1 then -(b.1 : Int) - 1 else (b.1 : Int)) [] [], b.2)
  else if k.1 = 3 then
    let t := bytS a.2.1 a.2.2 (a.1 : Int)
    (.mk 3 0 t.1 [], t.2)
  else (.mk k.1 a.1 [] [], a.2)
def rdIns (s : RS) : Ins × RS :=
  let a := numS s.1 s.2
  let b := numS a.2.1 a.2.2
  (⟨a.1, b.1⟩, b.2)
def rdFun (s : RS) : Fun × RS :=
  let a := numS s.1 s.2
  let b := numS a.2.1 a.2.2
  let c := numS b.2.1 b.2.2
  let d := numS c.2.1 c.2.2
  let n := numS d.2.1 d.2.2
  let p := rdA rdIns n.1 n.2
  (⟨a.1, b.1, c.1, d.1, p.1⟩, p.2)
def rdMdl (bs : List UInt8) : Mdl × RS :=
  let c := numS bs false
  let f := numS c.2.1 c.2.2
  let p := rdA rdConst c.1 f.2
  let q := rdA rdFun f.1 p.2
  (⟨p.1, q.1⟩, q.2)
open Classical in
noncomputable def decM (bs : List UInt8) (st : Int) : Mdl × Int :=
  if (rdMdl bs).2.2 = false ∧ (rdMdl bs).2.1 = [] then
    if MdlOk (rdMdl bs).1 st then if encM (rdMdl bs).1 = bs then ((rdMdl bs).1, 0) else (⟨[], []⟩, 11) else (⟨[], []⟩, 40)
  else (⟨[], []⟩, 11)
/-- Each reading takes something, or it is the last one. -/
def Eats {α : Type} (g : RS → α × RS) : Prop := ∀ s : RS, s.2 = false → ((g s).2.2 = false → (g s).2.1.length < s.1.length) ∧ (g s).2.1.length ≤ s.1.length
/-! ### Cells of one's own -/
theorem cell_set {σ : St} {o j : Nat} {c : List V} (h : IsV σ o c) (hj : j < c.length) {t : TypeId} (ht : sizeT Try.prog t = some 1) {v : V} (hv : one v = true) : ∃ σ', vstore Try.prog σ t (.optr o j) v = some σ' ∧ IsV σ' o (c.set j v) ∧ KeepX o σ σ' ∧ σ'.objs.length = σ.objs.length := by
  obtain ⟨σ', hs⟩ : ∃ σ' : St, σ' = ⟨σ.objs.set o (.cells (c.set j v)), σ.toks⟩ := ⟨_, rfl⟩
  obtain ⟨k, hk⟩ := KeepX.set_eq h hs
  exact ⟨σ', by rw [vstore_obj h ht hv hj, hs], hk, k, by rw [hs]; simp⟩
theorem cell_all {σ : St} {o : Nat} {c c' : List V} (h : IsV σ o c) {t : TypeId} (ht : sizeT Try.prog t = some c'.length) (hl : c'.length = c.length) (h1 : c'.all one = true) : ∃ σ', vstore Try.prog σ t (.optr o 0) (.agg c') = some σ' ∧ IsV σ' o c' ∧ KeepX o σ σ' ∧ σ'.objs.length = σ.objs.length := by
  obtain ⟨σ', hs⟩ : ∃ σ' : St, σ' = ⟨σ.objs.set o (.cells c'), σ.toks⟩ := ⟨_, rfl⟩
  obtain ⟨k, hk⟩ := KeepX.set_eq h hs
  exact ⟨σ', by rw [vstore_agg (cs' := c') h ht hl h1, hs], hk, k, by rw [hs]; simp⟩
theorem cell_new (σ : St) (z : List V) : ∃ σ', σ' = (⟨σ.objs ++ [Ob.cells z], σ.toks⟩ : St) ∧ IsV σ' σ.objs.length z ∧ Keep σ σ' ∧ σ'.objs.length = σ.objs.length + 1 := by
  refine ⟨_, rfl, push_new _ _, (Keep.refl σ).push _, by simp⟩
theorem IsV.x {σ σ' : St} {o q : Nat} {c : List V} (h : IsV σ o c) (hk : KeepX q σ σ') (hne : o ≠ q) : IsV σ' o c := hk.1 _ _ hne h
theorem Rdr.lt {σ : St} {r : Nat} {bs : List UInt8} {bad : Bool} (h : Rdr σ r bs bad) : r < σ.objs.length := by
  obtain ⟨v, hv, _⟩ := h
  exact (List.getElem?_eq_some_iff.1 hv).1
theorem IsV.lt {σ : St} {o : Nat} {c : List V} (h : IsV σ o c) : o < σ.objs.length := (List.getElem?_eq_some_iff.1 h).1
end Go.Proofs.Ytplhelapcpcncaa.Q

/- Decode, the program's. -/
set_option linter.unusedVariables false
set_option linter.unusedSimpArgs false
set_option maxRecDepth 100000
namespace Go.Proofs.Ytplhelapcpcncaa.Q
open Go Go.RowKit Go.Proofs
theorem CVRT : RowT Try.prog 22 29 4 56 := ⟨VT22, VS24, ⟨_, VZ24, rfl⟩, by kernel_rfl, by omega⟩
theorem NRT : RowT Try.prog 35 39 2 16 := ⟨NT, NS, ⟨_, NZ, rfl⟩, by kernel_rfl, by omega⟩
theorem MZ' : zeroT Try.prog 25 = some (.agg [.nils, .nils]) := by kernel_rfl
theorem VsS : sizeT Try.prog 22 = some 1 := by kernel_rfl
theorem FsS : sizeT Try.prog 23 = some 1 := by kernel_rfl
theorem NsS : sizeT Try.prog 35 = some 1 := by kernel_rfl
theorem cbuild1V {c : List V} (hc : c.length = 4) : vbuildSlice Try.prog 22 1 [(0, .agg c)] = some (.slice .exact 4 c 1) := by
  obtain ⟨a, b, d, e, rfl⟩ : ∃ a b d e, c = [a, b, d, e] := by
    match c, hc with
    | [a, b, d, e], _ => exact ⟨a, b, d, e, rfl⟩
  kernel_rfl
theorem ValsC.snoc' : ∀ {l : List Val} {cs : List V} {v : Val} {c : List V}, ValsC l cs → ValC v c → ValsC (l ++ [v]) (cs ++ c)
  | [], _, v, c, .nil, h => by have := ValsC.cons h .nil; simpa using this
  | a :: l, _, v, c, .cons (c := c1) (cs := cs1) h1 h2, h => by
    rw [List.append_assoc]
    exact .cons h1 (ValsC.snoc' h2 h)
theorem OwnR.vals' {m : Nat} {σ : St} {w : V} {cs : List V} {l : List Val} (h : OwnR 29 4 m σ w cs l.length) (hc : ValsC l cs) : ValsW l w := by
  rcases h.2 with ⟨rfl, h0⟩ | ⟨p, rfl, _⟩
  · have : l = [] := List.length_eq_zero_iff.1 h0
    subst this
    exact .nil
  · exact .row hc
theorem OwnR.one' {e k m n : Nat} {σ : St} {v : V} {cs : List V} (h : OwnR e k m σ v cs n) : one v = true := h.row.one
def FunsC (l : List Fun) (cs : List V) : Prop := cs.length = l.length * 5 ∧ ∀ (i : Nat) (h : i < l.length) (τ : St), FunS τ l[i] ((cs.drop (i * 5)).take 5)
theorem FunsC.snoc {l : List Fun} {cs : List V} {f : Fun} {c : List V} (h : FunsC l cs) (hf : ∀ τ, FunS τ f c) (hc : c.length = 5) : FunsC (l ++ [f]) (cs ++ c) := by
  obtain ⟨h1, h2⟩ := h
  refine ⟨by simp [h1, hc]; omega, fun i hi τ => ?_⟩
  simp only [List.length_append, List.length_cons, List.length_nil] at hi
  rcases Nat.lt_or_ge i l.length with hlt | hge
  · rw [List.getElem_append_left hlt, List.drop_append_of_le_length (by omega), List.take_append_of_le_length (by rw [List.length_drop]; omega)]
    exact h2 i hlt τ
  · have : i = l.length := by omega
    subst this
    rw [List.getElem_append_right (Nat.le_refl _), ← h1, List.drop_left, ← hc, List.take_length]
    simpa using hf τ
theorem FunsC.row {l : List Fun} {cs : List V} {w : V} {e m : Nat} {σ : St} (h : FunsC l cs) (ho : OwnR e 5 m σ w cs l.length) (τ : St) : FunsS τ w l := ⟨cs, .inl ho.row, fun i hi => h.2 i hi τ⟩
/-! ### What is read is small -/
end Go.Proofs.Ytplhelapcpcncaa.Q

set_option linter.unusedVariables false
set_option linter.unusedSimpArgs false
set_option maxRecDepth 100000
namespace Go.Proofs.Ytplhelapcpcncaa.Q
open Go Go.RowKit Go.Proofs
theorem Rdr.objs {σ σ' : St} {r : Nat} {bs : List UInt8} {bad : Bool} (h : Rdr σ r bs bad) (ho : σ'.objs = σ.objs) : Rdr σ' r bs bad := let ⟨v, h1, h2⟩ := h; ⟨v, by rw [ho]; exact h1, h2⟩
theorem IsV.objs {σ σ' : St} {o : Nat} {c : List V} (h : IsV σ o c) (ho : σ'.objs = σ.objs) : IsV σ' o c := by unfold IsV; rw [ho]; exact h
end Go.Proofs.Ytplhelapcpcncaa.Q

/- A copy of a module, in new memory. -/
set_option linter.unusedVariables false
set_option linter.unusedSimpArgs false
set_option maxRecDepth 100000
namespace Go.Proofs.Ytplhelapcpcncaa.Q
open Go Go.RowKit Go.Proofs
theorem CB3 (k n : Int) (t : List UInt8) : vbuild Try.prog 29 [(0, .int .i64 k), (1, .int .i64 n), (2, .str t)] = some (.agg [.int .i64 k, .int .i64 n, .str t, .nils]) := by kernel_rfl
/-- A value without parts. -/
theorem valcopy_does {σ : St} {v : Val} {c : List V} (hv : ValC v c) (hl : listV v = []) : ∃ c' σ', Does Try.prog prims 48 [.agg c] σ (.ret (.agg c')) σ' ∧ Keep σ σ' ∧ ValC v c' := by
  have key : ∃ q σ', Does Try.prog prims 48 [.agg c] σ q σ' ∧ ∃ c', q = .ret (.agg c') ∧ Keep σ σ' ∧ ValC v c' := by
    apply k48_is.does (by simp)
    obtain ⟨k, n, t, l, w, rfl, rfl, hw, ik, im⟩ := hv.inv
    have hl : l = [] := hl
    subst hl
    obtain ⟨s1, hs1, i1, k1, l1⟩ := cell_new σ [.int .i64 k, .int .i64 n, .str t, w]
    obtain ⟨s2, hs2, i2, k2, l2⟩ := cell_new s1 val0C
    obtain ⟨s3, hs3, i3, k3, l3⟩ := cell_new s2 val0C
    obtain ⟨s4, st4, i4, k4, l4⟩ := cell_all i3 (t := 29) (c' := [.int .i64 k, .int .i64 n, .str t, .nils]) VS24 rfl rfl
    have j1 := (k3.atV (k2.atV i1)).x k4 (by omega)
    have j2 := (k3.atV i2).x k4 (by omega)
    obtain ⟨s5, st5, i5, k5, l5⟩ := cell_all j2 (t := 29) (c' := [.int .i64 k, .int .i64 n, .str t, .nils]) VS24 rfl rfl
    have n2 := (k2.atV i1).num
    have t2 := (k2.atV i1).text
    have kd2 := (k2.atV i1).kind
    simp only [k48_a, WK, vop, evAll, evOpt, evParts, vbuiltin, vun, vextract, Nat.reduceLT, Nat.reduceEqDiff, ↓reduceIte, reduceCtorEq, Nat.reduceAdd, Int.reduceLT, Int.reduceNeg, valloc_std, noSB, vhot, List.getD_cons_zero, VZ24, vbox, vcells, ← hs1, ← hs2, FV0, FV1, FV2, kd2, n2, t2, CB3, ← hs3, st4, FV3, j1.list, hw.len]
    refine Ev.loopF (fun (i : Nat) e σ' => e 16 = .int .i64 (i : Nat) ∧ i = 0 ∧ σ' = s4) (fun i => 1 - i) 0 ⟨by simp [upd_some], rfl, rfl⟩ ?_
    rintro i e σ' ⟨h16, rfl, rfl⟩ hfr
    have g2 : e 2 = .optr s1.objs.length 0 := (hfr 2 (by decide)).trans (by simp [upd_some])
    have g3 : e 3 = .optr s2.objs.length 0 := (hfr 3 (by decide)).trans (by simp [upd_some])
    have g15 : e 15 = .int .i64 (([] : List Val).length : Nat) := (hfr 15 (by decide)).trans (by simp [upd_some])
    clear hfr
    have hlt' : ¬ ((0 : Nat) : Int) < (([] : List Val).length : Nat) := by simp
    simp only [k48_a, WK, vop, evAll, evOpt, evParts, vbuiltin, vun, vextract, Nat.reduceLT, Nat.reduceEqDiff, ↓reduceIte, reduceCtorEq, Nat.reduceAdd, Int.reduceLT, Int.reduceNeg, valloc_std, noSB, vhot, h16, g15, hlt', g2, g3, i4.load (show [V.int .i64 k, V.int .i64 n, V.str t, V.nils].length = 4 from rfl), st5, i5.load (show [V.int .i64 k, V.int .i64 n, V.str t, V.nils].length = 4 from rfl)]
    refine ⟨_, rfl, ?_, .mk ik im .nil⟩
    exact (((k1.trans k2).trans k3).overX2 k4 (by omega)).overX2 k5 (by omega)
  obtain ⟨q, σ', h1, c', rfl, h2⟩ := key
  exact ⟨c', σ', h1, h2⟩
theorem copyall_does {σ : St} {l : List Val} {w : V} (hw : ValsW l w) (hl : ∀ v ∈ l, listV v = []) (hn : l.length ≤ 1000000000) : ∃ w' cs σ', Does Try.prog prims 27 [w] σ (.ret w') σ' ∧ Keep σ σ' ∧ OwnR 29 4 σ.toks.length σ' w' cs l.length ∧ ValsC l cs := by
  have key : ∃ q σ', Does Try.prog prims 27 [w] σ q σ' ∧ ∃ w' cs, q = .ret w' ∧ Keep σ σ' ∧ OwnR 29 4 σ.toks.length σ' w' cs l.length ∧ ValsC l cs := by
    apply k27_is.does (by simp)
    simp only [k27_a, WK, vop, evAll, evOpt, evParts, vbuiltin, vun, vextract, Nat.reduceLT, Nat.reduceEqDiff, ↓reduceIte, reduceCtorEq, Nat.reduceAdd, Int.reduceLT, Int.reduceNeg, valloc_std, noSB, vhot, List.getD_cons_zero, ofVal_nil, hw.len]
    refine Ev.loopF (fun (i : Nat) e σ' => e 8 = .int .i64 (i : Nat) ∧ i ≤ l.length ∧ Keep σ σ' ∧ ∃ cs, OwnR 29 4 σ.toks.length σ' (e 3) cs (l.take i).length ∧ ValsC (l.take i) cs) (fun i => l.length - i) 0 ⟨by simp [upd_some], Nat.zero_le _, Keep.refl _, [], by simpa [upd_some] using OwnR.nil, .nil⟩ ?_
    rintro i e σ' ⟨h8, hi, hk, cs, hO, hC⟩ hfr
    have g6 : e 6 = w := (hfr 6 (by decide)).trans (by simp [upd_some])
    have g7 : e 7 = .int .i64 (l.length : Nat) := (hfr 7 (by decide)).trans (by simp [upd_some])
    clear hfr
    by_cases hlt : i < l.length
    · have hlt' : (i : Int) < (l.length : Nat) := by omega
      have hwi : IntKind.i64.wrap ((i : Int) + 1) = ((i + 1 : Nat) : Int) := by rw [show ((i : Int) + 1) = ((i + 1 : Nat) : Int) from by omega]; exact wrap_nat (by omega)
      obtain ⟨ccs, cv, hva, hvl', hvc⟩ := hw.get hlt
      obtain ⟨s2, hs2⟩ : ∃ s2 : St, s2 = ⟨(σ'.objs ++ [Ob.cells val0C]).set σ'.objs.length (Ob.cells cv), σ'.toks⟩ := ⟨_, rfl⟩
      have q2 : IsV s2 σ'.objs.length cv := by rw [hs2]; exact IsV.made
      have k2 : Keep σ' s2 := by rw [hs2]; exact (Keep.refl σ').madeV _ _
      have st2 := IsV.new (σ := σ') (o := val0C) hvc.len rfl hvc.one
      rw [← hs2] at st2
      obtain ⟨cv', s3, d3, k3, v3⟩ := valcopy_does (σ := s2) hvc (hl _ (List.getElem_mem hlt))
      have hk3 := (hk.trans k2).trans k3
      have O3 := (hO.keep k2.2.2).keep k3.2.2
      obtain ⟨w', s4, ap4, O4, k4, _⟩ := O3.append CVRT rfl hk3 (t2 := 22) (y := .slice .exact 4 cv' 1) (ys := cv') (l := 1) (by simp [vnews, VT22]) v3.len v3.one (by rw [List.length_take]; omega) (by rw [List.length_take]; omega)
      simp only [k27_a, WK, vop, evAll, evOpt, evParts, vbuiltin, vun, vextract, Nat.reduceLT, Nat.reduceEqDiff, ↓reduceIte, reduceCtorEq, Nat.reduceAdd, Int.reduceLT, Int.reduceNeg, valloc_std, noSB, vhot, h8, g6, g7, hlt', hva, hvl', VZ24, vbox, vcells, st2, q2.load hvc.len]
      refine KD.ret d3 ?_
      simp only [k27_a, WK, vop, evAll, evOpt, evParts, vbuiltin, vun, vextract, Nat.reduceLT, Nat.reduceEqDiff, ↓reduceIte, reduceCtorEq, Nat.reduceAdd, Int.reduceLT, Int.reduceNeg, valloc_std, noSB, vhot, cbuild1V v3.len, ap4, h8, hwi]
      refine ⟨i + 1, ⟨by simp [upd_some], by omega, k4, cs ++ cv', ?_, ?_⟩, by omega⟩
      · rw [List.length_take, Nat.min_eq_left (by omega)] at O4 ⊢
        simpa [upd_some] using O4
      · rw [List.take_succ_eq_append_getElem hlt]; exact hC.snoc' v3
    · have hlt' : ¬ (i : Int) < (l.length : Nat) := by omega
      have : i = l.length := by omega
      subst this
      rw [List.take_length] at hO hC
      simp only [k27_a, WK, vop, evAll, evOpt, evParts, vbuiltin, vun, vextract, Nat.reduceLT, Nat.reduceEqDiff, ↓reduceIte, reduceCtorEq, Nat.reduceAdd, Int.reduceLT, Int.reduceNeg, valloc_std, noSB, vhot, h8, g7, hlt']
      exact ⟨e 3, cs, rfl, hk, hO, hC⟩
  obtain ⟨q, σ', h1, w', cs, rfl, h2⟩ := key
  exact ⟨w', cs, σ', h1, h2⟩
/-! ### Written rows of functions -/
def FunO (T : Nat) (σ : St) (f : Fun) (c : List V) : Prop := ∃ w, c = [.int .i64 f.params, .int .i64 f.locals, .int .i64 f.zero, .int .i64 f.stack, w] ∧ OwnR 39 2 T σ w (f.code.flatMap insC) f.code.length
section
variable {T : Nat}
theorem FunO.keep {σ σ' : St} {f : Fun} {c : List V} (h : FunO T σ f c) (hk : ∀ k, tokLive σ.toks k = true → tokLive σ'.toks k = true) : FunO T σ' f c := let ⟨w, h1, h2⟩ := h; ⟨w, h1, h2.keep hk⟩
theorem FunO.fun {σ : St} {f : Fun} {c : List V} (h : FunO T σ f c) (τ : St) : FunS τ f c := let ⟨w, h1, h2⟩ := h; ⟨w, h1, .inl h2.row⟩
theorem FunO.len {σ : St} {f : Fun} {c : List V} (h : FunO T σ f c) : c.length = 5 := by obtain ⟨w, rfl, _⟩ := h; rfl
theorem FunO.one {σ : St} {f : Fun} {c : List V} (h : FunO T σ f c) : c.all one = true := by
  obtain ⟨w, rfl, h2⟩ := h
  simp only [List.all_cons, List.all_nil, h2.one']
  rfl
def FunOs (T : Nat) (σ : St) (l : List Fun) (cs : List V) : Prop := cs.length = l.length * 5 ∧ cs.all one = true ∧ ∀ (i : Nat) (h : i < l.length), FunO T σ l[i] ((cs.drop (i * 5)).take 5)
theorem FunOs.keep {σ σ' : St} {l : List Fun} {cs : List V} (h : FunOs T σ l cs) (hk : ∀ k, tokLive σ.toks k = true → tokLive σ'.toks k = true) : FunOs T σ' l cs := ⟨h.1, h.2.1, fun i hi => (h.2.2 i hi).keep hk⟩
theorem FunOs.snoc {σ : St} {l : List Fun} {cs : List V} {f : Fun} {c : List V} (h : FunOs T σ l cs) (hf : FunO T σ f c) : FunOs T σ (l ++ [f]) (cs ++ c) := by
  obtain ⟨h1, h0, h2⟩ := h
  have hc := hf.len
  refine ⟨by simp [h1, hc]; omega, by rw [List.all_append, h0, hf.one]; rfl, fun i hi => ?_⟩
  simp only [List.length_append, List.length_cons, List.length_nil] at hi
  rcases Nat.lt_or_ge i l.length with hlt | hge
  · rw [List.getElem_append_left hlt, List.drop_append_of_le_length (by omega), List.take_append_of_le_length (by rw [List.length_drop]; omega)]
    exact h2 i hlt
  · have : i = l.length := by omega
    subst this
    rw [List.getElem_append_right (Nat.le_refl _), ← h1, List.drop_left, ← hc, List.take_length]
    simpa using hf
/-- v is a whole object of these functions, or nothing. -/
def HF (T : Nat) (σ : St) (v : V) (l : List Fun) : Prop := (v = .nils ∧ l = []) ∨ ∃ r cs, v = .hslice r 0 5 l.length ∧ σ.objs[r]? = some (.cells cs) ∧ FunOs T σ l cs
theorem HF.keep {σ σ' : St} {v : V} {l : List Fun} (h : HF T σ v l) (hk : Keep σ σ') : HF T σ' v l := by
  rcases h with h | ⟨r, cs, h1, h2, h3⟩
  · exact .inl h
  · exact .inr ⟨r, cs, h1, hk.1 _ _ h2, h3.keep hk.2.2⟩
theorem HF.row {σ : St} {v : V} {l : List Fun} (h : HF T σ v l) : FunsS σ v l := by
  rcases h with ⟨rfl, rfl⟩ | ⟨r, cs, rfl, h2, h3, h4, h5⟩
  · exact ⟨[], .inl (RowV.nil 5), fun i hi => by simp at hi⟩
  · exact ⟨cs, .inr ⟨h3, r, 0, cs, rfl, h2, by omega, by rw [List.drop_zero, ← h3, List.take_length]⟩, fun i hi => (h5 i hi).fun σ⟩
theorem HF.one {σ : St} {v : V} {l : List Fun} (h : HF T σ v l) : one v = true := by
  rcases h with ⟨rfl, rfl⟩ | ⟨r, cs, rfl, _⟩ <;> rfl
theorem FB56 : (Try.prog.info? 37).map (·.bytes) = some 56 := by kernel_rfl
theorem funlit (σ : St) (a b c d : Int) (w : V) (hw : one w = true) : ∃ σ', vbuildRow Try.prog σ 23 1 [(0, .agg [.int .i64 a, .int .i64 b, .int .i64 c, .int .i64 d, w])] = some (.hslice σ.objs.length 0 5 1, σ') ∧ IsV σ' σ.objs.length [.int .i64 a, .int .i64 b, .int .i64 c, .int .i64 d, w] ∧ Keep σ σ' ∧ σ'.objs.length = σ.objs.length + 1 ∧ σ'.toks = σ.toks := by
  have h : vfill (fun i => some (i * 5, 5)) (zeroCellsV [V.int .i64 0, .int .i64 0, .int .i64 0, .int .i64 0, .nils] (1 * 5)) [(0, .agg [.int .i64 a, .int .i64 b, .int .i64 c, .int .i64 d, w])] = some [.int .i64 a, .int .i64 b, .int .i64 c, .int .i64 d, w] := by kernel_rfl
  obtain ⟨σ', hs⟩ : ∃ σ' : St, σ' = ⟨σ.objs ++ [Ob.cells [.int .i64 a, .int .i64 b, .int .i64 c, .int .i64 d, w]], σ.toks⟩ := ⟨_, rfl⟩
  refine ⟨σ', ?_, by rw [hs]; exact push_new _ _, by rw [hs]; exact (Keep.refl σ).push _, by rw [hs]; simp, by rw [hs]⟩
  rw [hs]
  simp only [vbuildRow, FT, FS, FZ, vcells, h]
  simp
theorem HF.append {σ : St} {v : V} {l : List Fun} {f : Fun} {c : List V} {q : Nat} (h : HF T σ v l) (hq : IsV σ q c) (hf : FunO T σ f c) (hl : l.length ≤ 100000000) :
    ∃ v' σ', vappendRow Try.prog σ 23 23 v (.hslice q 0 5 1) = some (v', σ') ∧ HF T σ' v' (l ++ [f]) ∧ (∀ p o, σ.objs[p]? = some o → (∀ r, v = .hslice r 0 5 l.length → p ≠ r) → σ'.objs[p]? = some o) ∧ σ'.toks = σ.toks ∧ v' = .hslice σ.objs.length 0 5 (l.length + 1) := by
  have hc := hf.len
  have hcc : c.take 5 = c := by rw [← hc, List.take_length]
  have hq' : σ.objs[q]? = some (.cells c) := hq
  have hn : vnewsO Try.prog σ.objs 23 (.hslice q 0 5 1) 5 = some (c, 1) := by
    simp [vnewsO, vnews, FT, hq', hc, hcc]
  have hone := hf.one
  rcases h with ⟨rfl, rfl⟩ | ⟨r, cs, rfl, h2, h3, h4, h5⟩
  · refine ⟨.hslice σ.objs.length 0 5 1, ⟨σ.objs ++ [.cells c], σ.toks⟩, ?_, .inr ⟨σ.objs.length, c, rfl, push_new _ _, ?_⟩, fun p o hp _ => by simp only; rw [List.getElem?_append_left (List.getElem?_eq_some_iff.1 hp).1]; exact hp, rfl, rfl⟩
    · simp [vappendRow, FT, FB56, FS, FZ, vcells, hn]
    · have := FunOs.snoc (σ := σ) (l := []) (cs := []) ⟨rfl, rfl, fun i hi => by simp at hi⟩ hf
      simpa using this.keep (σ' := ⟨σ.objs ++ [.cells c], σ.toks⟩) fun k h => h
  · refine ⟨.hslice σ.objs.length 0 5 (l.length + 1), ⟨σ.objs.set r .dead ++ [.cells (cs ++ c)], σ.toks⟩, ?_, .inr ⟨σ.objs.length, cs ++ c, by simp, ?_, ?_⟩, fun p o hp hr => ?_, rfl, rfl⟩
    · have e1 : l.length + 1 ≤ 140737488355328 := by omega
      have e2 : (l.length + 1) * 56 ≤ 140737488355328 := by omega
      have e3 : l.length * 5 ≤ cs.length := by omega
      have e4 : cs.take (l.length * 5) = cs := by rw [← h3, List.take_length]
      simp [vappendRow, FT, FB56, FS, FZ, vcells, hn, h2, e1, e2, e3, e4, hone] at hone ⊢
      first | exact hone | done
    · have := push_new (σ.objs.set r .dead) (Ob.cells (cs ++ c))
      rwa [List.length_set] at this
    · exact (FunOs.snoc ⟨h3, h4, h5⟩ hf).keep fun k h => h
    · have h8 := hr r rfl
      simp only
      rw [List.getElem?_append_left (by rw [List.length_set]; exact (List.getElem?_eq_some_iff.1 hp).1), List.getElem?_set_ne (fun e => h8 e.symm)]
      exact hp
end
theorem ncopy {σ : St} {w : V} {l : List Ins} (hv : RowV 2 w (l.flatMap insC) l.length) (hl : l.length ≤ 1000000000) : ∃ w' σ', vappend Try.prog σ 35 35 (.slice .exact 2 [] 0) w = some (w', σ') ∧ OwnR 39 2 σ.toks.length σ' w' (l.flatMap insC) l.length ∧ Keep σ σ' ∧ σ'.objs = σ.objs := by
  have ho : OwnR 39 2 σ.toks.length σ (.slice .exact 2 [] 0) [] 0 := ⟨by simp, .inr ⟨_, rfl, .inl rfl⟩⟩
  have hn : vnews Try.prog 35 w 2 = some (l.flatMap insC, l.length) := by
    rcases hv.2 with ⟨rfl, h0⟩ | ⟨p, rfl⟩
    · have : l = [] := List.length_eq_zero_iff.1 h0
      subst this
      simp [vnews, NT]
    · simp [vnews, NT]
  have h1 : (l.flatMap insC).all one = true := by
    rw [List.all_eq_true]
    intro v hv
    rw [List.mem_flatMap] at hv
    obtain ⟨i, _, hi⟩ := hv
    simp only [insC, List.mem_cons, List.not_mem_nil, or_false] at hi
    rcases hi with rfl | rfl <;> rfl
  obtain ⟨v', σ', ha, ho', hk, hob⟩ := ho.append NRT rfl (Keep.refl σ) hn (flat_len insC_len l) h1 (by omega) (by omega)
  rw [List.nil_append, Nat.zero_add] at ho'
  exact ⟨v', σ', ha, ho', hk, hob⟩
theorem row0 {k n : Nat} {w : V} {cs : List V} (h : RowS ⟨[], []⟩ k w cs n) : RowV k w cs n := by
  rcases h with h | ⟨_, r, off, c, _, h, _⟩
  · exact h
  · simp at h
theorem keep0 (σ : St) : Keep ⟨[], []⟩ σ := ⟨fun r o h => by simp at h, Nat.zero_le _, fun k h => by simp [tokLive] at h⟩
theorem NB0 : vbuildSlice Try.prog 35 0 [] = some (.slice .exact 2 [] 0) := by kernel_rfl
theorem MBc {w : V} (h : one w = true) : vbuild Try.prog 25 [(0, w)] = some (.agg [w, .nils]) := by
  cases w <;> first | (cases h; done) | kernel_rfl
theorem copy_does {σ : St} {m : Mdl} {c : List V} {B : Nat} (hm : MdlS ⟨[], []⟩ m c) (hM : MIn m B) (hB : B ≤ 10000000) (hl : ∀ v ∈ m.consts, listV v = []) :
    ∃ w1 w2 cs T σ', (∀ q e k c n, w1 = .slice (.tok q e) k c n → q < T) ∧ Does Try.prog prims 14 [.agg c] σ (.ret (.agg [w1, w2])) σ' ∧ Keep σ σ' ∧ OwnR 29 4 σ.toks.length σ' w1 cs m.consts.length ∧ ValsC m.consts cs ∧ HF T σ' w2 m.funcs ∧ ∀ r, w2 = .hslice r 0 5 m.funcs.length → σ.objs.length ≤ r := by
  have key : ∃ q σ', Does Try.prog prims 14 [.agg c] σ q σ' ∧ ∃ w1 w2 cs T, q = .ret (.agg [w1, w2]) ∧ (∀ q e k c n, w1 = .slice (.tok q e) k c n → q < T) ∧ Keep σ σ' ∧ OwnR 29 4 σ.toks.length σ' w1 cs m.consts.length ∧ ValsC m.consts cs ∧ HF T σ' w2 m.funcs ∧ ∀ r, w2 = .hslice r 0 5 m.funcs.length → σ.objs.length ≤ r := by
    apply k14_is.does (by simp)
    obtain ⟨u1, u2, rfl, hv, hf⟩ := hm
    have hfl := hM.fl
    obtain ⟨s1, hs1, i1, k1, l1⟩ := cell_new σ [u1, u2]
    obtain ⟨s2, hs2, i2, k2, l2⟩ := cell_new s1 [V.nils, .nils]
    obtain ⟨w1, cs, s3, d3, k3, O3, C3⟩ := copyall_does (σ := s2) hv hl (by have := weights_len m.consts; have := hM.cw; omega)
    obtain ⟨s4, hs4, i4, k4, l4⟩ := cell_new s3 [V.nils, .nils]
    obtain ⟨s5, st5, i5, k5, l5⟩ := cell_all i4 (t := 25) (c' := [w1, .nils]) MS rfl (by simp only [List.all_cons, List.all_nil, O3.one']; rfl)
    obtain ⟨T, hT⟩ : ∃ T, T = s3.toks.length := ⟨_, rfl⟩
    have hq1 : ∀ q e k c n, w1 = .slice (.tok q e) k c n → q < T := by
      intro q e k c n h
      subst h
      rcases O3.2 with ⟨h, _⟩ | ⟨p, h, h2⟩
      · cases h
      · injection h with h
        rcases h2 with rfl | ⟨q', rfl, h3, _⟩
        · cases h
        · injection h with h; subst h; rw [hT]; exact tokLive_lt h3
    have hl23 : s2.objs.length ≤ s3.objs.length := by
      apply Nat.le_of_not_lt
      intro hlt
      have h1 := k3.1 s3.objs.length _ (List.getElem?_eq_getElem hlt)
      have := (List.getElem?_eq_some_iff.1 h1).1
      omega
    have k15 : Keep s1 s5 := ((k2.trans k3).trans k4).overX2 k5 (by omega)
    have kσ5 : Keep σ s5 := k1.trans k15
    have j1 := k15.atV i1
    have j2 := ((k4.atV (k3.atV i2)).x k5 (by omega))
    have O5 : OwnR 29 4 σ.toks.length s5 w1 cs m.consts.length := ((O3.keep k4.2.2).keep k5.2.2).low (by have := k1.2.1; have := k2.2.1; omega)
    have ld1 : vload Try.prog s2.objs 22 (.optr σ.objs.length 0) = some u1 := by rw [vload_obj (k2.atV i1) VsG]; rfl
    have ld2 : vload Try.prog s5.objs 23 (.optr σ.objs.length 1) = some u2 := by rw [vload_obj j1 FsG]; rfl
    have lf : vlen Try.prog 23 u2 = some (.int .i64 (m.funcs.length : Nat)) := by obtain ⟨cs, hr, _⟩ := hf; exact hr.len FT
    simp only [k14_a, WK, vop, evAll, evOpt, evParts, vbuiltin, vun, vextract, Nat.reduceLT, Nat.reduceEqDiff, ↓reduceIte, reduceCtorEq, Nat.reduceAdd, Int.reduceLT, Int.reduceNeg, valloc_std, noSB, vhot, List.getD_cons_zero, vbox, vcells, ← hs1, MZ', ← hs2, MF0, ld1]
    refine KD.ret d3 ?_
    simp only [k14_a, WK, vop, evAll, evOpt, evParts, vbuiltin, vun, vextract, Nat.reduceLT, Nat.reduceEqDiff, ↓reduceIte, reduceCtorEq, Nat.reduceAdd, Int.reduceLT, Int.reduceNeg, valloc_std, noSB, vhot, MBc O3.one', MZ', vbox, vcells, ← hs4, st5, MF1, ld2, lf]
    refine Ev.loopF (fun (i : Nat) e σ' => e 13 = .int .i64 (i : Nat) ∧ i ≤ m.funcs.length ∧ Keep σ σ' ∧ (Keep s1 σ' ∧ s3.toks.length ≤ σ'.toks.length) ∧ IsV σ' s1.objs.length [.nils, .nils] ∧ OwnR 29 4 σ.toks.length σ' w1 cs m.consts.length ∧ ∃ v, IsV σ' s3.objs.length [w1, v] ∧ HF T σ' v (m.funcs.take i) ∧ ∀ r, v = .hslice r 0 5 (m.funcs.take i).length → s3.objs.length < r) (fun i => m.funcs.length - i) 0 ⟨by simp [upd_some], Nat.zero_le _, kσ5, ⟨k15, Nat.le_trans k4.2.1 k5.2.1⟩, j2, O5, .nils, i5, .inl ⟨rfl, rfl⟩, fun r h => by cases h⟩ ?_
    rintro i e sb ⟨h13, hi, hk, ⟨hk1, hk3⟩, hR, hO, v, hM3, hH, hvr⟩ hfr
    have g2 : e 2 = .optr s1.objs.length 0 := (hfr 2 (by decide)).trans (by simp [upd_some])
    have g3 : e 3 = .optr s3.objs.length 0 := (hfr 3 (by decide)).trans (by simp [upd_some])
    have g11 : e 11 = u2 := (hfr 11 (by decide)).trans (by simp [upd_some])
    have g12 : e 12 = .int .i64 (m.funcs.length : Nat) := (hfr 12 (by decide)).trans (by simp [upd_some])
    clear hfr
    by_cases hlt : i < m.funcs.length
    · have hlt' : (i : Int) < (m.funcs.length : Nat) := by omega
      have hwi : IntKind.i64.wrap ((i : Int) + 1) = ((i + 1 : Nat) : Int) := by rw [show ((i : Int) + 1) = ((i + 1 : Nat) : Int) from by omega]; exact wrap_nat (by omega)
      obtain ⟨p, cf, hp, hFS, hpl⟩ := fun_load hf hlt
      obtain ⟨f, hfe⟩ : ∃ f, f = m.funcs[i] := ⟨_, rfl⟩
      have hcb : f.code.length ≤ B := by rw [hfe]; exact (hM.fi _ (List.getElem_mem hlt)).2.2.2.2.1
      rw [← hfe] at hFS
      obtain ⟨wc, rfl, hC⟩ := hFS
      have hwc1 := RowS.one hC
      have hm3 := hM3.lt
      have hr3 := hR.lt
      obtain ⟨a1, ha1, q1, ka1, la1⟩ := cell_new sb [.int .i64 0, .int .i64 0, .int .i64 0, .int .i64 0, .nils]
      obtain ⟨a2, st2, q2, ka2, la2⟩ := cell_all q1 (t := 37) (c' := [.int .i64 f.params, .int .i64 f.locals, .int .i64 f.zero, .int .i64 f.stack, wc]) FS rfl (by simp only [List.all_cons, List.all_nil, hwc1]; rfl)
      have kb2 : Keep sb a2 := ka1.overX2 ka2 (Nat.le_refl _)
      have ldc : vload Try.prog a2.objs 35 (.optr sb.objs.length 4) = some wc := by rw [vload_obj q2 NsG]; rfl
      obtain ⟨w5, a3, ap3, O3', ka3, ob3⟩ := ncopy (σ := a2) (row0 hC) (by omega)
      have q3 := q2.objs ob3
      obtain ⟨a4, st4, q4, ka4, la4⟩ := cell_set q3 (j := 4) (by simp) (t := 35) NsS (v := w5) O3'.one'
      simp only [List.set_cons_succ, List.set_cons_zero] at q4
      have hl3 : a3.objs.length = a2.objs.length := by rw [ob3]
      have kb4 : Keep sb a4 := (kb2.trans ka3).overX2 ka4 (Nat.le_refl _)
      have ldf : vload Try.prog a4.objs 37 (.optr sb.objs.length 0) = some (.agg [.int .i64 f.params, .int .i64 f.locals, .int .i64 f.zero, .int .i64 f.stack, w5]) := vload_agg q4 FG FS
      have M4 := kb4.atV hM3
      have ldv : vload Try.prog a4.objs 23 (.optr s3.objs.length 1) = some v := by rw [vload_obj M4 FsG]; rfl
      obtain ⟨a5, lit5, q5, ka5, la5, ta5⟩ := funlit a4 f.params f.locals f.zero f.stack w5 O3'.one'
      have hfo : FunO T a5 f [.int .i64 f.params, .int .i64 f.locals, .int .i64 f.zero, .int .i64 f.stack, w5] := ⟨w5, rfl, ((O3'.keep ka4.2.2).keep ka5.2.2).low (by rw [hT]; have := kb2.2.1; omega)⟩
      have kb5 := kb4.trans ka5
      obtain ⟨v', a6, ap6, H6, K6, t6, hv6⟩ := (hH.keep kb5).append q5 hfo (by rw [List.length_take]; omega)
      have k6t : ∀ k, tokLive a5.toks k = true → tokLive a6.toks k = true := fun k h => by rw [t6]; exact h
      have M6 : IsV a6 s3.objs.length [w1, v] := K6 _ _ (ka5.atV M4) (fun r hr => by have := hvr r hr; omega)
      have R6 : IsV a6 s1.objs.length [.nils, .nils] := K6 _ _ (kb5.atV hR) (fun r hr => by have := hvr r hr; omega)
      have keepTo : ∀ s0, Keep s0 sb → s0.objs.length ≤ s3.objs.length → Keep s0 a6 := fun s0 hs hl0 => ⟨fun p o hp => K6 p o ((hs.trans kb5).1 p o hp) (fun r hr => by have := hvr r hr; have := (List.getElem?_eq_some_iff.1 hp).1; omega), by rw [t6]; exact (hs.trans kb5).2.1, fun k h => k6t k ((hs.trans kb5).2.2 k h)⟩
      obtain ⟨a7, st7, q7, ka7, la7⟩ := cell_set M6 (j := 1) (by simp) (t := 23) FsS (v := v') H6.one
      simp only [List.set_cons_succ, List.set_cons_zero] at q7
      simp only [k14_a, WK, vop, evAll, evOpt, evParts, vbuiltin, vun, vextract, Nat.reduceLT, Nat.reduceEqDiff, ↓reduceIte, reduceCtorEq, Nat.reduceAdd, Int.reduceLT, Int.reduceNeg, valloc_std, noSB, vhot, h13, g11, g12, hlt', hp, hpl sb (keep0 sb), FZ, vbox, vcells, ← ha1, st2, NB0, FF4', ldc, ap3, st4, g3, MF1, ldv, ldf, lit5, ap6, st7, hwi]
      have htk : (m.funcs.take (i + 1)) = m.funcs.take i ++ [f] := by rw [List.take_succ_eq_append_getElem hlt, hfe]
      have hv6l : a5.objs.length = sb.objs.length + 2 := by rw [la5, la4, hl3, la2, la1]
      refine ⟨i + 1, ⟨by simp [upd_some], by omega, (keepTo σ hk (by omega)).overX2 ka7 (by omega), ⟨(keepTo s1 hk1 (by omega)).overX2 ka7 (by omega), Nat.le_trans hk3 (Nat.le_trans kb5.2.1 (Nat.le_trans (by rw [t6]; exact Nat.le_refl _) ka7.2.1))⟩, R6.x ka7 (by omega), ?_, v', q7, ?_, ?_⟩, by omega⟩
      · exact ((hO.keep kb5.2.2).keep k6t).keep ka7.2.2
      · rw [htk]
        rcases H6 with ⟨h1, h2⟩ | ⟨r, cs', h1, h2, h3⟩
        · rw [hv6] at h1; cases h1
        · rw [hv6] at h1
          injection h1 with h1
          subst h1
          exact .inr ⟨_, cs', by rw [hv6]; simp, ka7.1 _ _ (by omega) h2, h3.keep ka7.2.2⟩
      · intro r hr
        rw [hv6] at hr
        injection hr with hr
        omega
    · have hlt' : ¬ (i : Int) < (m.funcs.length : Nat) := by omega
      have : i = m.funcs.length := by omega
      subst this
      rw [List.take_length] at hH hvr
      have hm3 := hM3.lt
      have hr3 := hR.lt
      have ld3 : vload Try.prog sb.objs 25 (.optr s3.objs.length 0) = some (.agg [w1, v]) := vload_agg hM3 MG MS
      obtain ⟨sc, stc, qc, kc, lc⟩ := cell_all hR (t := 25) (c' := [w1, v]) MS rfl (by simp only [List.all_cons, List.all_nil, hO.one', hH.one]; rfl)
      simp only [k14_a, WK, vop, evAll, evOpt, evParts, vbuiltin, vun, vextract, Nat.reduceLT, Nat.reduceEqDiff, ↓reduceIte, reduceCtorEq, Nat.reduceAdd, Int.reduceLT, Int.reduceNeg, valloc_std, noSB, vhot, h13, g2, g3, g12, hlt', ld3, stc, vload_agg qc MG MS]
      refine ⟨w1, v, cs, T, rfl, hq1, hk.overX2 kc (by omega), hO.keep kc.2.2, C3, ?_, fun r hr => by have := hvr r hr; omega⟩
      rcases hH with ⟨h1, h2⟩ | ⟨r, cs', h1, h2, h3⟩
      · exact .inl ⟨h1, h2⟩
      · have := hvr r h1
        exact .inr ⟨r, cs', h1, kc.1 _ _ (by omega) h2, h3.keep kc.2.2⟩
  obtain ⟨q, σ', h1, w1, w2, cs, T, rfl, h2, h3⟩ := key
  exact ⟨w1, w2, cs, T, σ', h2, h1, h3⟩
end Go.Proofs.Ytplhelapcpcncaa.Q

/- A module that can be run can be run with more. -/
set_option linter.unusedVariables false
set_option linter.unusedSimpArgs false
set_option maxRecDepth 100000
namespace Go.Proofs.Ytplhelapcpcncaa.Q
open Go Go.RowKit Go.Proofs
theorem lookI_cases {m : Mdl} {st : Int} {n : Nat} {f : Fun} {i : Ins} (h : rightS m st n f i = true) :
    (i.op = 1 ∧ 0 ≤ i.a ∧ i.a < (m.consts.length : Nat)) ∨ ((i.op = 2 ∨ i.op = 3) ∧ 0 ≤ i.a ∧ i.a < f.locals) ∨ ((i.op = 4 ∨ i.op = 5) ∧ 0 ≤ i.a ∧ i.a < st) ∨ ((i.op = 7 ∨ i.op = 8) ∧ 0 ≤ i.a ∧ i.a < (f.code.length : Nat)) ∨ (i.op = 9 ∧ 0 ≤ i.a ∧ i.a < (n : Nat)) ∨ (i.op = 11 ∧ 0 ≤ i.a ∧ i.a < 1099511627777) ∨ (i.op = 12 ∧ 3 ≤ i.a ∧ i.a < 14) ∨ ((i.op = 6 ∨ i.op = 10 ∨ 13 ≤ i.op ∧ i.op ≤ 21) ∧ i.a = 0) := by
  obtain ⟨o, a⟩ := i
  unfold rightS limL at h
  simp only [lookI] at h
  simp only
  by_cases h1 : (1 : Int) = o
  · simp [← h1] at h ⊢; omega
  by_cases h2 : (2 : Int) = o
  · simp [← h2] at h ⊢; omega
  by_cases h3 : (3 : Int) = o
  · simp [← h3] at h ⊢; omega
  by_cases h4 : (4 : Int) = o
  · simp [← h4] at h ⊢; omega
  by_cases h5 : (5 : Int) = o
  · simp [← h5] at h ⊢; omega
  by_cases h7 : (7 : Int) = o
  · simp [← h7] at h ⊢; omega
  by_cases h8 : (8 : Int) = o
  · simp [← h8] at h ⊢; omega
  by_cases h9 : (9 : Int) = o
  · simp [← h9] at h ⊢; omega
  by_cases h11 : (11 : Int) = o
  · simp [← h11] at h ⊢; omega
  by_cases h12 : (12 : Int) = o
  · simp [← h12] at h ⊢; omega
  · simp only [h1, h2, h3, h4, h5, h7, h8, h9, h11, h12, if_false, Bool.and_eq_true, decide_eq_true_eq] at h
    omega
theorem lookI_back {m : Mdl} {st : Int} {n : Nat} {f : Fun} {i : Ins} (h : (i.op = 1 ∧ 0 ≤ i.a ∧ i.a < (m.consts.length : Nat)) ∨ ((i.op = 2 ∨ i.op = 3) ∧ 0 ≤ i.a ∧ i.a < f.locals) ∨ ((i.op = 4 ∨ i.op = 5) ∧ 0 ≤ i.a ∧ i.a < st) ∨ ((i.op = 7 ∨ i.op = 8) ∧ 0 ≤ i.a ∧ i.a < (f.code.length : Nat)) ∨ (i.op = 9 ∧ 0 ≤ i.a ∧ i.a < (n : Nat)) ∨ (i.op = 11 ∧ 0 ≤ i.a ∧ i.a < 1099511627777) ∨ (i.op = 12 ∧ 3 ≤ i.a ∧ i.a < 14) ∨ ((i.op = 6 ∨ i.op = 10 ∨ 13 ≤ i.op ∧ i.op ≤ 21) ∧ i.a = 0)) :
    rightS m st n f i = true := by
  obtain ⟨o, a⟩ := i
  unfold rightS limL
  simp only [lookI]
  simp only at h
  rcases h with ⟨rfl, h⟩ | ⟨rfl | rfl, h⟩ | ⟨rfl | rfl, h⟩ | ⟨rfl | rfl, h⟩ | ⟨rfl, h⟩ | ⟨rfl, h⟩ | ⟨rfl, h⟩ | ⟨h1, h⟩
  all_goals first
    | (simp; omega)
    | (have e : ∀ k : Int, (k = 1 ∨ k = 2 ∨ k = 3 ∨ k = 4 ∨ k = 5 ∨ k = 7 ∨ k = 8 ∨ k = 9 ∨ k = 11 ∨ k = 12) → ¬ k = o := fun k hk => by omega
       rw [if_neg (e 1 (by simp)), if_neg (e 2 (by simp)), if_neg (e 3 (by simp)), if_neg (e 4 (by simp)), if_neg (e 5 (by simp)), if_neg (e 7 (by simp)), if_neg (e 8 (by simp)), if_neg (e 9 (by simp)), if_neg (e 11 (by simp)), if_neg (e 12 (by simp))]
       simp
       omega)
theorem FunOk.more {m m' : Mdl} {st st' : Int} {n : Nat} {f f' : Fun} (h : FunOk m st n f) (hst : st ≤ st') (hc : m.consts.length ≤ m'.consts.length) (h1 : f'.params = f.params) (h2 : f'.locals = f.locals) (h3 : f'.zero = f.zero) (h4 : f'.stack = f.stack)
    {l : List Ins} (hcode : f'.code = f.code ++ l) (hl : ∀ i ∈ l, rightS m' st' n f' i = true) (hlen : f'.code.length ≤ 16384) (hpar : ∀ a : Nat, a < n → (m'.funcs[a]?).map (·.params) = (m.funcs[a]?).map (·.params)) : FunOk m' st' n f' := by
  obtain ⟨hb, hr, g, hg⟩ := h
  have hlen2 : f'.code.length = f.code.length + l.length := by rw [hcode, List.length_append]
  refine ⟨?_, fun i hi => ?_, g, hg.1, fun p x hp => ?_⟩
  · unfold FunBad at hb ⊢
    rw [h1, h2, h3, h4]
    omega
  · rw [hcode, List.mem_append] at hi
    rcases hi with hi | hi
    · refine lookI_back ?_
      rw [h2]
      rcases lookI_cases (hr i hi) with ⟨a, b, c⟩ | h | ⟨a, b, c⟩ | ⟨a, b, c⟩ | h | h | h | h
      · exact .inl ⟨a, b, by omega⟩
      · exact .inr (.inl h)
      · exact .inr (.inr (.inl ⟨a, b, by omega⟩))
      · exact .inr (.inr (.inr (.inl ⟨a, b, by omega⟩)))
      · exact .inr (.inr (.inr (.inr (.inl h))))
      · exact .inr (.inr (.inr (.inr (.inr (.inl h)))))
      · exact .inr (.inr (.inr (.inr (.inr (.inr (.inl h))))))
      · exact .inr (.inr (.inr (.inr (.inr (.inr (.inr h))))))
    · exact hl i hi
  · obtain ⟨i, e1, e2, e3, e4⟩ := hg.2 p x hp
    have hpl := (List.getElem?_eq_some_iff.1 e1).1
    have hpop : popS m' i = popS m i := by
      unfold popS
      by_cases h9 : i.op = 9
      · have hi : i ∈ f.code := by obtain ⟨h5, rfl⟩ := List.getElem?_eq_some_iff.1 e1; exact List.getElem_mem _
        have := right_call (hr i hi) h9
        rw [hpar i.a.toNat (by omega)]
      · simp only [h9, if_false]
    exact ⟨i, by rw [hcode, List.getElem?_append_left hpl]; exact e1, by rw [hpop]; exact e2, by rw [hpop, h4]; exact e3, by rw [hpop]; exact e4⟩
def vtrue : Val := .mk 2 0 [] []
def mMore (m : Mdl) : Mdl := ⟨m.consts ++ [vtrue], m.funcs⟩
def fMore (f : Fun) : Fun := ⟨f.params, f.locals, f.zero, f.stack, f.code ++ [⟨6, 0⟩]⟩
theorem ok_states {m : Mdl} {st more : Int} (h : MdlOk m st) (h0 : 0 ≤ more) (h1 : st + more ≤ 32) : MdlOk m (st + more) := by
  obtain ⟨a, b, c⟩ := h
  refine ⟨by unfold HeadBad at a ⊢; omega, b, fun n hn => ?_⟩
  have hc := (c n hn).1
  exact (c n hn).more (l := []) (by omega) (Nat.le_refl _) rfl rfl rfl rfl (by simp) (by simp) (by unfold FunBad at hc; omega) fun _ _ => rfl
theorem typeC_true : typeC vtrue ≠ [] := by decide
theorem ok_consts {m : Mdl} {st : Int} (h : MdlOk m st) (h1 : m.consts.length + 1 ≤ 16384) : MdlOk (mMore m) st := by
  obtain ⟨a, b, c⟩ := h
  refine ⟨by unfold HeadBad mMore at *; simp only [List.length_append, List.length_cons, List.length_nil]; omega, fun v hv => ?_, fun n hn => ?_⟩
  · rcases List.mem_append.1 hv with hv | hv
    · exact b v hv
    · rw [List.mem_singleton] at hv; subst hv; exact typeC_true
  · have hn' : n < m.funcs.length := hn
    have hc := (c n hn').1
    exact (c n hn').more (m' := mMore m) (l := []) (Int.le_refl _) (by simp [mMore]) rfl rfl rfl rfl (by simp [mMore]) (by simp) (by unfold FunBad at hc; simp only [mMore]; omega) fun _ _ => rfl
theorem ok_instr {m : Mdl} {st : Int} (h : MdlOk m st) {n : Nat} (hn : n < m.funcs.length) (h1 : (m.funcs[n]).code.length + 1 ≤ 16384) : MdlOk ⟨m.consts, m.funcs.set n (fMore m.funcs[n])⟩ st := by
  obtain ⟨a, b, c⟩ := h
  have hpar : ∀ a : Nat, ((m.funcs.set n (fMore m.funcs[n]))[a]?).map (·.params) = (m.funcs[a]?).map (·.params) := by
    intro a
    rw [List.getElem?_set]
    split
    · rename_i e
      subst e
      rw [List.getElem?_eq_getElem hn]
      rfl
    · rfl
  refine ⟨by unfold HeadBad at *; simp only [List.length_set]; omega, b, fun j hj => ?_⟩
  have hj' : j < m.funcs.length := by simpa using hj
  have hc := (c j hj').1
  by_cases e : n = j
  · subst e
    simp only [List.getElem_set_self]
    exact (c n hn).more (m' := ⟨m.consts, m.funcs.set n (fMore m.funcs[n])⟩) (f' := fMore m.funcs[n]) (l := [⟨6, 0⟩]) (Int.le_refl _) (Nat.le_refl _) rfl rfl rfl rfl rfl (fun i hi => by
      rw [List.mem_singleton] at hi; subst hi; exact lookI_back (by simp)) (by simp only [fMore, List.length_append, List.length_cons, List.length_nil]; omega) fun a _ => hpar a
  · simp only [List.getElem_set_ne e]
    exact (c j hj').more (m' := ⟨m.consts, m.funcs.set n (fMore m.funcs[n])⟩) (l := []) (Int.le_refl _) (Nat.le_refl _) rfl rfl rfl rfl (by simp) (by simp) (by unfold FunBad at hc; omega) fun a _ => hpar a
theorem ok_drop {m : Mdl} {st : Int} (h : MdlOk m st) (n : Nat) : MdlOk ⟨m.consts, m.funcs.take n⟩ st := by
  obtain ⟨a, b, c⟩ := h
  refine ⟨by unfold HeadBad at *; simp only [List.length_take]; omega, b, fun j hj => ?_⟩
  simp only [List.length_take] at hj
  have hj' : j < m.funcs.length := by omega
  have hc := (c j hj').1
  simp only [List.getElem_take]
  exact (c j hj').more (m' := ⟨m.consts, m.funcs.take n⟩) (l := []) (Int.le_refl _) (Nat.le_refl _) rfl rfl rfl rfl (by simp) (by simp) (by unfold FunBad at hc; omega) fun a ha => by
    rw [List.getElem?_take, if_pos (by omega)]
/-! ### The last function of a written row -/
variable {T : Nat}
theorem FunOs.take {σ : St} {l : List Fun} {cs : List V} (h : FunOs T σ l cs) (n : Nat) : FunOs T σ (l.take n) (cs.take (n * 5)) := by
  obtain ⟨h1, h2, h3⟩ := h
  refine ⟨by rw [List.length_take, List.length_take, h1]; omega, ?_, fun i hi => ?_⟩
  · rw [List.all_eq_true] at h2 ⊢
    intro x hx
    exact h2 x (List.mem_of_mem_take hx)
  · rw [List.length_take] at hi
    simp only [List.getElem_take]
    have e : (List.drop (i * 5) (List.take (n * 5) cs)).take 5 = (cs.drop (i * 5)).take 5 := by
      rw [List.drop_take, List.take_take, Nat.min_eq_left (by omega)]
    rw [e]
    exact h3 i (by omega)
theorem HF.at {σ : St} {v : V} {l : List Fun} (h : HF T σ v l) {i : Nat} (hi : i < l.length) : ∃ r c, v = .hslice r 0 5 l.length ∧ vindexAddr Try.prog 23 v (.int .i64 (i : Int)) = some (.optr r (i * 5)) ∧ vload Try.prog σ.objs 37 (.optr r (i * 5)) = some (.agg c) ∧ FunO T σ l[i] c := by
  rcases h with ⟨_, rfl⟩ | ⟨r, cs, rfl, h2, h3, h4, h5⟩
  · simp at hi
  · have hi' : (i : Int) < l.length := by omega
    refine ⟨r, (cs.drop (i * 5)).take 5, rfl, by simp [vindexAddr, FT, FS, hi'], vload_sub h2 FG FS (by omega), h5 i hi⟩
theorem HF.front {σ : St} {v : V} {l : List Fun} {n : Nat} (h : HF T σ v l) (hl : l.length = n + 1) (hb : n ≤ 1000000) : ∃ w, vslice Try.prog 23 v none (some (.int .i64 (n : Int))) none = some w ∧ FunsS σ w (l.take n) ∧ Go.Proofs.Ytplhelapcpcncaa.Q.one w = true := by
  rcases h with ⟨_, rfl⟩ | ⟨r, cs, rfl, h2, h3⟩
  · simp at hl
  · have hbd : vbounds l.length none (some (.int .i64 (n : Int))) none = some (0, n, none) := vbounds_hi (by omega) (by omega)
    have h4 := h3.1
    obtain ⟨t1, t2, t3⟩ := h3.take n
    refine ⟨.hslice r 0 5 n, by simp [vslice, FT, FS, hbd], ⟨cs.take (n * 5), .inr ⟨by rw [List.length_take, List.length_take]; omega, r, 0, cs, by rw [List.length_take, Nat.min_eq_left (by omega)], h2, by rw [List.length_take]; omega, by rw [List.drop_zero, List.length_take, Nat.min_eq_left (by omega)]⟩, fun i hi => (t3 i hi).fun σ⟩, rfl⟩
end Go.Proofs.Ytplhelapcpcncaa.Q

set_option linter.unusedVariables false
namespace Go.Proofs.Ytplhelapcpcncaa.Q
open Go Go.RowKit Go.Proofs
set_option maxRecDepth 100000 in
theorem wakes_run1 (a : List V) : ((vcall Try.prog prims 2000 8 [] ⟨[.cells a], []⟩).map fun r => (isTrue (some r), r.2.objs.take 1)) = some (true, [.cells a]) := by kernel_rfl
theorem wakes_does1 (a : List V) : ∃ σ, Does Try.prog prims 8 [] ⟨[.cells a], []⟩ (.ret (.bool true)) σ ∧ Keep ⟨[.cells a], []⟩ σ := by
  have h := wakes_run1 a
  rw [Option.map_eq_some_iff] at h
  obtain ⟨r, h1, h2⟩ := h
  injection h2 with h2 h3
  obtain ⟨σ, h4⟩ := isTrue_eq h2
  injection h4 with h4
  subst h4
  refine ⟨σ, ⟨2000, h1⟩, fun q o ho => ?_, Nat.zero_le _, fun k hk => by simp [tokLive] at hk⟩
  have hq := (List.getElem?_eq_some_iff.1 ho).1
  simp only at h3 ho hq
  rw [← h3, List.getElem?_take] at ho
  split at ho
  · exact ho
  · cases ho
end Go.Proofs.Ytplhelapcpcncaa.Q

/- CodeGrows: for every input of bulk at most 1048576 the law answers true. -/
set_option linter.unusedVariables false
set_option linter.unusedSimpArgs false
namespace Go.Proofs.Ytplhelapcpcncaa.Q
open Go Go.RowKit Go.Proofs
theorem verify_ok {z : Int} {P : Prop} (h : (z = 0 ∧ P) ∨ (z = 40 ∧ ¬ P)) (hp : P) : z = 0 := by
  rcases h with ⟨h, _⟩ | ⟨_, h⟩
  · exact h
  · exact absurd hp h
theorem CV0 : vbuild Try.prog 29 [(0, .int .i64 2)] = some (.agg [.int .i64 2, .int .i64 0, .str [], .nils]) := by kernel_rfl
theorem CV1 : vbuildSlice Try.prog 22 1 [(0, .agg [.int .i64 2, .int .i64 0, .str [], .nils])] = some (.slice .exact 4 [.int .i64 2, .int .i64 0, .str [], .nils] 1) := by kernel_rfl
theorem CI0 : vbuild Try.prog 39 [(0, .int .i64 6)] = some (.agg [.int .i64 6, .int .i64 0]) := by kernel_rfl
theorem CI1 : vbuildSlice Try.prog 35 1 [(0, .agg [.int .i64 6, .int .i64 0])] = some (.slice .exact 2 [.int .i64 6, .int .i64 0] 1) := by kernel_rfl
theorem append_other {P : Program} {σ σ' : St} {t t2 : TypeId} {v y v' : V} (h : vappend P σ t t2 v y = some (v', σ')) : ∀ k, tokLive σ.toks k = true → (∀ q e a c n, v = .slice (.tok q e) a c n → k ≠ q) → tokLive σ'.toks k = true := by
  intro k hk hne
  unfold vappend at h
  repeat' (split at h)
  all_goals first
    | (cases h; done)
    | (injection h with h
       injection h with h1 h2
       subst h2
       first
         | exact hk
         | exact tokLive_app hk
         | exact tokLive_app (tokLive_kill_ne hk (hne _ _ _ _ _ rfl)))
theorem OwnR.keepT {e k m n : Nat} {σ σ' : St} {v : V} {cs : List V} (h : OwnR e k m σ v cs n) (hk : ∀ k, m ≤ k → tokLive σ.toks k = true → tokLive σ'.toks k = true) : OwnR e k m σ' v cs n := by
  rcases h with ⟨h1, h | ⟨p, h, h2⟩⟩
  · exact ⟨h1, .inl h⟩
  · refine ⟨h1, .inr ⟨p, h, ?_⟩⟩
    rcases h2 with h2 | ⟨q, h2, h3, h4⟩
    · exact .inl h2
    · exact .inr ⟨q, h2, hk q h4 h3, h4⟩
theorem HF.mv {T : Nat} {σ σ' : St} {v : V} {l : List Fun} (h : HF T σ v l) (ho : ∀ r o, v = .hslice r 0 5 l.length → σ.objs[r]? = some o → σ'.objs[r]? = some o) (ht : ∀ k, T ≤ k → tokLive σ.toks k = true → tokLive σ'.toks k = true) : HF T σ' v l := by
  rcases h with h | ⟨r, cs, h1, h2, h3, h4, h5⟩
  · exact .inl h
  · refine .inr ⟨r, cs, h1, ho r _ h1 h2, h3, h4, fun i hi => ?_⟩
    obtain ⟨w, e1, e2⟩ := h5 i hi
    exact ⟨w, e1, e2.keepT ht⟩
set_option maxRecDepth 100000 in
theorem grow_tail {m : Mdl} {st : Int} {s : St} {e : Nat → V} {o7 T : Nat} {w1 w2 : V} {cs : List V} {t : Nat} (hok : MdlOk m st) (hc : m.consts.length ≤ 8192) (hf : ∀ f ∈ m.funcs, f.code.length ≤ 4096) (hw : ∀ v ∈ m.consts, weight v ≤ 4294967296)
    (i0 : IsV s o7 [w1, w2]) (hO : OwnR 29 4 t s w1 cs m.consts.length) (hC : ValsC m.consts cs) (hH : HF T s w2 m.funcs) (hne : ∀ r, w2 = .hslice r 0 5 m.funcs.length → r < o7) (hq : ∀ q e k c n, w1 = .slice (.tok q e) k c n → q < T) (g1 : e 1 = .int .i64 st) (g7 : e 7 = .optr o7 0) :
    Eo Try.prog prims 101 k4_r8 e s (seqC Try.prog prims 101
      (((CC.region k4_r9).seq (CC.cond (Operand.tmp 57) ((CC.region k4_r10).seq CC.ret) CC.skip)).seq
        (((CC.region k4_r11).seq (CC.cond (Operand.tmp 61) ((CC.region k4_r12).seq CC.ret) CC.skip)).seq
          ((CC.region k4_r13).seq
            ((CC.region k4_r14).seq
              ((CC.region k4_r15).seq
                ((CC.region k4_r16).seq
                  (((CC.region k4_r17).seq (CC.cond (Operand.tmp 91) ((CC.region k4_r18).seq CC.ret) CC.skip)).seq
                    ((CC.region k4_r19).seq ((CC.region k4_r20).seq CC.ret)))))))))
      (fnK Try.prog 101 [ResultVar.tmp 6] fun r σ' => r = VRes.ret (V.bool true))) := by
  have hfl := hok.fl
  have ld1 : vload Try.prog s.objs 22 (.optr o7 0) = some w1 := by rw [vload_obj i0 VsG]; rfl
  -- one more constant
  obtain ⟨w1', s1, ap1, O1, _, ob1⟩ := (hO.low (Nat.zero_le _)).append (m := 0) (σ0 := ⟨[], []⟩) CVRT rfl (keep0 s) (t2 := 22) (y := .slice .exact 4 [.int .i64 2, .int .i64 0, .str [], .nils] 1) (ys := [.int .i64 2, .int .i64 0, .str [], .nils]) (l := 1) (by simp [vnews, VT22]) rfl rfl (by omega) (by omega)
  have tk1 : ∀ k, T ≤ k → tokLive s.toks k = true → tokLive s1.toks k = true := fun k hk h => append_other ap1 k h fun q e a c n hv => by have := hq q e a c n hv; omega
  obtain ⟨s2, st2, i2, k2, l2⟩ := cell_set (i0.objs ob1) (j := 0) (by simp) (t := 22) VsS (v := w1') O1.one'
  simp only [List.set_cons_zero] at i2
  have C1 := hC.snoc' (v := vtrue) (c := [.int .i64 2, .int .i64 0, .str [], .nils]) (.mk (by unfold InI64; omega) (by unfold InI64; omega) .nil)
  have hV1 : ValsW (mMore m).consts w1' := OwnR.vals' (l := (mMore m).consts) (by simp only [mMore, List.length_append, List.length_cons, List.length_nil]; exact O1) C1
  have hW1 : ∀ v ∈ (mMore m).consts, weight v ≤ 4294967296 := by
    intro v hv
    rcases List.mem_append.1 hv with hv | hv
    · exact hw v hv
    · rw [List.mem_singleton] at hv; subst hv; simp [vtrue, weight, weights]
  have ok1 := ok_consts hok (by omega)
  have H2 : HF T s2 w2 m.funcs := hH.mv (fun r o hr ho => k2.1 _ _ (by have := hne r hr; omega) (by rw [ob1]; exact ho)) fun k hk h => k2.2.2 k (tk1 k hk h)
  obtain ⟨z3, s3, d3, k3, h3⟩ := cverify_does (m := mMore m) ⟨w1', w2, rfl, hV1, H2.row⟩ st hW1
  have hz3 := verify_ok h3 ok1
  subst hz3
  have ld2 : vload Try.prog s2.objs 22 (.optr o7 0) = some w1' := by rw [vload_obj i2 VsG]; rfl
  have ldm2 : vload Try.prog s2.objs 25 (.optr o7 0) = some (.agg [w1', w2]) := vload_agg i2 MG MS
  have lv1 : vlen Try.prog 22 w1' = some (.int .i64 ((m.consts.length + 1 : Nat) : Int)) := by have := hV1.len; simpa [mMore] using this
  have hle1 : ((m.consts.length + 1 : Nat) : Int) ≤ 16384 := by omega
  have i3 := k3.atV i2
  have H3 := H2.keep k3
  have ldw3 : vload Try.prog s3.objs 23 (.optr o7 1) = some w2 := by rw [vload_obj i3 FsG]; rfl
  have lf3 : vlen Try.prog 23 w2 = some (.int .i64 (m.funcs.length : Nat)) := by obtain ⟨cs, hr, _⟩ := H3.row; exact hr.len FT
  simp only [k4_a, WK, vop, evAll, evOpt, evParts, vbuiltin, vun, vextract, Nat.reduceLT, Nat.reduceEqDiff, ↓reduceIte, reduceCtorEq, Nat.reduceAdd, Int.reduceLT, Int.reduceNeg, valloc_std, noSB, vhot, g7, MF0, ld1, CV0, CV1, ap1, st2, ld2, lv1, hle1, ldm2, g1]
  refine KD.ret d3 ?_
  by_cases hf0 : m.funcs.length = 0
  · have hf0' : (((m.funcs.length : Nat) : Int) = 0) = True := eq_true (by omega)
    simp only [k4_a, WK, vop, evAll, evOpt, evParts, vbuiltin, vun, vextract, Nat.reduceLT, Nat.reduceEqDiff, ↓reduceIte, reduceCtorEq, Nat.reduceAdd, Int.reduceLT, Int.reduceNeg, valloc_std, noSB, vhot, eq_self, decide_true, Bool.not_true, g7, MF1, ldw3, lf3, hf0']
  have hf0' : (((m.funcs.length : Nat) : Int) = 0) = False := eq_false (by omega)
  obtain ⟨n, hn⟩ : ∃ n, m.funcs.length = n + 1 := ⟨m.funcs.length - 1, by omega⟩
  have hnl : n < m.funcs.length := by omega
  have wn : IntKind.i64.wrap (((m.funcs.length : Nat) : Int) - 1) = ((n : Nat) : Int) := by rw [wrap_i64 (by omega) (by omega)]; omega
  obtain ⟨r, c, hwr, had, hld, hfo⟩ := H3.at hnl
  have hro := hne r hwr
  obtain ⟨f, hfe⟩ : ∃ f, f = m.funcs[n] := ⟨_, rfl⟩
  have hfc : f.code.length ≤ 4096 := by rw [hfe]; exact hf _ (List.getElem_mem hnl)
  rw [← hfe] at hfo
  obtain ⟨w5, rfl, O5⟩ := hfo
  have ho3 := i3.lt
  obtain ⟨s4, hs4, i4, k4, l4⟩ := cell_new s3 [.int .i64 0, .int .i64 0, .int .i64 0, .int .i64 0, .nils]
  obtain ⟨s5, st5, i5, k5, l5⟩ := cell_all i4 (t := 37) (c' := [.int .i64 f.params, .int .i64 f.locals, .int .i64 f.zero, .int .i64 f.stack, w5]) FS rfl (by simp only [List.all_cons, List.all_nil, O5.one']; rfl)
  have k35 : Keep s3 s5 := k4.overX2 k5 (Nat.le_refl _)
  have O5' := O5.keep k35.2.2
  have ld5 : vload Try.prog s5.objs 35 (.optr s3.objs.length 4) = some w5 := by rw [vload_obj i5 NsG]; rfl
  obtain ⟨w5', s6, ap6, O6, _, ob6⟩ := (O5'.low (Nat.zero_le _)).append (m := 0) (σ0 := ⟨[], []⟩) NRT rfl (keep0 s5) (t2 := 35) (y := .slice .exact 2 [.int .i64 6, .int .i64 0] 1) (ys := [.int .i64 6, .int .i64 0]) (l := 1) (by simp [vnews, NT]) rfl rfl (by omega) (by omega)
  have hl6 : s6.objs.length = s5.objs.length := by rw [ob6]
  obtain ⟨s7, st7, i7, k7, l7⟩ := cell_set (i5.objs ob6) (j := 4) (by simp) (t := 35) NsS (v := w5') O6.one'
  simp only [List.set_cons_succ, List.set_cons_zero] at i7
  -- only what is needed of the row stays: its cells
  obtain ⟨rr, csr, hw2, hobj, hF1, hF2, hF3⟩ : ∃ r cs, w2 = .hslice r 0 5 m.funcs.length ∧ s3.objs[r]? = some (.cells cs) ∧ cs.length = m.funcs.length * 5 ∧ cs.all one = true ∧ ∀ (i : Nat) (h : i < m.funcs.length) (τ : St), FunS τ m.funcs[i] ((cs.drop (i * 5)).take 5) := by
    rcases H3 with ⟨h, _⟩ | ⟨r', cs', h1, h2, h3, h4, h5⟩
    · rw [hwr] at h; cases h
    · exact ⟨r', cs', h1, h2, h3, h4, fun i hi τ => (h5 i hi).fun τ⟩
  have hrr : rr = r := by rw [hwr] at hw2; injection hw2 with hw2; exact hw2.symm
  subst hrr
  have ob7 : s7.objs[rr]? = some (.cells csr) := k7.1 _ _ (by omega) (by rw [ob6]; exact k35.1 _ _ hobj)
  have i7m : IsV s7 o7 [w1', w2] := k7.1 _ _ (by omega) (by rw [ob6]; exact k35.1 _ _ i3)
  have ldf7 : vload Try.prog s7.objs 37 (.optr s3.objs.length 0) = some (.agg [.int .i64 f.params, .int .i64 f.locals, .int .i64 f.zero, .int .i64 f.stack, w5']) := vload_agg i7 FG FS
  have ldw7 : vload Try.prog s7.objs 23 (.optr o7 1) = some w2 := by rw [vload_obj i7m FsG]; rfl
  obtain ⟨s8, hs8⟩ : ∃ s8 : St, s8 = ⟨s7.objs.set rr (.cells (csr.take (n * 5) ++ [.int .i64 f.params, .int .i64 f.locals, .int .i64 f.zero, .int .i64 f.stack, w5'])), s7.toks⟩ := ⟨_, rfl⟩
  obtain ⟨k8, ob8⟩ := KeepX.set_eq ob7 hs8
  have st8 : vstore Try.prog s7 37 (.optr rr (n * 5)) (.agg [.int .i64 f.params, .int .i64 f.locals, .int .i64 f.zero, .int .i64 f.stack, w5']) = some s8 := by
    have hone : ([.int .i64 f.params, .int .i64 f.locals, .int .i64 f.zero, .int .i64 f.stack, w5'] : List V).all one = true := by simp only [List.all_cons, List.all_nil, O6.one']; rfl
    have e1 : n * 5 + ([.int .i64 f.params, .int .i64 f.locals, .int .i64 f.zero, .int .i64 f.stack, w5'] : List V).length ≤ csr.length := by simp; omega
    simp only [vstore, ob7, vcells, FS, hone]
    rw [if_pos (by refine ⟨?_, ?_, ?_⟩ <;> first | trivial | rfl | exact e1), setAll_take _ _ _ e1, List.drop_of_length_le (by simp; omega), List.append_nil, hs8]
  have hFM : ∀ τ, FunS τ (fMore f) [.int .i64 f.params, .int .i64 f.locals, .int .i64 f.zero, .int .i64 f.stack, w5'] := fun τ => ⟨w5', rfl, .inl (by
    have := O6.row
    simpa [fMore, insC] using this)⟩
  have hset : m.funcs.set n (fMore f) = m.funcs.take n ++ [fMore f] := by rw [List.set_eq_take_append_cons_drop, if_pos hnl, List.drop_of_length_le (by omega)]
  have hcst : (csr.take (n * 5)).length = n * 5 := by rw [List.length_take]; omega
  have row8 : ∀ τ : St, (∀ (i : Nat) (h : i < (m.funcs.set n (fMore f)).length), FunS τ (m.funcs.set n (fMore f))[i] (((csr.take (n * 5) ++ [.int .i64 f.params, .int .i64 f.locals, .int .i64 f.zero, .int .i64 f.stack, w5']).drop (i * 5)).take 5)) := by
    intro τ i hi
    rw [List.length_set] at hi
    by_cases e : n = i
    · subst e
      rw [List.getElem_set_self, List.drop_left' hcst]
      exact hFM τ
    · rw [List.getElem_set_ne e, List.drop_append_of_le_length (by omega), List.take_append_of_le_length (by rw [List.length_drop]; omega), List.drop_take, List.take_take, Nat.min_eq_left (by omega)]
      exact hF3 i hi τ
  have FS8 : FunsS s8 w2 (m.funcs.set n (fMore f)) := ⟨_, .inr ⟨by rw [List.length_append, hcst, List.length_set]; simp; omega, rr, 0, _, by rw [hwr, List.length_set], ob8, by rw [List.length_append, hcst, List.length_set]; simp; omega, by rw [List.drop_zero]; exact List.take_of_length_le (by rw [List.length_append, hcst, List.length_set]; simp; omega)⟩, row8 s8⟩
  have ok2 : MdlOk ⟨(mMore m).consts, m.funcs.set n (fMore f)⟩ st := by rw [hfe]; exact ok_instr ok1 hnl (by have := hf _ (List.getElem_mem hnl); simp only [mMore]; omega)
  have i8 : IsV s8 o7 [w1', w2] := k8.1 _ _ (by omega) i7m
  have i8f : IsV s8 s3.objs.length _ := k8.1 _ _ (by omega) i7
  obtain ⟨z9, s9, d9, k9, h9⟩ := cverify_does (m := ⟨(mMore m).consts, m.funcs.set n (fMore f)⟩) ⟨w1', w2, rfl, hV1, FS8⟩ st hW1
  have hz9 := verify_ok h9 ok2
  subst hz9
  have ldm8 : vload Try.prog s8.objs 25 (.optr o7 0) = some (.agg [w1', w2]) := vload_agg i8 MG MS
  have ldc8 : vload Try.prog s8.objs 35 (.optr s3.objs.length 4) = some w5' := by rw [vload_obj i8f NsG]; rfl
  have lc8 : vlen Try.prog 35 w5' = some (.int .i64 ((f.code.length + 1 : Nat) : Int)) := by have := O6.row.len NT; simpa using this
  have hle8 : ((f.code.length + 1 : Nat) : Int) ≤ 16384 := by omega
  have i9 := k9.atV i8
  have ldw9 : vload Try.prog s9.objs 23 (.optr o7 1) = some w2 := by rw [vload_obj i9 FsG]; rfl
  have hbd : vbounds m.funcs.length none (some (.int .i64 (n : Int))) none = some (0, n, none) := vbounds_hi (by omega) (by omega)
  have hsl : vslice Try.prog 23 w2 none (some (.int .i64 (n : Int))) none = some (.hslice rr 0 5 n) := by rw [hwr]; simp [vslice, FT, FS, hbd]
  obtain ⟨s10, st10, i10, k10, l10⟩ := cell_set i9 (j := 1) (by simp) (t := 23) FsS (v := .hslice rr 0 5 n) rfl
  simp only [List.set_cons_succ, List.set_cons_zero] at i10
  have ob10 := k10.1 _ _ (by omega) (k9.1 _ _ ob8)
  have FS10 : FunsS s10 (.hslice rr 0 5 n) ((m.funcs.set n (fMore f)).take n) := by
    have htl : ((m.funcs.set n (fMore f)).take n).length = n := by rw [List.length_take, List.length_set]; omega
    refine ⟨csr.take (n * 5), .inr ⟨by rw [hcst, htl], rr, 0, _, by rw [htl], ob10, by rw [List.length_append, hcst, htl]; omega, by rw [List.drop_zero, htl]; exact List.take_left' hcst⟩, fun i hi => ?_⟩
    rw [htl] at hi
    have := row8 s10 i (by rw [List.length_set]; omega)
    rw [List.getElem_take]
    rwa [List.drop_append_of_le_length (by omega), List.take_append_of_le_length (by rw [List.length_drop]; omega)] at this
  have ok3 := ok_drop ok2 n
  obtain ⟨z11, s11, d11, k11, h11⟩ := cverify_does (m := ⟨(mMore m).consts, (m.funcs.set n (fMore f)).take n⟩) ⟨w1', .hslice rr 0 5 n, rfl, hV1, FS10⟩ st hW1
  have hz11 := verify_ok h11 ok3
  subst hz11
  have ldm10 : vload Try.prog s10.objs 25 (.optr o7 0) = some (.agg [w1', .hslice rr 0 5 n]) := vload_agg i10 MG MS
  simp only [k4_a, WK, vop, evAll, evOpt, evParts, vbuiltin, vun, vextract, Nat.reduceLT, Nat.reduceEqDiff, ↓reduceIte, reduceCtorEq, Nat.reduceAdd, Int.reduceLT, Int.reduceNeg, valloc_std, noSB, vhot, eq_self, decide_true, Bool.not_true, g7, g1, MF1, ldw3, lf3, hf0', wn, had, hld, FZ, vbox, vcells, ← hs4, st5, FF4', ld5, CI0, CI1, ap6, ob6, st7, ldw7, ldf7, st8, ldc8, lc8, hle8, ldm8]
  refine KD.ret d9 ?_
  simp only [k4_a, WK, vop, evAll, evOpt, evParts, vbuiltin, vun, vextract, Nat.reduceLT, Nat.reduceEqDiff, ↓reduceIte, reduceCtorEq, Nat.reduceAdd, Int.reduceLT, Int.reduceNeg, valloc_std, noSB, vhot, eq_self, decide_true, Bool.not_true, g7, g1, MF1, ldw9, FT, hsl, st10, ldm10]
  refine KD.ret d11 ?_
  simp only [k4_a, WK, vop, evAll, evOpt, evParts, vbuiltin, vun, vextract, Nat.reduceLT, Nat.reduceEqDiff, ↓reduceIte, reduceCtorEq, Nat.reduceAdd, Int.reduceLT, Int.reduceNeg, valloc_std, noSB, vhot, eq_self, decide_true]
set_option maxRecDepth 100000 in
theorem cgrows_true : LawTrue Try.prog prims 4 [25, 3, 3] := by
  intro xs hA hb
  match xs, hA with
  | [x, y, z], ⟨hx, hy, hz, _⟩ =>
    obtain ⟨m, c, rfl, hm, hM⟩ := mdl_arg hx
    obtain ⟨st, rfl, hst⟩ := int_arg T3 hy
    obtain ⟨more, rfl, hmo⟩ := int_arg T3 hz
    simp only [vbulks] at hb
    obtain ⟨B, hBe⟩ : ∃ B, B = vbulk (.agg c) := ⟨_, rfl⟩
    rw [← hBe] at hM
    have hB : B ≤ 1048600 := by omega
    have hw : ∀ v ∈ m.consts, weight v ≤ 4294967296 := fun v hv => by have := weights_mem hv; have := hM.cw; omega
    have key : ∃ r σ', Does Try.prog prims 4 [.agg c, .int .i64 st, .int .i64 more] st0 r σ' ∧ r = .ret (.bool true) := by
      apply k4_is.does (by simp)
      obtain ⟨s1, hs1⟩ : ∃ s1 : St, s1 = ⟨st0.objs ++ [Ob.cells c], st0.toks⟩ := ⟨_, rfl⟩
      have o1 : s1.objs[0]? = some (.cells c) := by rw [hs1]; rfl
      obtain ⟨s2, d2, k2⟩ := wakes_does1 c
      have e1 : (⟨[Ob.cells c], []⟩ : St) = s1 := by rw [hs1]; rfl
      rw [e1] at d2 k2
      have L : ∀ s', Keep s1 s' → vload Try.prog s'.objs 25 (.optr 0 0) = some (.agg c) := fun s' hk => vload_agg (hk.1 _ _ o1) MG (by rw [(hm st0).len]; exact MS)
      obtain ⟨b, s3, d3, k3, hbig⟩ := large_does2 (hm s2) hM (by omega)
      have k13 := k2.trans k3
      simp only [(vE k4.eq_1), (oE k4_r0.eq_1), (oE k4_r1.eq_1), (oE k4_r2.eq_1), (oE k4_r3.eq_1), (oE k4_r4.eq_1), (oE k4_r5.eq_1), (oE k4_r6.eq_1), (oE k4_r7.eq_1), WK, vop, evAll, evOpt, evParts, vbuiltin, vun, vextract, Nat.reduceLT, Nat.reduceEqDiff, ↓reduceIte, reduceCtorEq, Nat.reduceAdd, Int.reduceLT, Int.reduceNeg, valloc_std, noSB, vhot, List.getD_cons_zero, List.getD_cons_succ, vbox, vcells, List.length_nil, show st0.objs.length = 0 from rfl, ← hs1]
      refine KD.ret d2 ?_
      simp only [(vE k4.eq_1), (oE k4_r0.eq_1), (oE k4_r1.eq_1), (oE k4_r2.eq_1), (oE k4_r3.eq_1), (oE k4_r4.eq_1), (oE k4_r5.eq_1), (oE k4_r6.eq_1), (oE k4_r7.eq_1), WK, vop, evAll, evOpt, evParts, vbuiltin, vun, vextract, Nat.reduceLT, Nat.reduceEqDiff, ↓reduceIte, reduceCtorEq, Nat.reduceAdd, Int.reduceLT, Int.reduceNeg, valloc_std, noSB, vhot, L s2 k2]
      refine KD.ret d3 ?_
      cases b with
      | true => simp only [(vE k4.eq_1), (oE k4_r0.eq_1), (oE k4_r1.eq_1), (oE k4_r2.eq_1), (oE k4_r3.eq_1), (oE k4_r4.eq_1), (oE k4_r5.eq_1), (oE k4_r6.eq_1), (oE k4_r7.eq_1), WK, vop, evAll, evOpt, evParts, vbuiltin, vun, vextract, Nat.reduceLT, Nat.reduceEqDiff, ↓reduceIte, reduceCtorEq, Nat.reduceAdd, Int.reduceLT, Int.reduceNeg, valloc_std, noSB, vhot]
      | false =>
      obtain ⟨hcl8, hfc8⟩ := hbig rfl
      obtain ⟨z4, s4, d4, kv, h4⟩ := cverify_does (hm s3) st hw
      have k14 := k13.trans kv
      simp only [(vE k4.eq_1), (oE k4_r0.eq_1), (oE k4_r1.eq_1), (oE k4_r2.eq_1), (oE k4_r3.eq_1), (oE k4_r4.eq_1), (oE k4_r5.eq_1), (oE k4_r6.eq_1), (oE k4_r7.eq_1), WK, vop, evAll, evOpt, evParts, vbuiltin, vun, vextract, Nat.reduceLT, Nat.reduceEqDiff, ↓reduceIte, reduceCtorEq, Nat.reduceAdd, Int.reduceLT, Int.reduceNeg, valloc_std, noSB, vhot, L s3 k13]
      refine KD.ret d4 ?_
      rcases h4 with ⟨rfl, hok⟩ | ⟨rfl, hno⟩
      case inr => simp only [(vE k4.eq_1), (oE k4_r0.eq_1), (oE k4_r1.eq_1), (oE k4_r2.eq_1), (oE k4_r3.eq_1), (oE k4_r4.eq_1), (oE k4_r5.eq_1), (oE k4_r6.eq_1), (oE k4_r7.eq_1), WK, vop, evAll, evOpt, evParts, vbuiltin, vun, vextract, Nat.reduceLT, Nat.reduceEqDiff, ↓reduceIte, reduceCtorEq, Nat.reduceAdd, Int.reduceLT, Int.reduceNeg, valloc_std, noSB, vhot, (show ((40 : Int) = 0) = False from by simp), decide_false, Bool.not_false]
      by_cases hm0 : more < 0
      · simp only [(vE k4.eq_1), (oE k4_r0.eq_1), (oE k4_r1.eq_1), (oE k4_r2.eq_1), (oE k4_r3.eq_1), (oE k4_r4.eq_1), (oE k4_r5.eq_1), (oE k4_r6.eq_1), (oE k4_r7.eq_1), WK, vop, evAll, evOpt, evParts, vbuiltin, vun, vextract, Nat.reduceLT, Nat.reduceEqDiff, ↓reduceIte, reduceCtorEq, Nat.reduceAdd, Int.reduceLT, Int.reduceNeg, valloc_std, noSB, vhot, eq_self, decide_true, Bool.not_true, hm0]
      by_cases hm40 : 40 < more
      · simp only [(vE k4.eq_1), (oE k4_r0.eq_1), (oE k4_r1.eq_1), (oE k4_r2.eq_1), (oE k4_r3.eq_1), (oE k4_r4.eq_1), (oE k4_r5.eq_1), (oE k4_r6.eq_1), (oE k4_r7.eq_1), WK, vop, evAll, evOpt, evParts, vbuiltin, vun, vextract, Nat.reduceLT, Nat.reduceEqDiff, ↓reduceIte, reduceCtorEq, Nat.reduceAdd, Int.reduceLT, Int.reduceNeg, valloc_std, noSB, vhot, eq_self, decide_true, Bool.not_true, hm0, hm40]
      have hst0 : 0 ≤ st ∧ st ≤ 32 := by have := hok.1; unfold HeadBad at this; omega
      have hl0 : ∀ v ∈ m.consts, listV v = [] := fun v hv => (typeC_fits (hok.2.1 v hv)).2.2
      obtain ⟨w1, w2, cs, T, s5, hT, d5, k5, O5, C5, H5, R5⟩ := copy_does (σ := s4) (hm ⟨[], []⟩) hM (by omega) hl0
      obtain ⟨s6, hs6, i6, k6, l6⟩ := cell_new s5 [V.nils, .nils]
      obtain ⟨s7, st7, i7, k7, l7⟩ := cell_all i6 (t := 25) (c' := [w1, w2]) MS rfl (by simp only [List.all_cons, List.all_nil, O5.one', H5.one]; rfl)
      have k57 : Keep s5 s7 := k6.overX2 k7 (Nat.le_refl _)
      have H7 := H5.keep k57
      have O7 : OwnR 29 4 s4.toks.length s7 w1 cs m.consts.length := O5.keep k57.2.2
      have m7 : MdlS s7 m [w1, w2] := ⟨w1, w2, rfl, O7.vals' C5, H7.row⟩
      have ld7 : vload Try.prog s7.objs 25 (.optr s5.objs.length 0) = some (.agg [w1, w2]) := vload_agg i7 MG MS
      have wsm : IntKind.i64.wrap (st + more) = st + more := wrap_i64 (by omega) (by omega)
      have hlt7 : ∀ r, w2 = .hslice r 0 5 m.funcs.length → r < s5.objs.length := by
        intro r hr
        rcases H5 with ⟨h, _⟩ | ⟨r', cs', h1, h2, _⟩
        · rw [hr] at h; cases h
        · rw [hr] at h1; injection h1 with h1; subst h1; exact (List.getElem?_eq_some_iff.1 h2).1
      obtain ⟨z8, s8, d8, k8, h8⟩ := cverify_does m7 (st + more) hw
      by_cases hle : st + more ≤ 32
      · have hz8 := verify_ok h8 (ok_states hok (by omega) hle)
        subst hz8
        simp only [(vE k4.eq_1), (oE k4_r0.eq_1), (oE k4_r1.eq_1), (oE k4_r2.eq_1), (oE k4_r3.eq_1), (oE k4_r4.eq_1), (oE k4_r5.eq_1), (oE k4_r6.eq_1), (oE k4_r7.eq_1), WK, vop, evAll, evOpt, evParts, vbuiltin, vun, vextract, Nat.reduceLT, Nat.reduceEqDiff, ↓reduceIte, reduceCtorEq, Nat.reduceAdd, Int.reduceLT, Int.reduceNeg, valloc_std, noSB, vhot, eq_self, decide_true, Bool.not_true, hm0, hm40, L s4 k14]
        refine KD.ret d5 ?_
        simp only [(vE k4.eq_1), (oE k4_r0.eq_1), (oE k4_r1.eq_1), (oE k4_r2.eq_1), (oE k4_r3.eq_1), (oE k4_r4.eq_1), (oE k4_r5.eq_1), (oE k4_r6.eq_1), (oE k4_r7.eq_1), WK, vop, evAll, evOpt, evParts, vbuiltin, vun, vextract, Nat.reduceLT, Nat.reduceEqDiff, ↓reduceIte, reduceCtorEq, Nat.reduceAdd, Int.reduceLT, Int.reduceNeg, valloc_std, noSB, vhot, MZ', vbox, vcells, ← hs6, st7, wsm, hle, ld7]
        refine KD.ret d8 ?_
        simp only [(vE k4.eq_1), (oE k4_r0.eq_1), (oE k4_r1.eq_1), (oE k4_r2.eq_1), (oE k4_r3.eq_1), (oE k4_r4.eq_1), (oE k4_r5.eq_1), (oE k4_r6.eq_1), (oE k4_r7.eq_1), WK, vop, evAll, evOpt, evParts, vbuiltin, vun, vextract, Nat.reduceLT, Nat.reduceEqDiff, ↓reduceIte, reduceCtorEq, Nat.reduceAdd, Int.reduceLT, Int.reduceNeg, valloc_std, noSB, vhot, eq_self, decide_true, Bool.not_true]
        exact grow_tail hok hcl8 hfc8 hw (k8.atV i7) (O7.keep k8.2.2) C5 (H7.keep k8) hlt7 hT (by simp [upd_some]) (by simp [upd_some])
      · simp only [(vE k4.eq_1), (oE k4_r0.eq_1), (oE k4_r1.eq_1), (oE k4_r2.eq_1), (oE k4_r3.eq_1), (oE k4_r4.eq_1), (oE k4_r5.eq_1), (oE k4_r6.eq_1), (oE k4_r7.eq_1), WK, vop, evAll, evOpt, evParts, vbuiltin, vun, vextract, Nat.reduceLT, Nat.reduceEqDiff, ↓reduceIte, reduceCtorEq, Nat.reduceAdd, Int.reduceLT, Int.reduceNeg, valloc_std, noSB, vhot, eq_self, decide_true, Bool.not_true, hm0, hm40, L s4 k14]
        refine KD.ret d5 ?_
        simp only [(vE k4.eq_1), (oE k4_r0.eq_1), (oE k4_r1.eq_1), (oE k4_r2.eq_1), (oE k4_r3.eq_1), (oE k4_r4.eq_1), (oE k4_r5.eq_1), (oE k4_r6.eq_1), (oE k4_r7.eq_1), WK, vop, evAll, evOpt, evParts, vbuiltin, vun, vextract, Nat.reduceLT, Nat.reduceEqDiff, ↓reduceIte, reduceCtorEq, Nat.reduceAdd, Int.reduceLT, Int.reduceNeg, valloc_std, noSB, vhot, MZ', vbox, vcells, ← hs6, st7, wsm, hle, ld7]
        exact grow_tail hok hcl8 hfc8 hw i7 O7 C5 H7 hlt7 hT (by simp [upd_some]) (by simp [upd_some])
    obtain ⟨r, σ', ⟨n, h⟩, rfl⟩ := key
    exact ⟨n, σ', h⟩
end Go.Proofs.Ytplhelapcpcncaa.Q

