import Derived.Test.YtcogghmmlndmgaaEe
set_option linter.unusedVariables false
set_option linter.unusedSimpArgs false
namespace Go.Proofs.Ytcogghmmlndmgaa.Q
open Go Go.RowKit Go.Proofs

theorem RT : RowT Try.prog 22 66 6 56 := ⟨by kernel_rfl, by kernel_rfl, ⟨.agg (itmCells itm0), by kernel_rfl, rfl⟩, by kernel_rfl, by omega⟩
theorem G66 : isAggT Try.prog 66 = some true := by kernel_rfl
theorem Z66 : zeroT Try.prog 66 = some (.agg (itmCells itm0)) := by kernel_rfl
theorem FI0 (r n : Nat) : vfieldAddr Try.prog 66 (.optr r n) 0 = some (.optr r n) := by kernel_rfl
theorem FI1 (r n : Nat) : vfieldAddr Try.prog 66 (.optr r n) 1 = some (.optr r (n + 1)) := by kernel_rfl
def ItemsV (v : V) (l : List Itm) : Prop := RowV 6 v (l.flatMap itmCells) l.length
def ItmsIn (l : List Itm) : Prop := ∀ x ∈ l, x.In ∧ x.ent.data.length ≤ 140737487000000
theorem ItemsV.nil : ItemsV .nils [] := RowV.nil 6
theorem ItemsV.len {v : V} {l : List Itm} (h : ItemsV v l) : vlen Try.prog 22 v = some (.int .i64 l.length) := RowV.len h RT.u
theorem ItemsV.addr {v : V} {l : List Itm} (h : ItemsV v l) {i : Nat} (hi : i < l.length) : vindexAddr Try.prog 22 v (.int .i64 i) = some (.eptr (l.flatMap itmCells) (i * 6)) := by
  have := RowV.addr h RT.u RT.s RT.k0 (kk := .i64) (i := i) (by omega) (by omega)
  rwa [Int.toNat_natCast] at this
theorem ItemsV.load {l : List Itm} {i : Nat} (hi : i < l.length) {objs : List Ob} : vload Try.prog objs 66 (.eptr (l.flatMap itmCells) (i * 6)) = some (.agg (itmCells l[i])) := load_part itmCells_len hi G66 RT.s

/-- An object that is an item. -/
def IsI (σ : St) (q : Nat) (x : Itm) : Prop := σ.objs[q]? = some (.cells (itmCells x))
theorem IsI.new {σ : St} {o x : Itm} : vstore Try.prog ⟨σ.objs ++ [Ob.cells (itmCells o)], σ.toks⟩ 66 (.optr σ.objs.length 0) (.agg (itmCells x)) = some ⟨(σ.objs ++ [Ob.cells (itmCells o)]).set σ.objs.length (Ob.cells (itmCells x)), σ.toks⟩ :=
  vstore_agg (push_new _ _) RT.s rfl rfl
theorem IsI.made {σ : St} {o x : Itm} : IsI ⟨(σ.objs ++ [Ob.cells (itmCells o)]).set σ.objs.length (Ob.cells (itmCells x)), σ.toks⟩ σ.objs.length x := obj_set (push_new _ _)
theorem IsI.load {σ : St} {q : Nat} {x : Itm} (h : IsI σ q x) : vload Try.prog σ.objs 66 (.optr q 0) = some (.agg (itmCells x)) := vload_agg h G66 RT.s
theorem IsI.term {σ : St} {q : Nat} {x : Itm} (h : IsI σ q x) : vload Try.prog σ.objs 3 (.optr q 0) = some (.int .i64 x.term) := by rw [vload_obj h G3]; rfl
theorem IsI.ent {σ : St} {q : Nat} {x : Itm} (h : IsI σ q x) : vload Try.prog σ.objs 64 (.optr q 1) = some (.agg (entCells x.ent)) := by
  rw [vload_sub (off := 1) (n := 5) h G64 S64 (by simp [itmCells, entCells])]
  rfl
theorem Keep.made {σ0 σ : St} (h : Keep σ0 σ) (o x : Itm) : Keep σ0 ⟨(σ.objs ++ [Ob.cells (itmCells o)]).set σ.objs.length (Ob.cells (itmCells x)), σ.toks⟩ :=
  h.trans (((Keep.refl σ).push (.cells (itmCells o))).setNew (Nat.le_refl _) _)

/-- The bytes of the items up to one of them. -/
def pre (bs : List UInt8) (l : List Itm) (i : Nat) : List UInt8 := bs ++ putN l.length ++ (l.take i).flatMap itmB
theorem pre_succ {bs : List UInt8} {l : List Itm} {i : Nat} (h : i < l.length) : pre bs l (i + 1) = pre bs l i ++ putN l[i].term.toNat ++ runS (entryS l[i].ent) := by
  unfold pre
  rw [List.take_succ_eq_append_getElem h, List.flatMap_append]
  simp [itmB]
theorem pre_all {bs : List UInt8} {l : List Itm} : pre bs l l.length = bs ++ itemsS l := by
  simp [pre, itemsS]
theorem pre_len {bs : List UInt8} {l : List Itm} (hl : ItmsIn l) : ∀ {i : Nat}, i ≤ l.length → (pre bs l i).length ≤ bs.length + (putN l.length).length + 16500 * i
  | 0, _ => by simp [pre]
  | i + 1, hi => by
    have h := pre_len (bs := bs) hl (i := i) (by omega)
    have hil : i < l.length := by omega
    have hx := hl l[i] (List.getElem_mem hil)
    have := itmB_len l[i] hx.1 hx.2
    rw [pre_succ hil]
    unfold itmB at this
    simp only [List.length_append] at this ⊢
    omega

def I21 (n : Nat) (σ0 : St) (bs : List UInt8) (l : List Itm) : Nat → (Nat → V) → St → Prop := fun i e σ => e 16 = .int .i64 i ∧ i ≤ l.length ∧ OwnV 5 n σ (e 0) (pre bs l i) ∧ Keep σ0 σ

theorem items_does {v w : V} {bs : List UInt8} {l : List Itm} (hv : BtsV v bs) (hw : ItemsV w l) (hl : ItmsIn l) (hlen : bs.length + 16500 * l.length ≤ 140737480000000) (σ : St) :
    ∃ r σ', Does Try.prog noPrim 21 [v, w] σ (.ret r) σ' ∧ Keep σ σ' ∧ OwnV 5 σ.toks.length σ' r (bs ++ itemsS l) := by
  have key : ∃ r σ', Does Try.prog noPrim 21 [v, w] σ r σ' ∧ ∃ r', r = .ret r' ∧ Keep σ σ' ∧ OwnV 5 σ.toks.length σ' r' (bs ++ itemsS l) := by
    apply k21_is.does (by simp)
    have hI : InI64 (l.length : Int) := InI64.nat (by omega)
    have hb := buildInt IT hI
    obtain ⟨r1, σ1, hd1, hk1, ho1⟩ := put_does hv hb.2 (by simp; omega) σ
    have hp : putS [(l.length : Int)] = putN l.length := by simp [putS]
    rw [hp] at ho1
    simp only [k21_r0_e, k21_r1_e, k21_r2_e, k21_r3_e, k21_r4_e, k21_r5_e, k21_r6_e, k21_r7_e, k21_l0_e, k21_r8_e, k21_e, WK0, WK1, WK2, WK3, WK4, WK5, true_implies, vop, evAll, evOpt, evParts, vbuiltin, vun, vextract, Option.map_some, Option.map_none, Nat.reduceLT, Nat.reduceEqDiff, ↓reduceIte, reduceCtorEq, Nat.reduceAdd, Int.reduceLT, Int.reduceNeg, decide_true, decide_false, Bool.not_true, Bool.not_false, ne_eq, not_true_eq_false, not_false_eq_true, List.append_nil, Bool.false_eq_true, List.getElem?_cons_zero, List.getElem?_cons_succ, and_self, and_true, true_and, List.getD_cons_zero, List.getD_cons_succ, hw.len, hb.1]
    refine KD.ret hd1 ?_
    simp only [k21_r0_e, k21_r1_e, k21_r2_e, k21_r3_e, k21_r4_e, k21_r5_e, k21_r6_e, k21_r7_e, k21_l0_e, k21_r8_e, k21_e, WK0, WK1, WK2, WK3, WK4, WK5, true_implies, vop, evAll, evOpt, evParts, vbuiltin, vun, vextract, Option.map_some, Option.map_none, Nat.reduceLT, Nat.reduceEqDiff, ↓reduceIte, reduceCtorEq, Nat.reduceAdd, Int.reduceLT, Int.reduceNeg, decide_true, decide_false, Bool.not_true, Bool.not_false, ne_eq, not_true_eq_false, not_false_eq_true, List.append_nil, Bool.false_eq_true, List.getElem?_cons_zero, List.getElem?_cons_succ, and_self, and_true, true_and, List.getD_cons_zero, List.getD_cons_succ, hw.len, hb.1]
    refine Ev.loopF (I21 σ.toks.length σ bs l) (fun i => l.length - i) 0 ⟨by simp [upd_some], by simp, by simpa [upd_some, pre] using ho1, hk1⟩ ?_
    rintro i e σ2 ⟨h16, hi, h0, hk2⟩ hf
    have h14 : e 14 = w := (hf 14 (by decide)).trans (by simp [upd_some])
    have h15 : e 15 = .int .i64 l.length := (hf 15 (by decide)).trans (by simp [upd_some])
    clear hf
    have hpl := pre_len (bs := bs) hl hi
    have hpn := putN_nat_len (n := l.length) (by omega)
    by_cases hlt : i < l.length
    · have hlt' : (i : Int) < l.length := by omega
      have hx := hl l[i] (List.getElem_mem hlt)
      have hwi : IntKind.i64.wrap ((i : Int) + 1) = ((i + 1 : Nat) : Int) := by rw [show ((i : Int) + 1) = ((i + 1 : Nat) : Int) from by omega]; exact wrap_nat (by omega)
      have hq := IsI.made (σ := σ2) (o := itm0) (x := l[i])
      obtain ⟨σ3, hσ3⟩ : ∃ σ3 : St, σ3 = ⟨(σ2.objs ++ [Ob.cells (itmCells itm0)]).set σ2.objs.length (Ob.cells (itmCells l[i])), σ2.toks⟩ := ⟨_, rfl⟩
      have hk3 : Keep σ2 σ3 := by rw [hσ3]; exact (Keep.refl σ2).made _ _
      obtain ⟨r4, σ4, hd4, hk4, hb4⟩ := entry_does l[i].ent hx.1.2 hx.2 σ3
      rw [← hσ3] at hq
      have hq4 : IsI σ4 σ2.objs.length l[i] := hk4.1 _ _ hq
      have h0' := (h0.keep hk3).keep hk4
      have hbt := buildInt IT hx.1.1
      have htl : (putN l[i].term.toNat).length ≤ 9 := putN_nat_len (by have := hx.1.1; unfold InI64 at this; omega)
      have hps := pre_len (bs := bs) hl (i := i + 1) hlt
      rw [pre_succ hlt] at hps
      simp only [List.length_append, runS] at hps
      obtain ⟨r5, σ5, hd5, hk5, hb5⟩ := put_does h0'.bts hbt.2 (by simp; omega) σ4
      have hp5 : putS [l[i].term] = putN l[i].term.toNat := by simp [putS]
      rw [hp5] at hb5
      obtain ⟨r6, σ6, hd6, hk6, hb6⟩ := run21_does hb5.bts (entryS l[i].ent) (by simp only [List.length_append]; omega) σ5
      simp only [k21_r0_e, k21_r1_e, k21_r2_e, k21_r3_e, k21_r4_e, k21_r5_e, k21_r6_e, k21_r7_e, k21_l0_e, k21_r8_e, k21_e, WK0, WK1, WK2, WK3, WK4, WK5, true_implies, vop, evAll, evOpt, evParts, vbuiltin, vun, vextract, Option.map_some, Option.map_none, Nat.reduceLT, Nat.reduceEqDiff, ↓reduceIte, reduceCtorEq, Nat.reduceAdd, Int.reduceLT, Int.reduceNeg, decide_true, decide_false, Bool.not_true, Bool.not_false, ne_eq, not_true_eq_false, not_false_eq_true, List.append_nil, Bool.false_eq_true, List.getElem?_cons_zero, List.getElem?_cons_succ, and_self, and_true, true_and, h14, h15, h16, hlt', hw.addr hlt, ItemsV.load hlt, Z66, vbox, vcells, IsI.new, FI0, FI1, ← hσ3, hq.ent]
      refine KD.ret hd4 ?_
      simp only [k21_r0_e, k21_r1_e, k21_r2_e, k21_r3_e, k21_r4_e, k21_r5_e, k21_r6_e, k21_r7_e, k21_l0_e, k21_r8_e, k21_e, WK0, WK1, WK2, WK3, WK4, WK5, true_implies, vop, evAll, evOpt, evParts, vbuiltin, vun, vextract, Option.map_some, Option.map_none, Nat.reduceLT, Nat.reduceEqDiff, ↓reduceIte, reduceCtorEq, Nat.reduceAdd, Int.reduceLT, Int.reduceNeg, decide_true, decide_false, Bool.not_true, Bool.not_false, ne_eq, not_true_eq_false, not_false_eq_true, List.append_nil, Bool.false_eq_true, List.getElem?_cons_zero, List.getElem?_cons_succ, and_self, and_true, true_and, h14, h15, h16, FI0, FI1, hq4.term, hbt.1]
      refine KD.ret hd5 ?_
      simp only [k21_r0_e, k21_r1_e, k21_r2_e, k21_r3_e, k21_r4_e, k21_r5_e, k21_r6_e, k21_r7_e, k21_l0_e, k21_r8_e, k21_e, WK0, WK1, WK2, WK3, WK4, WK5, true_implies, vop, evAll, evOpt, evParts, vbuiltin, vun, vextract, Option.map_some, Option.map_none, Nat.reduceLT, Nat.reduceEqDiff, ↓reduceIte, reduceCtorEq, Nat.reduceAdd, Int.reduceLT, Int.reduceNeg, decide_true, decide_false, Bool.not_true, Bool.not_false, ne_eq, not_true_eq_false, not_false_eq_true, List.append_nil, Bool.false_eq_true, List.getElem?_cons_zero, List.getElem?_cons_succ, and_self, and_true, true_and, h14, h15, h16, FI0, FI1, hb4.str T22 U27 T9]
      refine KD.ret hd6 ?_
      simp only [k21_r0_e, k21_r1_e, k21_r2_e, k21_r3_e, k21_r4_e, k21_r5_e, k21_r6_e, k21_r7_e, k21_l0_e, k21_r8_e, k21_e, WK0, WK1, WK2, WK3, WK4, WK5, true_implies, vop, evAll, evOpt, evParts, vbuiltin, vun, vextract, Option.map_some, Option.map_none, Nat.reduceLT, Nat.reduceEqDiff, ↓reduceIte, reduceCtorEq, Nat.reduceAdd, Int.reduceLT, Int.reduceNeg, decide_true, decide_false, Bool.not_true, Bool.not_false, ne_eq, not_true_eq_false, not_false_eq_true, List.append_nil, Bool.false_eq_true, List.getElem?_cons_zero, List.getElem?_cons_succ, and_self, and_true, true_and, h14, h15, h16, hwi]
      refine ⟨i + 1, ⟨by simp [upd_some], hlt, ?_, (((hk2.trans hk3).trans hk4).trans hk5).trans hk6⟩, by omega⟩
      simp only [upd_some, ↓reduceIte, Nat.reduceEqDiff]
      rw [pre_succ hlt]
      exact hb6.low (by have h1 := hk2.2.1; have h2 := hk3.2.1; have h3 := hk4.2.1; have h4 := hk5.2.1; omega)
    · have hlt' : ¬ (i : Int) < l.length := by omega
      have hie : i = l.length := by omega
      subst hie
      simp only [k21_r0_e, k21_r1_e, k21_r2_e, k21_r3_e, k21_r4_e, k21_r5_e, k21_r6_e, k21_r7_e, k21_l0_e, k21_r8_e, k21_e, WK0, WK1, WK2, WK3, WK4, WK5, true_implies, vop, evAll, evOpt, evParts, vbuiltin, vun, vextract, Option.map_some, Option.map_none, Nat.reduceLT, Nat.reduceEqDiff, ↓reduceIte, reduceCtorEq, Nat.reduceAdd, Int.reduceLT, Int.reduceNeg, decide_true, decide_false, Bool.not_true, Bool.not_false, ne_eq, not_true_eq_false, not_false_eq_true, List.append_nil, Bool.false_eq_true, List.getElem?_cons_zero, List.getElem?_cons_succ, and_self, and_true, true_and, h14, h15, h16, hlt']
      rw [pre_all] at h0
      exact ⟨_, rfl, hk2, h0⟩
  obtain ⟨r, σ', h1, r', rfl, h2, h3⟩ := key
  exact ⟨r', σ', h1, h2, h3⟩

def I22 (n : Nat) (σ0 : St) (bs : List UInt8) (l : List Itm) : Nat → (Nat → V) → St → Prop := fun i e σ => e 16 = .int .i64 i ∧ i ≤ l.length ∧ OwnV 5 n σ (e 5) (pre bs l i) ∧ Keep σ0 σ

theorem refitems_does {v w : V} {bs : List UInt8} {l : List Itm} (hv : BtsV v bs) (hw : ItemsV w l) (hl : ItmsIn l) (hlen : bs.length + 16500 * l.length ≤ 140737480000000) (σ : St) :
    ∃ r σ', Does Try.prog noPrim 22 [v, w] σ (.ret r) σ' ∧ Keep σ σ' ∧ OwnV 5 σ.toks.length σ' r (bs ++ itemsS l) := by
  have key : ∃ r σ', Does Try.prog noPrim 22 [v, w] σ r σ' ∧ ∃ r', r = .ret r' ∧ Keep σ σ' ∧ OwnV 5 σ.toks.length σ' r' (bs ++ itemsS l) := by
    apply k22_is.does (by simp)
    have hI : InI64 (l.length : Int) := InI64.nat (by omega)
    obtain ⟨r1, σ1, hd1, hk1, ho1⟩ := refput_does hv hI (by omega) σ
    rw [Int.toNat_natCast] at ho1
    simp only [k22_r0_e, k22_r1_e, k22_r2_e, k22_r3_e, k22_r4_e, k22_r5_e, k22_r6_e, k22_r7_e, k22_l0_e, k22_r8_e, k22_e, WK0, WK1, WK2, WK3, WK4, WK5, true_implies, vop, evAll, evOpt, evParts, vbuiltin, vun, vextract, Option.map_some, Option.map_none, Nat.reduceLT, Nat.reduceEqDiff, ↓reduceIte, reduceCtorEq, Nat.reduceAdd, Int.reduceLT, Int.reduceNeg, decide_true, decide_false, Bool.not_true, Bool.not_false, ne_eq, not_true_eq_false, not_false_eq_true, List.append_nil, Bool.false_eq_true, List.getElem?_cons_zero, List.getElem?_cons_succ, and_self, and_true, true_and, List.getD_cons_zero, List.getD_cons_succ, hw.len]
    refine KD.ret hd1 ?_
    simp only [k22_r0_e, k22_r1_e, k22_r2_e, k22_r3_e, k22_r4_e, k22_r5_e, k22_r6_e, k22_r7_e, k22_l0_e, k22_r8_e, k22_e, WK0, WK1, WK2, WK3, WK4, WK5, true_implies, vop, evAll, evOpt, evParts, vbuiltin, vun, vextract, Option.map_some, Option.map_none, Nat.reduceLT, Nat.reduceEqDiff, ↓reduceIte, reduceCtorEq, Nat.reduceAdd, Int.reduceLT, Int.reduceNeg, decide_true, decide_false, Bool.not_true, Bool.not_false, ne_eq, not_true_eq_false, not_false_eq_true, List.append_nil, Bool.false_eq_true, List.getElem?_cons_zero, List.getElem?_cons_succ, and_self, and_true, true_and, List.getD_cons_zero, List.getD_cons_succ, hw.len]
    refine Ev.loopF (I22 σ.toks.length σ bs l) (fun i => l.length - i) 0 ⟨by simp [upd_some], by simp, by simpa [upd_some, pre] using ho1, hk1⟩ ?_
    rintro i e σ2 ⟨h16, hi, h0, hk2⟩ hf
    have h14 : e 14 = w := (hf 14 (by decide)).trans (by simp [upd_some])
    have h15 : e 15 = .int .i64 l.length := (hf 15 (by decide)).trans (by simp [upd_some])
    clear hf
    have hpl := pre_len (bs := bs) hl hi
    have hpn := putN_nat_len (n := l.length) (by omega)
    by_cases hlt : i < l.length
    · have hlt' : (i : Int) < l.length := by omega
      have hx := hl l[i] (List.getElem_mem hlt)
      have hwi : IntKind.i64.wrap ((i : Int) + 1) = ((i + 1 : Nat) : Int) := by rw [show ((i : Int) + 1) = ((i + 1 : Nat) : Int) from by omega]; exact wrap_nat (by omega)
      have hq := IsI.made (σ := σ2) (o := itm0) (x := l[i])
      obtain ⟨σ3, hσ3⟩ : ∃ σ3 : St, σ3 = ⟨(σ2.objs ++ [Ob.cells (itmCells itm0)]).set σ2.objs.length (Ob.cells (itmCells l[i])), σ2.toks⟩ := ⟨_, rfl⟩
      have hk3 : Keep σ2 σ3 := by rw [hσ3]; exact (Keep.refl σ2).made _ _
      obtain ⟨r4, σ4, hd4, hk4, hb4⟩ := refentry_does l[i].ent hx.1.2 hx.2 σ3
      rw [← hσ3] at hq
      have hq4 : IsI σ4 σ2.objs.length l[i] := hk4.1 _ _ hq
      have h0' := (h0.keep hk3).keep hk4
      have hps := pre_len (bs := bs) hl (i := i + 1) hlt
      rw [pre_succ hlt] at hps
      simp only [List.length_append, runS] at hps
      obtain ⟨r5, σ5, hd5, hk5, hb5⟩ := refput_does h0'.bts hx.1.1 (by omega) σ4
      obtain ⟨r6, σ6, hd6, hk6, hb6⟩ := refrun21_does hb5.bts (entryS l[i].ent) (by simp only [List.length_append]; omega) σ5
      simp only [k22_r0_e, k22_r1_e, k22_r2_e, k22_r3_e, k22_r4_e, k22_r5_e, k22_r6_e, k22_r7_e, k22_l0_e, k22_r8_e, k22_e, WK0, WK1, WK2, WK3, WK4, WK5, true_implies, vop, evAll, evOpt, evParts, vbuiltin, vun, vextract, Option.map_some, Option.map_none, Nat.reduceLT, Nat.reduceEqDiff, ↓reduceIte, reduceCtorEq, Nat.reduceAdd, Int.reduceLT, Int.reduceNeg, decide_true, decide_false, Bool.not_true, Bool.not_false, ne_eq, not_true_eq_false, not_false_eq_true, List.append_nil, Bool.false_eq_true, List.getElem?_cons_zero, List.getElem?_cons_succ, and_self, and_true, true_and, h14, h15, h16, hlt', hw.addr hlt, ItemsV.load hlt, Z66, vbox, vcells, IsI.new, FI0, FI1, ← hσ3, hq.ent]
      refine KD.ret hd4 ?_
      simp only [k22_r0_e, k22_r1_e, k22_r2_e, k22_r3_e, k22_r4_e, k22_r5_e, k22_r6_e, k22_r7_e, k22_l0_e, k22_r8_e, k22_e, WK0, WK1, WK2, WK3, WK4, WK5, true_implies, vop, evAll, evOpt, evParts, vbuiltin, vun, vextract, Option.map_some, Option.map_none, Nat.reduceLT, Nat.reduceEqDiff, ↓reduceIte, reduceCtorEq, Nat.reduceAdd, Int.reduceLT, Int.reduceNeg, decide_true, decide_false, Bool.not_true, Bool.not_false, ne_eq, not_true_eq_false, not_false_eq_true, List.append_nil, Bool.false_eq_true, List.getElem?_cons_zero, List.getElem?_cons_succ, and_self, and_true, true_and, h14, h15, h16, FI0, FI1, hq4.term]
      refine KD.ret hd5 ?_
      simp only [k22_r0_e, k22_r1_e, k22_r2_e, k22_r3_e, k22_r4_e, k22_r5_e, k22_r6_e, k22_r7_e, k22_l0_e, k22_r8_e, k22_e, WK0, WK1, WK2, WK3, WK4, WK5, true_implies, vop, evAll, evOpt, evParts, vbuiltin, vun, vextract, Option.map_some, Option.map_none, Nat.reduceLT, Nat.reduceEqDiff, ↓reduceIte, reduceCtorEq, Nat.reduceAdd, Int.reduceLT, Int.reduceNeg, decide_true, decide_false, Bool.not_true, Bool.not_false, ne_eq, not_true_eq_false, not_false_eq_true, List.append_nil, Bool.false_eq_true, List.getElem?_cons_zero, List.getElem?_cons_succ, and_self, and_true, true_and, h14, h15, h16, FI0, FI1, hb4.str T22 U27 T9]
      refine KD.ret hd6 ?_
      simp only [k22_r0_e, k22_r1_e, k22_r2_e, k22_r3_e, k22_r4_e, k22_r5_e, k22_r6_e, k22_r7_e, k22_l0_e, k22_r8_e, k22_e, WK0, WK1, WK2, WK3, WK4, WK5, true_implies, vop, evAll, evOpt, evParts, vbuiltin, vun, vextract, Option.map_some, Option.map_none, Nat.reduceLT, Nat.reduceEqDiff, ↓reduceIte, reduceCtorEq, Nat.reduceAdd, Int.reduceLT, Int.reduceNeg, decide_true, decide_false, Bool.not_true, Bool.not_false, ne_eq, not_true_eq_false, not_false_eq_true, List.append_nil, Bool.false_eq_true, List.getElem?_cons_zero, List.getElem?_cons_succ, and_self, and_true, true_and, h14, h15, h16, hwi]
      refine ⟨i + 1, ⟨by simp [upd_some], hlt, ?_, (((hk2.trans hk3).trans hk4).trans hk5).trans hk6⟩, by omega⟩
      simp only [upd_some, ↓reduceIte, Nat.reduceEqDiff]
      rw [pre_succ hlt]
      exact hb6.low (by have h1 := hk2.2.1; have h2 := hk3.2.1; have h3 := hk4.2.1; have h4 := hk5.2.1; omega)
    · have hlt' : ¬ (i : Int) < l.length := by omega
      have hie : i = l.length := by omega
      subst hie
      simp only [k22_r0_e, k22_r1_e, k22_r2_e, k22_r3_e, k22_r4_e, k22_r5_e, k22_r6_e, k22_r7_e, k22_l0_e, k22_r8_e, k22_e, WK0, WK1, WK2, WK3, WK4, WK5, true_implies, vop, evAll, evOpt, evParts, vbuiltin, vun, vextract, Option.map_some, Option.map_none, Nat.reduceLT, Nat.reduceEqDiff, ↓reduceIte, reduceCtorEq, Nat.reduceAdd, Int.reduceLT, Int.reduceNeg, decide_true, decide_false, Bool.not_true, Bool.not_false, ne_eq, not_true_eq_false, not_false_eq_true, List.append_nil, Bool.false_eq_true, List.getElem?_cons_zero, List.getElem?_cons_succ, and_self, and_true, true_and, h14, h15, h16, hlt']
      rw [pre_all] at h0
      exact ⟨_, rfl, hk2, h0⟩
  obtain ⟨r, σ', h1, r', rfl, h2, h3⟩ := key
  exact ⟨r', σ', h1, h2, h3⟩
end Go.Proofs.Ytcogghmmlndmgaa.Q
