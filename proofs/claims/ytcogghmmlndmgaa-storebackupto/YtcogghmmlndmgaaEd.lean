import Derived.Test.YtcogghmmlndmgaaEc
set_option linter.unusedVariables false
set_option linter.unusedSimpArgs false
namespace Go.Proofs.Ytcogghmmlndmgaa.Q
open Go Go.RowKit Go.Proofs

/-- A field of an entry is set. -/
theorem IsE.step {σ0 σ : St} {q rr : Nat} {o e : Ent} (h : IsE σ q o) {σ' : St} (hs : σ' = ⟨σ.objs.set q (Ob.cells (entCells e)), σ.toks⟩) : IsE σ' q e ∧ KeepX q σ σ' := by
  subst hs
  exact ⟨obj_set h, KeepX.set q _ _⟩

theorem refreadentry_does {v : V} {bs : List UInt8} (hv : BtsV v bs) (hlen : bs.length ≤ 140737488000000) (σ : St) :
    ∃ σ', Does Try.prog noPrim 57 [v] σ (entR bs) σ' ∧ Keep σ σ' := by
  have key : ∃ q σ', Does Try.prog noPrim 57 [v] σ q σ' ∧ q = entR bs ∧ Keep σ σ' := by
    apply k57_is.does (by simp)
    have hn0 : IsE ⟨σ.objs ++ [.cells (entCells ent0)], σ.toks⟩ σ.objs.length ent0 := push_new _ _
    have hk0 := (Keep.refl σ).push (.cells (entCells ent0))
    have ho1 : OwnV 5 σ.toks.length ⟨σ.objs ++ [.cells (entCells ent0)], σ.toks⟩ (.slice .exact 1 [] 0) [] := .inr ⟨_, rfl, .inl rfl⟩
    obtain ⟨v', σ1, ha, ho, hk1, hob⟩ := ho1.append' BT (σ0 := ⟨σ.objs ++ [Ob.cells (entCells ent0)], σ.toks⟩) rfl (Keep.refl _) T22 hv (by simp; omega)
    rw [List.nil_append] at ho
    obtain ⟨rr, hrr⟩ : ∃ rr, rr = σ1.objs.length := ⟨_, rfl⟩
    have hrr' : rr = σ.objs.length + 1 := by rw [hrr, hob]; simp
    have hle : σ.objs.length ≤ rr := by omega
    have hne : σ.objs.length ≠ rr := by omega
    have hr1 : Rdr ⟨σ1.objs ++ [Ob.cells [v', .bool false]], σ1.toks⟩ rr bs false := ⟨v', by rw [hrr]; exact push_new _ _, ho.bts⟩
    have hk1' := hk1.push (Ob.cells [v', .bool false])
    simp only [k57_r0_e, k57_r1_e, k57_r2_e, k57_r3_e, k57_r4_e, k57_r5_e, k57_r6_e, k57_r7_e, k57_r8_e, k57_r9_e, k57_e, WK0, WK1, WK2, WK3, WK4, WK5, true_implies, vop, evAll, evOpt, evParts, vbuiltin, vun, vextract, Option.map_some, Option.map_none, Nat.reduceLT, Nat.reduceEqDiff, ↓reduceIte, reduceCtorEq, Nat.reduceAdd, Int.reduceLT, Int.reduceNeg, decide_true, decide_false, Bool.not_true, Bool.not_false, ne_eq, not_true_eq_false, not_false_eq_true, List.append_nil, Bool.false_eq_true, List.getElem?_cons_zero, List.getElem?_cons_succ, and_self, and_true, true_and, List.getD_cons_zero, Z64, vbox, vcells, build0 BT, ha, BV v' ho.bts.one]
    rw [← hrr]
    obtain ⟨a1, σ2, ha1, hd2, hk2, hr2, b2⟩ := refnumber_step hr1 (Nat.le_refl _) (by omega)
    have k2 : Keep σ σ2 := (hk0.trans hk1').viaX hk2 hle
    have n2 : IsE σ2 σ.objs.length ent0 := hk2.1 _ _ hne (hk1'.1 _ _ hn0)
    refine KD.ret hd2 ?_
    simp only [k57_r0_e, k57_r1_e, k57_r2_e, k57_r3_e, k57_r4_e, k57_r5_e, k57_r6_e, k57_r7_e, k57_r8_e, k57_r9_e, k57_e, WK0, WK1, WK2, WK3, WK4, WK5, true_implies, vop, evAll, evOpt, evParts, vbuiltin, vun, vextract, Option.map_some, Option.map_none, Nat.reduceLT, Nat.reduceEqDiff, ↓reduceIte, reduceCtorEq, Nat.reduceAdd, Int.reduceLT, Int.reduceNeg, decide_true, decide_false, Bool.not_true, Bool.not_false, ne_eq, not_true_eq_false, not_false_eq_true, List.append_nil, Bool.false_eq_true, List.getElem?_cons_zero, List.getElem?_cons_succ, and_self, and_true, true_and, Z64, vbox, vcells, BE1, IsE.new]
    have hq := hr2.lt
    obtain ⟨q, hqe⟩ : ∃ q, q = σ2.objs.length := ⟨_, rfl⟩
    rw [← hqe] at hq ⊢
    have hql : σ.objs.length < q := by rw [hqe]; exact (List.getElem?_eq_some_iff.1 n2).1
    obtain ⟨σ3, hσ3⟩ : ∃ σ3 : St, σ3 = ⟨(σ2.objs ++ [Ob.cells (entCells ent0)]).set q (Ob.cells (entCells ⟨(a1.1 : Nat), 0, 0, 0, []⟩)), σ2.toks⟩ := ⟨_, rfl⟩
    have q3 : IsE σ3 q ⟨(a1.1 : Nat), 0, 0, 0, []⟩ := by rw [hσ3, hqe]; exact obj_set (push_new _ _)
    have x3 : KeepX q σ2 σ3 := by rw [hσ3]; exact ((KeepX.refl q σ2).push _).trans (KeepX.set q _ _)
    rw [← hσ3]
    obtain ⟨a2, σ4, ha2, hd4, hk4, hr4, b4⟩ := refnumber_step (hr2.keep x3 (by omega)) b2 (by omega)
    have k4 : Keep σ σ4 := (k2.viaX x3 (by omega)).viaX hk4 hle
    have n4 : IsE σ4 σ.objs.length ent0 := hk4.1 _ _ hne (x3.1 _ _ (by omega) n2)
    have q4 : IsE σ4 q ⟨(a1.1 : Nat), 0, 0, 0, []⟩ := hk4.1 _ _ (by omega) q3
    refine KD.ret hd4 ?_
    simp only [k57_r0_e, k57_r1_e, k57_r2_e, k57_r3_e, k57_r4_e, k57_r5_e, k57_r6_e, k57_r7_e, k57_r8_e, k57_r9_e, k57_e, WK0, WK1, WK2, WK3, WK4, WK5, true_implies, vop, evAll, evOpt, evParts, vbuiltin, vun, vextract, Option.map_some, Option.map_none, Nat.reduceLT, Nat.reduceEqDiff, ↓reduceIte, reduceCtorEq, Nat.reduceAdd, Int.reduceLT, Int.reduceNeg, decide_true, decide_false, Bool.not_true, Bool.not_false, ne_eq, not_true_eq_false, not_false_eq_true, List.append_nil, Bool.false_eq_true, List.getElem?_cons_zero, List.getElem?_cons_succ, and_self, and_true, true_and, FE1, q4.put1]
    obtain ⟨σ5, hσ5⟩ : ∃ σ5 : St, σ5 = ⟨σ4.objs.set q (Ob.cells (entCells ⟨(a1.1 : Nat), (a2.1 : Nat), 0, 0, []⟩)), σ4.toks⟩ := ⟨_, rfl⟩
    obtain ⟨q5, x5⟩ := q4.step (σ0 := σ) (rr := rr) hσ5
    rw [← hσ5]
    obtain ⟨a3, σ6, ha3, hd6, hk6, hr6, b6⟩ := refnumber_step (hr4.keep x5 (by omega)) b4 (by omega)
    have k6 : Keep σ σ6 := (k4.viaX x5 (by omega)).viaX hk6 hle
    have n6 : IsE σ6 σ.objs.length ent0 := hk6.1 _ _ hne (x5.1 _ _ (by omega) n4)
    have q6 : IsE σ6 q ⟨(a1.1 : Nat), (a2.1 : Nat), 0, 0, []⟩ := hk6.1 _ _ (by omega) q5
    refine KD.ret hd6 ?_
    simp only [k57_r0_e, k57_r1_e, k57_r2_e, k57_r3_e, k57_r4_e, k57_r5_e, k57_r6_e, k57_r7_e, k57_r8_e, k57_r9_e, k57_e, WK0, WK1, WK2, WK3, WK4, WK5, true_implies, vop, evAll, evOpt, evParts, vbuiltin, vun, vextract, Option.map_some, Option.map_none, Nat.reduceLT, Nat.reduceEqDiff, ↓reduceIte, reduceCtorEq, Nat.reduceAdd, Int.reduceLT, Int.reduceNeg, decide_true, decide_false, Bool.not_true, Bool.not_false, ne_eq, not_true_eq_false, not_false_eq_true, List.append_nil, Bool.false_eq_true, List.getElem?_cons_zero, List.getElem?_cons_succ, and_self, and_true, true_and, FE2, q6.put2]
    obtain ⟨σ7, hσ7⟩ : ∃ σ7 : St, σ7 = ⟨σ6.objs.set q (Ob.cells (entCells ⟨(a1.1 : Nat), (a2.1 : Nat), (a3.1 : Nat), 0, []⟩)), σ6.toks⟩ := ⟨_, rfl⟩
    obtain ⟨q7, x7⟩ := q6.step (σ0 := σ) (rr := rr) hσ7
    rw [← hσ7]
    obtain ⟨a4, σ8, ha4, hd8, hk8, hr8, b8⟩ := refnumber_step (hr6.keep x7 (by omega)) b6 (by omega)
    have k8 : Keep σ σ8 := (k6.viaX x7 (by omega)).viaX hk8 hle
    have n8 : IsE σ8 σ.objs.length ent0 := hk8.1 _ _ hne (x7.1 _ _ (by omega) n6)
    have q8 : IsE σ8 q ⟨(a1.1 : Nat), (a2.1 : Nat), (a3.1 : Nat), 0, []⟩ := hk8.1 _ _ (by omega) q7
    refine KD.ret hd8 ?_
    simp only [k57_r0_e, k57_r1_e, k57_r2_e, k57_r3_e, k57_r4_e, k57_r5_e, k57_r6_e, k57_r7_e, k57_r8_e, k57_r9_e, k57_e, WK0, WK1, WK2, WK3, WK4, WK5, true_implies, vop, evAll, evOpt, evParts, vbuiltin, vun, vextract, Option.map_some, Option.map_none, Nat.reduceLT, Nat.reduceEqDiff, ↓reduceIte, reduceCtorEq, Nat.reduceAdd, Int.reduceLT, Int.reduceNeg, decide_true, decide_false, Bool.not_true, Bool.not_false, ne_eq, not_true_eq_false, not_false_eq_true, List.append_nil, Bool.false_eq_true, List.getElem?_cons_zero, List.getElem?_cons_succ, and_self, and_true, true_and, FE3, q8.put3]
    obtain ⟨σ9, hσ9⟩ : ∃ σ9 : St, σ9 = ⟨σ8.objs.set q (Ob.cells (entCells ⟨(a1.1 : Nat), (a2.1 : Nat), (a3.1 : Nat), (a4.1 : Nat), []⟩)), σ8.toks⟩ := ⟨_, rfl⟩
    obtain ⟨q9, x9⟩ := q8.step (σ0 := σ) (rr := rr) hσ9
    rw [← hσ9]
    obtain ⟨a5, σa, ha5, hda, hka, hra, ba⟩ := refnumber_step (hr8.keep x9 (by omega)) b8 (by omega)
    obtain ⟨a6, w, σb, ha6, hdb, hkb, hrb, hwb, bb, bb'⟩ := refbytes_step hra ba (by omega) (a5.1 : Nat)
    have kb : Keep σ σb := ((k8.viaX x9 (by omega)).viaX hka hle).viaX hkb hle
    have nb : IsE σb σ.objs.length ent0 := hkb.1 _ _ hne (hka.1 _ _ hne (x9.1 _ _ (by omega) n8))
    have qb : IsE σb q ⟨(a1.1 : Nat), (a2.1 : Nat), (a3.1 : Nat), (a4.1 : Nat), []⟩ := hkb.1 _ _ (by omega) (hka.1 _ _ (by omega) q9)
    refine KD.ret hda ?_
    simp only [k57_r0_e, k57_r1_e, k57_r2_e, k57_r3_e, k57_r4_e, k57_r5_e, k57_r6_e, k57_r7_e, k57_r8_e, k57_r9_e, k57_e, WK0, WK1, WK2, WK3, WK4, WK5, true_implies, vop, evAll, evOpt, evParts, vbuiltin, vun, vextract, Option.map_some, Option.map_none, Nat.reduceLT, Nat.reduceEqDiff, ↓reduceIte, reduceCtorEq, Nat.reduceAdd, Int.reduceLT, Int.reduceNeg, decide_true, decide_false, Bool.not_true, Bool.not_false, ne_eq, not_true_eq_false, not_false_eq_true, List.append_nil, Bool.false_eq_true, List.getElem?_cons_zero, List.getElem?_cons_succ, and_self, and_true, true_and]
    refine KD.ret hdb ?_
    obtain ⟨e, he⟩ : ∃ e : Ent, e = ⟨(a1.1 : Nat), (a2.1 : Nat), (a3.1 : Nat), (a4.1 : Nat), a6.1⟩ := ⟨_, rfl⟩
    have hrE' : rEnt bs = (e, a6.2) := by
      rw [he, ha6, ha5, ha4, ha3, ha2, ha1]; rfl
    obtain ⟨σc, hσc⟩ : ∃ σc : St, σc = ⟨σb.objs.set q (Ob.cells (entCells e)), σb.toks⟩ := ⟨_, rfl⟩
    obtain ⟨qc, xc⟩ := qb.step (σ0 := σ) (rr := rr) hσc
    have kc : Keep σ σc := kb.viaX xc (by omega)
    have nc : IsE σc σ.objs.length ent0 := xc.1 _ _ (by omega) nb
    have hrc := hrb.keep xc (by omega)
    obtain ⟨u, hu, hub⟩ := hrc
    obtain ⟨σd, hdd, hkd⟩ := refvalid_does e σc
    have nd : IsE σd σ.objs.length ent0 := hkd.1 _ _ nc
    have qd : IsE σd q e := hkd.1 _ _ qc
    have put4 := qb.put4 a6.1
    simp only [← he, ← hσc] at put4
    have fin : ∀ (σ : St) (r : Nat) (o e : Ent), IsE σ r o → vload Try.prog (σ.objs.set r (Ob.cells (entCells e))) 64 (.optr r 0) = some (.agg (entCells e)) := fun σ r o e h => IsE.load (σ := ⟨σ.objs.set r (.cells (entCells e)), σ.toks⟩) (obj_set h)
    have hR : readEntS bs = if (!a6.2.2 && decide ((a6.2.1.length : Int) = 0)) = true ∧ entOk e = true then some e else none := by unfold readEntS; rw [hrE']
    cases hbad : a6.2.2 with
    | true =>
      rw [hbad] at hR hu
      simp at hR
      simp only [k57_r0_e, k57_r1_e, k57_r2_e, k57_r3_e, k57_r4_e, k57_r5_e, k57_r6_e, k57_r7_e, k57_r8_e, k57_r9_e, k57_e, WK0, WK1, WK2, WK3, WK4, WK5, true_implies, vop, evAll, evOpt, evParts, vbuiltin, vun, vextract, Option.map_some, Option.map_none, Nat.reduceLT, Nat.reduceEqDiff, ↓reduceIte, reduceCtorEq, Nat.reduceAdd, Int.reduceLT, Int.reduceNeg, decide_true, decide_false, Bool.not_true, Bool.not_false, ne_eq, not_true_eq_false, not_false_eq_true, List.append_nil, Bool.false_eq_true, List.getElem?_cons_zero, List.getElem?_cons_succ, and_self, and_true, true_and, hwb.str T22 U27 T9, FE4, put4, FB1, FB0, vload_obj hu G4, vload_obj hu G22, BE0, nc.put, fin _ _ _ _ nc]
      refine ⟨?_, kc.setNew (Nat.le_refl _) _⟩
      simp [entR, hR]
    | false =>
      rw [hbad] at hR hu
      by_cases hl : (0 : Int) < (a6.2.1.length : Int)
      · have : ¬ ((a6.2.1.length : Int) = 0) := by omega
        rw [decide_eq_false this] at hR
        simp at hR
        simp only [k57_r0_e, k57_r1_e, k57_r2_e, k57_r3_e, k57_r4_e, k57_r5_e, k57_r6_e, k57_r7_e, k57_r8_e, k57_r9_e, k57_e, WK0, WK1, WK2, WK3, WK4, WK5, true_implies, vop, evAll, evOpt, evParts, vbuiltin, vun, vextract, Option.map_some, Option.map_none, Nat.reduceLT, Nat.reduceEqDiff, ↓reduceIte, reduceCtorEq, Nat.reduceAdd, Int.reduceLT, Int.reduceNeg, decide_true, decide_false, Bool.not_true, Bool.not_false, ne_eq, not_true_eq_false, not_false_eq_true, List.append_nil, Bool.false_eq_true, List.getElem?_cons_zero, List.getElem?_cons_succ, and_self, and_true, true_and, hwb.str T22 U27 T9, FE4, put4, FB1, FB0, vload_obj hu G4, vload_obj hu G22, hub.len T22, hl, BE0, nc.put, fin _ _ _ _ nc]
        refine ⟨?_, kc.setNew (Nat.le_refl _) _⟩
        simp [entR, hR]
      · have : ((a6.2.1.length : Int) = 0) := by omega
        rw [decide_eq_true this] at hR
        simp only [k57_r0_e, k57_r1_e, k57_r2_e, k57_r3_e, k57_r4_e, k57_r5_e, k57_r6_e, k57_r7_e, k57_r8_e, k57_r9_e, k57_e, WK0, WK1, WK2, WK3, WK4, WK5, true_implies, vop, evAll, evOpt, evParts, vbuiltin, vun, vextract, Option.map_some, Option.map_none, Nat.reduceLT, Nat.reduceEqDiff, ↓reduceIte, reduceCtorEq, Nat.reduceAdd, Int.reduceLT, Int.reduceNeg, decide_true, decide_false, Bool.not_true, Bool.not_false, ne_eq, not_true_eq_false, not_false_eq_true, List.append_nil, Bool.false_eq_true, List.getElem?_cons_zero, List.getElem?_cons_succ, and_self, and_true, true_and, hwb.str T22 U27 T9, FE4, put4, FB1, FB0, vload_obj hu G4, vload_obj hu G22, hub.len T22, hl, qc.load]
        refine KD.ret hdd ?_
        cases hv : entOk e with
        | false =>
          rw [hv] at hR
          simp at hR
          simp only [k57_r0_e, k57_r1_e, k57_r2_e, k57_r3_e, k57_r4_e, k57_r5_e, k57_r6_e, k57_r7_e, k57_r8_e, k57_r9_e, k57_e, WK0, WK1, WK2, WK3, WK4, WK5, true_implies, vop, evAll, evOpt, evParts, vbuiltin, vun, vextract, Option.map_some, Option.map_none, Nat.reduceLT, Nat.reduceEqDiff, ↓reduceIte, reduceCtorEq, Nat.reduceAdd, Int.reduceLT, Int.reduceNeg, decide_true, decide_false, Bool.not_true, Bool.not_false, ne_eq, not_true_eq_false, not_false_eq_true, List.append_nil, Bool.false_eq_true, List.getElem?_cons_zero, List.getElem?_cons_succ, and_self, and_true, true_and, BE0, nd.put, fin _ _ _ _ nd]
          refine ⟨?_, (kc.trans hkd).setNew (Nat.le_refl _) _⟩
          simp [entR, hR]
        | true =>
          rw [hv] at hR
          simp at hR
          simp only [k57_r0_e, k57_r1_e, k57_r2_e, k57_r3_e, k57_r4_e, k57_r5_e, k57_r6_e, k57_r7_e, k57_r8_e, k57_r9_e, k57_e, WK0, WK1, WK2, WK3, WK4, WK5, true_implies, vop, evAll, evOpt, evParts, vbuiltin, vun, vextract, Option.map_some, Option.map_none, Nat.reduceLT, Nat.reduceEqDiff, ↓reduceIte, reduceCtorEq, Nat.reduceAdd, Int.reduceLT, Int.reduceNeg, decide_true, decide_false, Bool.not_true, Bool.not_false, ne_eq, not_true_eq_false, not_false_eq_true, List.append_nil, Bool.false_eq_true, List.getElem?_cons_zero, List.getElem?_cons_succ, and_self, and_true, true_and, qd.load, nd.put, fin _ _ _ _ nd]
          refine ⟨?_, (kc.trans hkd).setNew (Nat.le_refl _) _⟩
          simp [entR, hR]
  obtain ⟨q, σ', h1, rfl, h3⟩ := key
  exact ⟨σ', h1, h3⟩
end Go.Proofs.Ytcogghmmlndmgaa.Q
