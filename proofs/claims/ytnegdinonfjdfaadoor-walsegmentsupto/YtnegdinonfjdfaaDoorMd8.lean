/- A part of the proof: Kh, Ki, Kj, Kk, Rw, Kl, Sa, Sb, Sc, Sd, Se, Sf, Va, Sg, Si, Sj, Vb, Vc, Vd, Ua, Ub, Ve, Vf, Vg. -/
import Derived.Test.YtnegdinonfjdfaaDoorMd7
import Derived.Test.YtnegdinonfjdfaaDoorMd5
/- Sync, Truncate, Rename, Remove. -/
set_option linter.unusedVariables false
set_option linter.unusedSimpArgs false
set_option maxRecDepth 100000
namespace Go.Proofs.YtnegdinonfjdfaaDoor.Q
open Go Go.RowKit Go.Proofs
theorem rowOf_news {objs : List Ob} {v : V} {q : Option Nat} {cs : List V} (h : rowOf objs v = some (q, cs)) : vnewsO Tryd.prog objs 22 v 1 = some (cs, cs.length) := by
  rcases rowOf_spec h with ⟨rfl, rfl, rfl⟩ | ⟨r, full, rfl, rfl, hr, hl, hc⟩
  · simp [vnewsO, vnews, pTB]
  · have h2 : List.take cs.length full = cs := hc.symm
    simp [vnewsO, vnews, pTB, hr, hl, h2]
theorem Has.facts {σ : St} {r rm : Nat} {d : Dk} {fs a b : List Ent} {p : Ent} {n : List UInt8} (h : DiskAt σ r d rm fs) (hok : d.Ok) (hA : Has d fs a b p n) :
    vload Tryd.prog σ.objs 22 (.optr p.2.rf 0) = some p.2.s ∧ vload Tryd.prog σ.objs 22 (.optr p.2.rf 1) = some p.2.w ∧ vlen Tryd.prog 22 p.2.s = some (.int .i64 (p.1.safe.length : Nat)) ∧ vlen Tryd.prog 22 p.2.w = some (.int .i64 (p.1.wait.length : Nat)) ∧
      p.1.safe.length + p.1.wait.length ≤ 1048576 ∧ namedD n = true ∧ (p.2.rs.toList ++ p.2.rw.toList).Nodup ∧ p.2.rf ∉ p.2.rs.toList ++ p.2.rw.toList := by
  obtain ⟨g1, g2, g3⟩ := hA.ids h
  have hgt := hok.get hA.g
  simp only [FO.ids, List.nodup_cons] at g2
  exact ⟨by rw [vload_obj g1.ob pGB]; rfl, by rw [vload_obj g1.ob pGB]; rfl, by rw [rowOf_len g1.s, List.length_map], by rw [rowOf_len g1.w, List.length_map], hgt.2.2.2, hgt.2.2.1, g2.2, g2.1⟩
theorem sync_sees {σ : St} {r rm : Nat} {d : Dk} {fs : List Ent} {n : List UInt8} (h : DiskAt σ r d rm fs) (hok : d.Ok) (hw : d.writes < 4611686018427387904) :
    ∃ q σ', Does Tryd.prog prims 48 [.optr r 0, .str n] σ q σ' ∧ (q = .ret (.int .i64 ((syncD n d).1 : Nat)) ∧ Next σ r rm fs σ' (syncD n d).2) := by
  apply k48_is.does (by simp)
  simp only [k48_a, WK, vop, evAll, evOpt, evParts, vbuiltin, vun, vextract, Nat.reduceLT, Nat.reduceEqDiff, ↓reduceIte, reduceCtorEq, Nat.reduceAdd, Int.reduceLT, Int.reduceNeg, valloc_std, noSB, vhot, List.getD_cons_zero, List.getD_cons_succ]
  by_cases hz : thereD d n = 0
  · obtain ⟨a, b, p, hA, hr⟩ := there_ok h hok hz
    refine KD.ret (there_yes h hr hA) ?_
    obtain ⟨σ1, r1, D1, r3, r4, σ2, r5, r6⟩ := rawNext h hok hw
    obtain ⟨f1, f2, f3, f4, f5⟩ := raw_files d
    simp only [k48_a, WK, vop, evAll, evOpt, evParts, vbuiltin, vun, vextract, Nat.reduceLT, Nat.reduceEqDiff, ↓reduceIte, reduceCtorEq, Nat.reduceAdd, Int.reduceLT, Int.reduceNeg, valloc_std, noSB, vhot]
    refine KD.ret r1 ?_
    have hz' : ¬ thereD d n ≠ 0 := fun h => h hz
    cases hgo : (rawD d).1 with
    | true =>
      have e : syncD n d = (20, offD d.keep (rawD d).2) := by unfold syncD; rw [if_neg hz', if_pos hgo]
      simp only [k48_a, WK, vop, evAll, evOpt, evParts, vbuiltin, vun, vextract, Nat.reduceLT, Nat.reduceEqDiff, ↓reduceIte, reduceCtorEq, Nat.reduceAdd, Int.reduceLT, Int.reduceNeg, valloc_std, noSB, vhot]
      refine KD.ret r5 ?_
      simp only [k48_a, WK, vop, evAll, evOpt, evParts, vbuiltin, vun, vextract, Nat.reduceLT, Nat.reduceEqDiff, ↓reduceIte, reduceCtorEq, Nat.reduceAdd, Int.reduceLT, Int.reduceNeg, valloc_std, noSB, vhot, e]
      exact ⟨rfl, r6⟩
    | false =>
      have A1 := hA.files (d2 := (rawD d).2) f1
      have e : syncD n d = (0, { (rawD d).2 with files := putF ⟨n, p.1.safe ++ p.1.wait, []⟩ d.files }) := by
        unfold syncD; rw [if_neg hz', if_neg (by rw [hgo]; simp), hA.g]; rfl
      obtain ⟨g1, g2, g3⟩ := A1.ids D1
      obtain ⟨l1, l2, v1, v2, hl, hn, hnd, hrf⟩ := A1.facts D1 hok.raw
      obtain ⟨s', qs, σa, ha, hsa, hka, hqa, h1a⟩ := rowApp g1.s (rowOf_news g1.w) (byteV_one _) (by simp; omega)
      obtain ⟨N1, hob⟩ := D1.upd hok.raw A1 (f' := ⟨n, p.1.safe ++ p.1.wait, []⟩) (s' := s') (w' := .nils) (qs := qs) (qw := none) (hka.mono fun x hx => .inl (List.mem_append_left _ hx)) (by rw [List.map_append]; exact hsa) rfl (fun x hx => by
        rcases List.mem_append.1 hx with h | h
        · rcases hqa x h with h | h
          · exact .inl (List.mem_append_left _ h)
          · exact .inr h
        · cases h) (by cases qs <;> simp) rfl
      obtain ⟨σb, hσb⟩ : ∃ σb : St, σb = ⟨σa.objs.set p.2.rf (.cells [s', p.2.w]), σa.toks⟩ := ⟨_, rfl⟩
      have st1 : vstore Tryd.prog σa 22 (.optr p.2.rf 0) s' = some σb := by rw [vstore_obj hob SBB h1a (by simp), hσb]; rfl
      have hobb : σb.objs[p.2.rf]? = some (.cells [s', p.2.w]) := by rw [hσb]; exact obj_set hob
      have st2 : vstore Tryd.prog σb 22 (.optr p.2.rf 1) .nils = some ⟨σa.objs.set p.2.rf (.cells [s', .nils]), σa.toks⟩ := by
        rw [vstore_obj hobb SBB rfl (by simp), hσb]; simp [List.set_set]
      simp only [k48_a, WK, vop, evAll, evOpt, evParts, vbuiltin, vun, vextract, Nat.reduceLT, Nat.reduceEqDiff, ↓reduceIte, reduceCtorEq, Nat.reduceAdd, Int.reduceLT, Int.reduceNeg, valloc_std, noSB, vhot, pFF0, pFF1, l1, l2, ha, st1, st2, nilEP, e]
      rw [f1] at N1
      exact ⟨rfl, Next.trans r3 (fun x hx => .inl hx) N1⟩
  · refine KD.ret (there_no h n hz) ?_
    have hz' : ¬ ((thereD d n : Nat) : Int) = 0 := by omega
    have e : syncD n d = (thereD d n, d) := by unfold syncD; rw [if_pos hz]
    simp only [k48_a, WK, vop, evAll, evOpt, evParts, vbuiltin, vun, vextract, Nat.reduceLT, Nat.reduceEqDiff, ↓reduceIte, reduceCtorEq, Nat.reduceAdd, Int.reduceLT, Int.reduceNeg, valloc_std, noSB, vhot, hz', e]
    exact Next.refl h
theorem trunc_sees {σ : St} {r rm : Nat} {d : Dk} {fs : List Ent} {n : List UInt8} {k : Int} (h : DiskAt σ r d rm fs) (hok : d.Ok) (hw : d.writes < 4611686018427387904) :
    ∃ q σ', Does Tryd.prog prims 73 [.optr r 0, .str n, .int .i64 k] σ q σ' ∧ (q = .ret (.int .i64 ((truncD n k d).1 : Nat)) ∧ Next σ r rm fs σ' (truncD n k d).2) := by
  apply k73_is.does (by simp)
  simp only [k73_a, WK, vop, evAll, evOpt, evParts, vbuiltin, vun, vextract, Nat.reduceLT, Nat.reduceEqDiff, ↓reduceIte, reduceCtorEq, Nat.reduceAdd, Int.reduceLT, Int.reduceNeg, valloc_std, noSB, vhot, List.getD_cons_zero, List.getD_cons_succ]
  by_cases hz : thereD d n = 0
  · obtain ⟨a, b, p, hA, hr⟩ := there_ok h hok hz
    refine KD.ret (there_yes h hr hA) ?_
    have hz' : ¬ thereD d n ≠ 0 := fun h => h hz
    obtain ⟨l1, l2, v1, v2, hl, hn, hnd, hrf⟩ := hA.facts h hok
    have hw1 : IntKind.i64.wrap ((p.1.safe.length : Int) + (p.1.wait.length : Int)) = ((p.1.safe.length + p.1.wait.length : Nat) : Int) := by rw [wrap_i64 (by omega) (by omega)]; omega
    by_cases hneg : k < 0
    · have e : truncD n k d = (3, d) := by unfold truncD; rw [if_neg hz', hA.g]; simp only [Option.getD_some]; rw [if_pos (.inl hneg)]
      simp only [k73_a, WK, vop, evAll, evOpt, evParts, vbuiltin, vun, vextract, Nat.reduceLT, Nat.reduceEqDiff, ↓reduceIte, reduceCtorEq, Nat.reduceAdd, Int.reduceLT, Int.reduceNeg, valloc_std, noSB, vhot, hneg, decide_true, e]
      exact ⟨rfl, Next.refl h⟩
    · by_cases hbig : ((p.1.safe.length + p.1.wait.length : Nat) : Int) < k
      · have e : truncD n k d = (3, d) := by unfold truncD; rw [if_neg hz', hA.g]; simp only [Option.getD_some]; rw [if_pos (.inr hbig)]
        simp only [k73_a, WK, vop, evAll, evOpt, evParts, vbuiltin, vun, vextract, Nat.reduceLT, Nat.reduceEqDiff, ↓reduceIte, reduceCtorEq, Nat.reduceAdd, Int.reduceLT, Int.reduceNeg, valloc_std, noSB, vhot, hneg, decide_false, pFF0, pFF1, l1, l2, v1, v2, hw1, hbig, decide_true, e]
        exact ⟨rfl, Next.refl h⟩
      · obtain ⟨σ1, r1, D1, r3, r4, σ2, r5, r6⟩ := rawNext h hok hw
        obtain ⟨f1, f2, f3, f4, f5⟩ := raw_files d
        simp only [k73_a, WK, vop, evAll, evOpt, evParts, vbuiltin, vun, vextract, Nat.reduceLT, Nat.reduceEqDiff, ↓reduceIte, reduceCtorEq, Nat.reduceAdd, Int.reduceLT, Int.reduceNeg, valloc_std, noSB, vhot, hneg, decide_false, pFF0, pFF1, l1, l2, v1, v2, hw1, hbig]
        refine KD.ret r1 ?_
        have hc : ¬ (k < 0 ∨ ((p.1.len : Nat) : Int) < k) := fun h => h.elim hneg hbig
        cases hgo : (rawD d).1 with
        | true =>
          have e : truncD n k d = (20, offD d.keep (rawD d).2) := by unfold truncD; rw [if_neg hz', hA.g]; simp only [Option.getD_some]; rw [if_neg hc, if_pos hgo]
          simp only [k73_a, WK, vop, evAll, evOpt, evParts, vbuiltin, vun, vextract, Nat.reduceLT, Nat.reduceEqDiff, ↓reduceIte, reduceCtorEq, Nat.reduceAdd, Int.reduceLT, Int.reduceNeg, valloc_std, noSB, vhot]
          refine KD.ret r5 ?_
          simp only [k73_a, WK, vop, evAll, evOpt, evParts, vbuiltin, vun, vextract, Nat.reduceLT, Nat.reduceEqDiff, ↓reduceIte, reduceCtorEq, Nat.reduceAdd, Int.reduceLT, Int.reduceNeg, valloc_std, noSB, vhot, e]
          exact ⟨rfl, r6⟩
        | false =>
          have A1 := hA.files (d2 := (rawD d).2) f1
          have e : truncD n k d = (0, { (rawD d).2 with files := putF ⟨n, p.1.safe.take k.toNat, p.1.wait.take (k.toNat - p.1.safe.length)⟩ d.files }) := by
            unfold truncD; rw [if_neg hz', hA.g]; simp only [Option.getD_some]; rw [if_neg hc, if_neg (by rw [hgo]; simp)]
          obtain ⟨g1, g2, g3⟩ := A1.ids D1
          obtain ⟨l1, l2, v1, v2, hl, hn, hnd, hrf⟩ := A1.facts D1 hok.raw
          have hws : IntKind.i64.wrap (k - (p.1.safe.length : Int)) = k - (p.1.safe.length : Int) := wrap_i64 (by omega) (by omega)
          have hmx : vmm true (.int .i64 0) (.int .i64 (k - (p.1.safe.length : Int))) = some (.int .i64 ((k.toNat - p.1.safe.length : Nat) : Int)) := by
            simp only [vmm, ↓reduceIte]
            congr 2
            split <;> omega
          have hmn : vmm false (.int .i64 k) (.int .i64 (p.1.safe.length : Nat)) = some (.int .i64 ((min k.toNat p.1.safe.length : Nat) : Int)) := by
            simp only [vmm, Bool.false_eq_true, ↓reduceIte]
            congr 2
            split <;> omega
          obtain ⟨w', hw', hrw⟩ := rowOf_take g1.w (n := k.toNat - p.1.safe.length) (by rw [List.length_map]; omega)
          obtain ⟨s', hs', hrs⟩ := rowOf_take g1.s (n := min k.toNat p.1.safe.length) (by rw [List.length_map]; omega)
          rw [bytes_take] at hrw hrs
          have hts : p.1.safe.take (min k.toNat p.1.safe.length) = p.1.safe.take k.toNat := by
            rw [← List.take_take, List.take_of_length_le (Nat.le_refl _)]
          rw [hts] at hrs
          obtain ⟨N1, hob⟩ := D1.upd hok.raw A1 (σa := σ1) (f' := ⟨n, p.1.safe.take k.toNat, p.1.wait.take (k.toNat - p.1.safe.length)⟩) (s' := s') (w' := w') (qs := p.2.rs) (qw := p.2.rw) (KS.refl _ _) hrs hrw (fun x hx => .inl hx) hnd rfl
          obtain ⟨σb, hσb⟩ : ∃ σb : St, σb = ⟨σ1.objs.set p.2.rf (.cells [p.2.s, w']), σ1.toks⟩ := ⟨_, rfl⟩
          have st1 : vstore Tryd.prog σ1 22 (.optr p.2.rf 1) w' = some σb := by rw [vstore_obj hob SBB (rowOf_one hrw) (by simp), hσb]; rfl
          have hobb : σb.objs[p.2.rf]? = some (.cells [p.2.s, w']) := by rw [hσb]; exact obj_set hob
          have st2 : vstore Tryd.prog σb 22 (.optr p.2.rf 0) s' = some ⟨σ1.objs.set p.2.rf (.cells [s', w']), σ1.toks⟩ := by
            rw [vstore_obj hobb SBB (rowOf_one hrs) (by simp), hσb]; simp [List.set_set]
          have l3 : vload Tryd.prog σb.objs 22 (.optr p.2.rf 0) = some p.2.s := by rw [vload_obj hobb pGB]; rfl
          simp only [k73_a, WK, vop, evAll, evOpt, evParts, vbuiltin, vun, vextract, Nat.reduceLT, Nat.reduceEqDiff, ↓reduceIte, reduceCtorEq, Nat.reduceAdd, Int.reduceLT, Int.reduceNeg, valloc_std, noSB, vhot, pFF0, pFF1, l1, l2, v1, v2, hws, hmx, hw', st1, l3, hmn, hs', st2, pTB, e]
          rw [f1] at N1
          exact ⟨rfl, Next.trans r3 (fun x hx => .inl hx) N1⟩
  · refine KD.ret (there_no h n hz) ?_
    have hz' : ¬ ((thereD d n : Nat) : Int) = 0 := by omega
    have e : truncD n k d = (thereD d n, d) := by unfold truncD; rw [if_pos hz]
    simp only [k73_a, WK, vop, evAll, evOpt, evParts, vbuiltin, vun, vextract, Nat.reduceLT, Nat.reduceEqDiff, ↓reduceIte, reduceCtorEq, Nat.reduceAdd, Int.reduceLT, Int.reduceNeg, valloc_std, noSB, vhot, hz', decide_false, e]
    exact Next.refl h
/-! ### Files leave the map, and come into it -/
theorem DiskAt.gone {σ : St} {r rm : Nat} {d : Dk} {fs a b : List Ent} {p : Ent} {n : List UInt8} (h : DiskAt σ r d rm fs) (hok : d.Ok) (hA : Has d fs a b p n) :
    ∃ σ', vmapDel Tryd.prog σ 68 (.omap rm) (.str n) = some σ' ∧ DiskAt σ' r { d with files := dropF n d.files } rm (a ++ b) ∧ KS [rm] σ σ' ∧ FAt σ'.objs p ∧ p.2.ids.Nodup ∧ (∀ x ∈ p.2.ids, x ∈ foot r rm fs ∧ x ∉ foot r rm (a ++ b)) ∧ ∀ x ∈ foot r rm (a ++ b), x ∈ foot r rm fs := by
  have hlt := h.lt
  have hN := h.nd
  obtain ⟨g1, g2, g3⟩ := hA.ids h
  have hfs := hA.e
  subst hfs
  have hpm := h.pm
  unfold foot at hN
  rw [List.nodup_cons, List.nodup_cons, flat_mid] at hN
  obtain ⟨n1, n2, n3⟩ := hN
  have hml := hlt rm (by simp [foot])
  have hv := find_yes (a := a) (b := b) (p := p) (by rw [hA.nm]; exact hA.a) 0
  rw [hA.nm] at hv
  have hne : ∀ x, x ∈ (a ++ p :: b).flatMap (fun p => p.2.ids) → rm ≠ x := fun x hx e => n2 (by rw [flat_mid] at hx; rw [e]; exact hx)
  have hkeep : ∀ q ∈ a ++ p :: b, FAt (σ.objs.set rm (.mp ((a ++ b).map fent))) q := fun q hq => (h.hf q hq).frame fun x hx o ho => by
    rw [List.getElem?_set_ne (hne x (List.mem_flatMap.2 ⟨q, hq, hx⟩))]; exact ho
  have hids : ∀ x ∈ foot r rm (a ++ b), x ∈ foot r rm (a ++ p :: b) := by
    intro x hx
    simp only [foot, List.mem_cons, List.flatMap_append, List.flatMap_cons, List.mem_append] at hx ⊢
    rcases hx with h | h | h | h
    · exact .inl h
    · exact .inr (.inl h)
    · exact .inr (.inr (.inl h))
    · exact .inr (.inr (.inr (.inr h)))
  have hsub : ((a ++ b).flatMap fun p => p.2.ids).Sublist ((a ++ p :: b).flatMap fun p => p.2.ids) := by
    rw [flat_mid, List.flatMap_append]
    exact (List.Sublist.refl _).append (List.sublist_append_right ..)
  refine ⟨⟨σ.objs.set rm (.mp ((a ++ b).map fent)), σ.toks⟩, ?_, ⟨?_, ?_, fun q hq => hkeep q ?_, ?_, ?_⟩, KS.set (.inl (by simp)) _, hkeep p (by simp), g2, fun x hx => ⟨?_, fun hx2 => ?_⟩, hids⟩
  · simp only [vmapDel, pTM, h.hm, keyD, hv]
    congr 3
    rw [List.map_append, List.map_cons, Nat.zero_add, ← List.length_map (f := fent), List.eraseIdx_append_of_length_le (Nat.le_refl _), Nat.sub_self, List.map_append]
    rfl
  · simp only
    rw [List.getElem?_set_ne (fun e => n1 (by rw [e]; exact List.mem_cons_self ..))]
    exact h.hd
  · simp only
    rw [List.getElem?_set_self hml]
  · rcases List.mem_append.1 hq with h | h <;> simp [h]
  · have := h.nd
    unfold foot at this ⊢
    exact (List.Sublist.cons_cons _ (List.Sublist.cons_cons _ hsub)).nodup this
  · simp only [List.map_append, List.map_cons] at hpm ⊢
    have e : (a.map (·.1) ++ b.map (·.1)) = dropF n (a.map (·.1) ++ p.1 :: b.map (·.1)) := by
      unfold dropF
      rw [List.filter_append, List.filter_cons]
      simp only [hA.nm, ne_eq, not_true_eq_false, decide_false, Bool.false_eq_true, ↓reduceIte]
      rw [List.filter_eq_self.2, List.filter_eq_self.2]
      · intro f hf
        obtain ⟨q, hq, rfl⟩ := List.mem_map.1 hf
        simp [hA.b q hq]
      · intro f hf
        obtain ⟨q, hq, rfl⟩ := List.mem_map.1 hf
        simp [hA.a q hq]
    rw [e]
    exact hpm.filter _
  · simp only [foot, List.mem_cons, List.mem_flatMap]
    exact .inr (.inr ⟨p, by simp, hx⟩)
  · simp only [foot, List.mem_cons, List.flatMap_append, List.mem_append] at hx2
    rw [List.nodup_append, List.nodup_append] at n3
    rcases hx2 with h | h | h | h
    · subst h; exact n1 (List.mem_cons_of_mem _ (by simp [hx]))
    · subst h; exact n2 (by simp [hx])
    · exact n3.2.2 x h x (List.mem_append_left _ hx) rfl
    · exact n3.2.1.2.2 x hx x h rfl
theorem putF_new {l : List Fl} {x : Fl} (hg : getF l x.name = none) : (putF x l).Perm (x :: l) := by
  unfold putF
  refine (List.perm_middle).trans (.cons _ ?_)
  have e : (l.filter fun f => decide (x.name < f.name)) = l.filter fun f => !decide (f.name < x.name) := by
    refine List.filter_congr fun f hf => ?_
    have hne := getF_none hg f hf
    rcases lt_or hne with h | h
    · have : ¬ x.name < f.name := fun h2 => lt_irrefl' _ (lt_trans' h h2)
      simp [h, this]
    · have : ¬ f.name < x.name := fun h2 => lt_irrefl' _ (lt_trans' h h2)
      simp [h, this]
  rw [e]
  exact List.filter_append_perm _ _
theorem DiskAt.come {σ : St} {r rm : Nat} {d : Dk} {fs : List Ent} {p : Ent} (h : DiskAt σ r d rm fs) (hok : d.Ok) (hF : FAt σ.objs p) (hnd : p.2.ids.Nodup) (hdj : ∀ x ∈ p.2.ids, x ∉ foot r rm fs) :
    ∃ σ' fs', vmapSet Tryd.prog σ 68 (.omap rm) (.str p.1.name) (.optr p.2.rf 0) = some σ' ∧ DiskAt σ' r { d with files := putF p.1 d.files } rm fs' ∧ KS [rm] σ σ' ∧ ∀ x ∈ foot r rm fs', x ∈ foot r rm fs ∨ x ∈ p.2.ids := by
  have hlt := h.lt
  have hN := h.nd
  have hN0 := hN
  have hml := hlt rm (by simp [foot])
  unfold foot at hN
  rw [List.nodup_cons, List.nodup_cons] at hN
  obtain ⟨n1, n2, n3⟩ := hN
  have hkeep : ∀ q ∈ fs, ∀ o, FAt (σ.objs.set rm o) q := fun q hq o => (h.hf q hq).frame fun x hx o ho => by
    rw [List.getElem?_set_ne (fun e => n2 (by rw [e]; exact List.mem_flatMap.2 ⟨q, hq, hx⟩))]; exact ho
  have hkp : ∀ o, FAt (σ.objs.set rm o) p := fun o => hF.frame fun x hx o ho => by
    rw [List.getElem?_set_ne (fun e => hdj x hx (by rw [← e]; simp [foot]))]; exact ho
  have hrm : rm ≠ r := fun e => n1 (by rw [← e]; exact List.mem_cons_self ..)
  cases hg : getF d.files p.1.name with
  | none =>
    have hno := h.get_no hg
    refine ⟨⟨σ.objs.set rm (.mp ((fs ++ [p]).map fent)), σ.toks⟩, fs ++ [p], ?_, ⟨?_, ?_, ?_, ?_, ?_⟩, KS.set (.inl (by simp)) _, ?_⟩
    · simp only [vmapSet, pTM, h.hm, keyD, find_no hno]
      rw [List.map_append]
      rfl
    · simp only; rw [List.getElem?_set_ne hrm]; exact h.hd
    · simp only; rw [List.getElem?_set_self hml]
    · intro q hq
      rcases List.mem_append.1 hq with hq | hq
      · exact hkeep q hq _
      · rw [List.mem_singleton] at hq; subst hq; exact hkp _
    · have e : foot r rm (fs ++ [p]) = foot r rm fs ++ p.2.ids := by simp [foot]
      rw [e, List.nodup_append]
      exact ⟨hN0, hnd, fun x hx y hy e => hdj y hy (by rw [← e]; exact hx)⟩
    · simp only [List.map_append, List.map_cons, List.map_nil]
      exact (List.perm_append_singleton ..).trans ((h.pm.cons _).trans (putF_new hg).symm)
    · intro x hx
      have e : foot r rm (fs ++ [p]) = foot r rm fs ++ p.2.ids := by simp [foot]
      rw [e, List.mem_append] at hx
      exact hx
  | some f =>
    obtain ⟨a, q, b, hA⟩ := h.get_yes hok hg
    have hfs := hA.e
    subst hfs
    have hpm := h.pm
    have hv := find_yes (a := a) (b := b) (p := q) (by rw [hA.nm]; exact hA.a) 0
    rw [hA.nm] at hv
    have hmem : ∀ x ∈ foot r rm (a ++ p :: b), x ∈ foot r rm (a ++ q :: b) ∨ x ∈ p.2.ids := by
      intro x hx
      simp only [foot, List.mem_cons, List.flatMap_append, List.flatMap_cons, List.mem_append] at hx ⊢
      rcases hx with h | h | h | h | h
      · exact .inl (.inl h)
      · exact .inl (.inr (.inl h))
      · exact .inl (.inr (.inr (.inl h)))
      · exact .inr h
      · exact .inl (.inr (.inr (.inr (.inr h))))
    refine ⟨⟨σ.objs.set rm (.mp ((a ++ p :: b).map fent)), σ.toks⟩, a ++ p :: b, ?_, ⟨?_, ?_, ?_, ?_, ?_⟩, KS.set (.inl (by simp)) _, hmem⟩
    · simp only [vmapSet, pTM, h.hm, keyD, hv]
      congr 3
      rw [List.map_append, List.map_cons, Nat.zero_add, ← List.length_map (f := fent), List.set_append_right _ _ (Nat.le_refl _), Nat.sub_self, List.map_append]
      rfl
    · simp only; rw [List.getElem?_set_ne hrm]; exact h.hd
    · simp only; rw [List.getElem?_set_self hml]
    · intro x hx
      simp only [List.mem_append, List.mem_cons] at hx
      rcases hx with hx | rfl | hx
      · exact hkeep x (by simp [hx]) _
      · exact hkp _
      · exact hkeep x (by simp [hx]) _
    · unfold foot at hN0 ⊢
      rw [flat_mid] at hN0 ⊢
      have hdj2 : ∀ x ∈ p.2.ids, x ∉ r :: rm :: ((a.flatMap fun p => p.2.ids) ++ (q.2.ids ++ b.flatMap fun p => p.2.ids)) := fun x hx hx2 => hdj x hx (by unfold foot; rw [flat_mid]; exact hx2)
      rw [← List.cons_append, ← List.cons_append] at hN0 ⊢
      rw [List.nodup_append, List.nodup_append] at hN0 ⊢
      obtain ⟨m1, ⟨m2, m3, m4⟩, m5⟩ := hN0
      refine ⟨m1, ⟨hnd, m3, fun x hx y hy e => hdj2 x hx (by rw [e]; simp [hy])⟩, fun x hx y hy e => ?_⟩
      rcases List.mem_append.1 hy with hy | hy
      · refine hdj2 y hy ?_
        rw [← e]
        rw [← List.cons_append, ← List.cons_append]
        exact List.mem_append_left _ hx
      · exact m5 x hx y (List.mem_append_right _ hy) e
    · simp only [List.map_append, List.map_cons] at hpm ⊢
      exact putF_perm hok.rise hpm hA.nm.symm
end Go.Proofs.YtnegdinonfjdfaaDoor.Q

/- Remove, Rename, and the small calls. -/
set_option linter.unusedVariables false
set_option linter.unusedSimpArgs false
set_option maxRecDepth 100000
namespace Go.Proofs.YtnegdinonfjdfaaDoor.Q
open Go Go.RowKit Go.Proofs
theorem remove_sees {σ : St} {r rm : Nat} {d : Dk} {fs : List Ent} {n : List UInt8} (h : DiskAt σ r d rm fs) (hok : d.Ok) (hw : d.writes < 4611686018427387904) :
    ∃ q σ', Does Tryd.prog prims 46 [.optr r 0, .str n] σ q σ' ∧ (q = .ret (.int .i64 ((removeD n d).1 : Nat)) ∧ Next σ r rm fs σ' (removeD n d).2) := by
  apply k46_is.does (by simp)
  simp only [k46_a, WK, vop, evAll, evOpt, evParts, vbuiltin, vun, vextract, Nat.reduceLT, Nat.reduceEqDiff, ↓reduceIte, reduceCtorEq, Nat.reduceAdd, Int.reduceLT, Int.reduceNeg, valloc_std, noSB, vhot, List.getD_cons_zero, List.getD_cons_succ]
  by_cases hz : thereD d n = 0
  · obtain ⟨a, b, p, hA, hr⟩ := there_ok h hok hz
    refine KD.ret (there_yes h hr hA) ?_
    obtain ⟨σ1, r1, D1, r3, r4, σ2, r5, r6⟩ := rawNext h hok hw
    obtain ⟨f1, f2, f3, f4, f5⟩ := raw_files d
    simp only [k46_a, WK, vop, evAll, evOpt, evParts, vbuiltin, vun, vextract, Nat.reduceLT, Nat.reduceEqDiff, ↓reduceIte, reduceCtorEq, Nat.reduceAdd, Int.reduceLT, Int.reduceNeg, valloc_std, noSB, vhot]
    refine KD.ret r1 ?_
    have hz' : ¬ thereD d n ≠ 0 := fun h => h hz
    cases hgo : (rawD d).1 with
    | true =>
      have e : removeD n d = (20, offD d.keep (rawD d).2) := by unfold removeD; rw [if_neg hz', if_pos hgo]
      simp only [k46_a, WK, vop, evAll, evOpt, evParts, vbuiltin, vun, vextract, Nat.reduceLT, Nat.reduceEqDiff, ↓reduceIte, reduceCtorEq, Nat.reduceAdd, Int.reduceLT, Int.reduceNeg, valloc_std, noSB, vhot]
      refine KD.ret r5 ?_
      simp only [k46_a, WK, vop, evAll, evOpt, evParts, vbuiltin, vun, vextract, Nat.reduceLT, Nat.reduceEqDiff, ↓reduceIte, reduceCtorEq, Nat.reduceAdd, Int.reduceLT, Int.reduceNeg, valloc_std, noSB, vhot, e]
      exact ⟨rfl, r6⟩
    | false =>
      have A1 := hA.files (d2 := (rawD d).2) f1
      have e : removeD n d = (0, { (rawD d).2 with files := dropF n d.files }) := by
        unfold removeD; rw [if_neg hz', if_neg (by rw [hgo]; simp)]
      have lm : vload Tryd.prog σ1.objs 68 (.optr r 0) = some (.omap rm) := by rw [vload_obj D1.hd pGM]; rfl
      obtain ⟨σb, hdl, N1, K1, _, _, _, I1⟩ := D1.gone hok.raw A1
      simp only [k46_a, WK, vop, evAll, evOpt, evParts, vbuiltin, vun, vextract, Nat.reduceLT, Nat.reduceEqDiff, ↓reduceIte, reduceCtorEq, Nat.reduceAdd, Int.reduceLT, Int.reduceNeg, valloc_std, noSB, vhot, pFA r 0 (by omega), lm, hdl, e]
      rw [f1] at N1
      exact ⟨rfl, Next.trans r3 (fun x hx => .inl hx) ⟨_, N1, K1.mono fun x hx => .inl (by rw [List.mem_singleton] at hx; subst hx; simp [foot]), fun x hx => .inl (I1 x hx)⟩⟩
  · refine KD.ret (there_no h n hz) ?_
    have hz' : ¬ ((thereD d n : Nat) : Int) = 0 := by omega
    have e : removeD n d = (thereD d n, d) := by unfold removeD; rw [if_pos hz]
    simp only [k46_a, WK, vop, evAll, evOpt, evParts, vbuiltin, vun, vextract, Nat.reduceLT, Nat.reduceEqDiff, ↓reduceIte, reduceCtorEq, Nat.reduceAdd, Int.reduceLT, Int.reduceNeg, valloc_std, noSB, vhot, hz', e]
    exact Next.refl h
end Go.Proofs.YtnegdinonfjdfaaDoor.Q

/- Concat, Read and Names. -/
set_option linter.unusedVariables false
set_option linter.unusedSimpArgs false
set_option maxRecDepth 100000
namespace Go.Proofs.YtnegdinonfjdfaaDoor.Q
open Go Go.RowKit Go.Proofs
theorem TBB : Tryd.prog.underlying 37 = some (.slice 22) := by kernel_rfl
theorem grow_does {σ : St} {n : Nat} (hn : n ≤ 1000000000) : ∃ v q σ', Does Tryd.prog prims 75 [.nils, .int .i64 (n : Int)] σ (.ret v) σ' ∧ rowOf σ'.objs v = some (q, []) ∧ KS [] σ σ' ∧ ∀ x ∈ q.toList, σ.objs.length ≤ x := by
  have key : ∃ r σ', Does Tryd.prog prims 75 [.nils, .int .i64 (n : Int)] σ r σ' ∧ ∃ v q, r = .ret v ∧ rowOf σ'.objs v = some (q, []) ∧ KS [] σ σ' ∧ ∀ x ∈ q.toList, σ.objs.length ≤ x := by
    apply k75_is.does (by simp)
    have h0 : ¬ (n : Int) < 0 := by omega
    have hvc : vcap Tryd.prog 22 .nils = some (.int .i64 0) := by kernel_rfl
    have hvl : vlen Tryd.prog 22 .nils = some (.int .i64 0) := by kernel_rfl
    have hw0 : IntKind.i64.wrap ((0 : Int) - 0) = 0 := by decide
    have hwn : IntKind.i64.wrap ((n : Int) - 0) = n := by rw [wrap_i64 (by omega) (by omega)]; omega
    have hsl : vslice Tryd.prog 22 .nils none (some (.int .i64 0)) none = some .nils := by kernel_rfl
    by_cases hz : n = 0
    · have h1 : ¬ (0 : Int) < (n : Int) := by omega
      simp only [k75_a, WK, vop, evAll, evOpt, evParts, vbuiltin, vun, vextract, Nat.reduceLT, Nat.reduceEqDiff, ↓reduceIte, reduceCtorEq, Nat.reduceAdd, Int.reduceLT, Int.reduceNeg, valloc_std, noSB, vhot, List.getD_cons_zero, List.getD_cons_succ, h0, hvc, hvl, hw0, hwn, nilEP, h1, decide_false]
      exact ⟨.nils, none, rfl, rfl, KS.refl _ _, fun x hx => by cases hx⟩
    · have h1 : (0 : Int) < (n : Int) := by omega
      have hno : vappendRow Tryd.prog σ 22 3 .nils (.int .i64 (n : Int)) = none := by
        simp [vappendRow, pTB, bInfo, pS1, bZero, vnewsO, vnews, T3]
      have hmk : vappendMake Tryd.prog σ 22 3 .nils (.int .i64 (n : Int)) = some (.hslice σ.objs.length 0 1 n, ⟨σ.objs ++ [.cells []], σ.toks⟩) := by
        have : 0 < n := by omega
        have h9 : n ≤ 140737488355328 := by omega
        simp [vappendMake, pTB, bInfo, pS1, bZero, T3, vcells, this, h9]
      have hb := vbounds_hi (k := .i64) (n := 0) (len := n) (by omega) (by omega)
      have hs2 : vslice Tryd.prog 22 (.hslice σ.objs.length 0 1 n) none (some (.int .i64 0)) none = some (.hslice σ.objs.length 0 1 0) := by
        simp only [vslice, pTB, pS1, hb]
        simp
      simp only [k75_a, WK, vop, evAll, evOpt, evParts, vbuiltin, vun, vextract, Nat.reduceLT, Nat.reduceEqDiff, ↓reduceIte, reduceCtorEq, Nat.reduceAdd, Int.reduceLT, Int.reduceNeg, valloc_std, noSB, vhot, List.getD_cons_zero, List.getD_cons_succ, h0, hvc, hvl, hw0, hwn, nilEP, h1, decide_true, hsl, pTB, hno, hmk, hs2]
      refine ⟨_, some σ.objs.length, rfl, ?_, KS.push _ _ _, fun x hx => by simp at hx; omega⟩
      simp [rowOf]
  obtain ⟨r, σ', h1, v, q, rfl, h2⟩ := key
  exact ⟨v, q, σ', h1, h2⟩
/-- Rows put behind each other. -/
theorem concat_does {σ : St} {pm : Perm} {vs : List V} {bss : List (List UInt8)} (hl : vs.length = bss.length) (hb : ∀ (i : Nat) (h : i < vs.length) (h' : i < bss.length), RB σ vs[i] bss[i]) (hlen : bss.flatten.length ≤ 1000000000) (hcl : bss.length ≤ 1000000000) :
    ∃ v q σ', Does Tryd.prog prims 63 [.slice pm 1 vs vs.length] σ (.ret v) σ' ∧ rowOf σ'.objs v = some (q, bss.flatten.map byteV) ∧ KS [] σ σ' ∧ ∀ x ∈ q.toList, σ.objs.length ≤ x := by
  have key : ∃ r σ', Does Tryd.prog prims 63 [.slice pm 1 vs vs.length] σ r σ' ∧ ∃ v q, r = .ret v ∧ rowOf σ'.objs v = some (q, bss.flatten.map byteV) ∧ KS [] σ σ' ∧ ∀ x ∈ q.toList, σ.objs.length ≤ x := by
    apply k63_is.does (by simp)
    have hvl : vlen Tryd.prog 37 (.slice pm 1 vs vs.length) = some (.int .i64 (vs.length : Nat)) := by simp [vlen, TBB]
    have haddr : ∀ i : Nat, i < vs.length → vindexAddr Tryd.prog 37 (.slice pm 1 vs vs.length) (.int .i64 (i : Int)) = some (.eptr vs i) := by
      intro i hi
      have h1 : vs.isEmpty = false := by cases vs with | nil => simp at hi | cons => rfl
      have h2 : (i : Int) < vs.length := by omega
      simp [vindexAddr, TBB, SBB, h1, h2]
    have hload : ∀ (s : St) (i : Nat) (hi : i < vs.length), vload Tryd.prog s.objs 22 (.eptr vs i) = some vs[i] := by
      intro s i hi
      simp [vload, vcellsAt, vpart, pGB, hi]
    have hsum : ∀ i, i ≤ bss.length → (bss.take i).flatten.length ≤ bss.flatten.length := by
      intro i hi
      have := congrArg List.length (congrArg List.flatten (List.take_append_drop i bss))
      rw [List.flatten_append, List.length_append] at this
      omega
    have hstep : ∀ i (h : i < bss.length), (bss.take (i + 1)).flatten = (bss.take i).flatten ++ bss[i] := by
      intro i h
      rw [List.take_succ_eq_append_getElem h, List.flatten_append]
      simp
    simp only [k63_a, WK, vop, evAll, evOpt, evParts, vbuiltin, vun, vextract, Nat.reduceLT, Nat.reduceEqDiff, ↓reduceIte, reduceCtorEq, Nat.reduceAdd, Int.reduceLT, Int.reduceNeg, valloc_std, noSB, vhot, List.getD_cons_zero, List.getD_cons_succ, hvl, nilEP]
    refine Ev.loopF (fun (i : Nat) e σ' => σ' = σ ∧ e 11 = .int .i64 (i : Nat) ∧ i ≤ vs.length ∧ e 3 = .int .i64 ((bss.take i).flatten.length : Nat)) (fun i => vs.length - i) 0 ⟨rfl, by simp [upd_some], Nat.zero_le _, by simp [upd_some]⟩ ?_
    rintro i e σ' ⟨rfl, h11, hi, h3⟩ hf
    have h0 : e 0 = .slice pm 1 vs vs.length := (hf 0 (by decide)).trans (by simp [upd_some])
    have h9 : e 9 = .slice pm 1 vs vs.length := (hf 9 (by decide)).trans (by simp [upd_some])
    have h10 : e 10 = .int .i64 (vs.length : Nat) := (hf 10 (by decide)).trans (by simp [upd_some])
    clear hf
    by_cases hlt : i < vs.length
    · have hlt' : (i : Int) < vs.length := by omega
      have hlb : i < bss.length := by omega
      have hwi : IntKind.i64.wrap ((i : Int) + 1) = ((i + 1 : Nat) : Int) := by rw [show ((i : Int) + 1) = ((i + 1 : Nat) : Int) from by omega]; exact wrap_nat (by omega)
      have hle := hsum (i + 1) (by omega)
      have hst := hstep i hlb
      have hws : IntKind.i64.wrap (((bss.take i).flatten.length : Nat) + (bss[i].length : Nat) : Int) = (((bss.take (i + 1)).flatten.length : Nat) : Int) := by
        rw [hst, List.length_append] at hle ⊢
        rw [wrap_i64 (by omega) (by omega)]; omega
      have hn0 : ¬ (((bss.take (i + 1)).flatten.length : Nat) : Int) < 0 := by omega
      simp only [k63_a, WK, vop, evAll, evOpt, evParts, vbuiltin, vun, vextract, Nat.reduceLT, Nat.reduceEqDiff, ↓reduceIte, reduceCtorEq, Nat.reduceAdd, Int.reduceLT, Int.reduceNeg, valloc_std, noSB, vhot, h9, h10, h11, h3, hlt', haddr i hlt, hload _ i hlt, (hb i hlt hlb).len, hws, hn0, hwi, decide_true, decide_false]
      exact ⟨i + 1, ⟨by simp [upd_some], by omega, by simp [upd_some]⟩, by omega⟩
    · have hlt' : ¬ (i : Int) < vs.length := by omega
      have hall : bss.take i = bss := List.take_of_length_le (by omega)
      rw [hall] at h3
      obtain ⟨v1, q1, s1, g1, g2, g3, g4⟩ := grow_does (σ := σ') hlen
      simp only [k63_a, WK, vop, evAll, evOpt, evParts, vbuiltin, vun, vextract, Nat.reduceLT, Nat.reduceEqDiff, ↓reduceIte, reduceCtorEq, Nat.reduceAdd, Int.reduceLT, Int.reduceNeg, valloc_std, noSB, vhot, h9, h10, h11, h3, hlt', decide_false, nilEP]
      refine KD.ret g1 ?_
      simp only [k63_a, WK, vop, evAll, evOpt, evParts, vbuiltin, vun, vextract, Nat.reduceLT, Nat.reduceEqDiff, ↓reduceIte, reduceCtorEq, Nat.reduceAdd, Int.reduceLT, Int.reduceNeg, valloc_std, noSB, vhot, h0, hvl]
      refine Ev.loopF (fun (j : Nat) e s => ∃ q, e 27 = .int .i64 (j : Nat) ∧ j ≤ vs.length ∧ rowOf s.objs (e 6) = some (q, (bss.take j).flatten.map byteV) ∧ KS [] σ' s ∧ ∀ x ∈ q.toList, σ'.objs.length ≤ x) (fun i => vs.length - i) 0 ⟨q1, by simp [upd_some], Nat.zero_le _, by simpa [upd_some] using g2, g3, g4⟩ ?_
      rintro j e2 s ⟨q, k27, hj, k6, kk, kq⟩ hf2
      have k25 : e2 25 = .slice pm 1 vs vs.length := (hf2 25 (by decide)).trans (by simp [upd_some])
      have k26 : e2 26 = .int .i64 (vs.length : Nat) := (hf2 26 (by decide)).trans (by simp [upd_some])
      clear hf2
      by_cases hlt2 : j < vs.length
      · have hlt2' : (j : Int) < vs.length := by omega
        have hlb : j < bss.length := by omega
        have hwi : IntKind.i64.wrap ((j : Int) + 1) = ((j + 1 : Nat) : Int) := by rw [show ((j : Int) + 1) = ((j + 1 : Nat) : Int) from by omega]; exact wrap_nat (by omega)
        have hR := (hb j hlt2 hlb).ks kk (fun q hq => by cases hq)
        have hle := hsum (j + 1) (by omega)
        rw [hstep j hlb, List.length_append] at hle
        have hbn := hR.news
        rw [← List.length_map (f := byteV)] at hbn
        obtain ⟨v', q', s2, a1, a2, a3, a4, a5⟩ := rowApp k6 hbn (byteV_one _) (by rw [List.length_map, List.length_map]; omega)
        simp only [k63_a, WK, vop, evAll, evOpt, evParts, vbuiltin, vun, vextract, Nat.reduceLT, Nat.reduceEqDiff, ↓reduceIte, reduceCtorEq, Nat.reduceAdd, Int.reduceLT, Int.reduceNeg, valloc_std, noSB, vhot, k25, k26, k27, hlt2', haddr j hlt2, hload _ j hlt2, hwi, a1, decide_true]
        refine ⟨j + 1, ⟨q', by simp [upd_some], by omega, ?_, kk.trans a3 fun x hx => .inr (kq x hx), fun x hx => ?_⟩, by omega⟩
        · rw [hstep j hlb, List.map_append]; simpa [upd_some] using a2
        · rcases a4 x hx with h | h
          · exact kq x h
          · have := kk.le; omega
      · have hlt2' : ¬ (j : Int) < vs.length := by omega
        have hall2 : bss.take j = bss := List.take_of_length_le (by omega)
        rw [hall2] at k6
        simp only [k63_a, WK, vop, evAll, evOpt, evParts, vbuiltin, vun, vextract, Nat.reduceLT, Nat.reduceEqDiff, ↓reduceIte, reduceCtorEq, Nat.reduceAdd, Int.reduceLT, Int.reduceNeg, valloc_std, noSB, vhot, k25, k26, k27, hlt2', decide_false]
        exact ⟨_, q, rfl, k6, kk, kq⟩
  obtain ⟨r, σ', h1, v, q, rfl, h2⟩ := key
  exact ⟨v, q, σ', h1, h2⟩
theorem mkRows2 (a b : V) (h1 : one a = true) (h2 : one b = true) : vbuildSlice Tryd.prog 37 2 [(0, a), (1, b)] = some (.slice .exact 1 [a, b] 2) := by
  have hz : zeroT Tryd.prog 22 = some .nils := by kernel_rfl
  have e : List.range 2 = [0, 1] := by decide
  have hn : vcells V.nils = [V.nils] := rfl
  simp [vbuildSlice, TBB, SBB, hz, hn, zeroCellsV, vfill, setAll, e, vcells_one h1, vcells_one h2, h1, h2]
theorem read_sees {σ : St} {r rm : Nat} {d : Dk} {fs : List Ent} {n : List UInt8} (h : DiskAt σ r d rm fs) (hok : d.Ok) :
    ∃ p σ', Does Tryd.prog prims 45 [.optr r 0, .str n] σ p σ' ∧ ∃ v q, p = .ret (.tuple [v, .int .i64 ((readD n d).1 : Nat)]) ∧ rowOf σ'.objs v = some (q, (readD n d).2.map byteV) ∧ KS [] σ σ' ∧ ∀ x ∈ q.toList, σ.objs.length ≤ x := by
  apply k45_is.does (by simp)
  simp only [k45_a, WK, vop, evAll, evOpt, evParts, vbuiltin, vun, vextract, Nat.reduceLT, Nat.reduceEqDiff, ↓reduceIte, reduceCtorEq, Nat.reduceAdd, Int.reduceLT, Int.reduceNeg, valloc_std, noSB, vhot, List.getD_cons_zero, List.getD_cons_succ, nilEP]
  by_cases hz : thereD d n = 0
  · obtain ⟨a, b, p, hA, hr⟩ := there_ok h hok hz
    have hz' : ¬ thereD d n ≠ 0 := fun h => h hz
    have e : readD n d = (0, p.1.safe ++ p.1.wait) := by unfold readD; rw [if_neg hz', hA.g]; rfl
    obtain ⟨g1, g2, g3⟩ := hA.ids h
    obtain ⟨l1, l2, v1, v2, hl, hn, hnd, hrf⟩ := hA.facts h hok
    obtain ⟨v, q, σ', c1, c2, c3, c4⟩ := concat_does (σ := σ) (pm := .exact) (vs := [p.2.s, p.2.w]) (bss := [p.1.safe, p.1.wait]) rfl (fun i h h' => by
      match i, h with
      | 0, _ => exact rowOf_rb g1.s
      | 1, _ => exact rowOf_rb g1.w) (by simp; omega) (by simp)
    refine KD.ret (there_yes h hr hA) ?_
    simp only [k45_a, WK, vop, evAll, evOpt, evParts, vbuiltin, vun, vextract, Nat.reduceLT, Nat.reduceEqDiff, ↓reduceIte, reduceCtorEq, Nat.reduceAdd, Int.reduceLT, Int.reduceNeg, valloc_std, noSB, vhot, pFF0, pFF1, l1, l2, mkRows2 p.2.s p.2.w (rowOf_one g1.s) (rowOf_one g1.w), nilEP]
    refine KD.ret c1 ?_
    simp only [k45_a, WK, vop, evAll, evOpt, evParts, vbuiltin, vun, vextract, Nat.reduceLT, Nat.reduceEqDiff, ↓reduceIte, reduceCtorEq, Nat.reduceAdd, Int.reduceLT, Int.reduceNeg, valloc_std, noSB, vhot, pFF0, pFF1, l1, l2, e]
    refine ⟨v, q, rfl, ?_, c3, c4⟩
    simpa using c2
  · refine KD.ret (there_no h n hz) ?_
    have hz' : ¬ ((thereD d n : Nat) : Int) = 0 := by omega
    have e : readD n d = (thereD d n, []) := by unfold readD; rw [if_pos hz]
    simp only [k45_a, WK, vop, evAll, evOpt, evParts, vbuiltin, vun, vextract, Nat.reduceLT, Nat.reduceEqDiff, ↓reduceIte, reduceCtorEq, Nat.reduceAdd, Int.reduceLT, Int.reduceNeg, valloc_std, noSB, vhot, hz', e, nilEP]
    exact ⟨.nils, none, rfl, rfl, KS.refl _ _, fun x hx => by cases hx⟩
end Go.Proofs.YtnegdinonfjdfaaDoor.Q

/- Names, and the small calls. -/
set_option linter.unusedVariables false
set_option linter.unusedSimpArgs false
set_option maxRecDepth 100000
namespace Go.Proofs.YtnegdinonfjdfaaDoor.Q
open Go Go.RowKit Go.Proofs
theorem keys_does {σ : St} {rm : Nat} : ∃ t, Does Tryd.prog prims 52 [.omap rm] σ (.ret (.func 72 [.optr σ.objs.length 0])) ⟨σ.objs ++ [.tcells t [.omap rm]], σ.toks⟩ := by
  have key : ∃ r σ', Does Tryd.prog prims 52 [.omap rm] σ r σ' ∧ (r = .ret (.func 72 [.optr σ.objs.length 0]) ∧ ∃ t, σ' = ⟨σ.objs ++ [.tcells t [.omap rm]], σ.toks⟩) := by
    apply k52_is.does (by simp)
    have hn : ofVal .nilFunc = some .nilf := by kernel_rfl
    have hc : vcells (.omap rm) = [.omap rm] := rfl
    simp only [k52_a, WK, vop, evAll, evOpt, evParts, vbuiltin, vun, vextract, Nat.reduceLT, Nat.reduceEqDiff, ↓reduceIte, reduceCtorEq, Nat.reduceAdd, Int.reduceLT, Int.reduceNeg, valloc_std, noSB, vhot, List.getD_cons_zero, List.getD_cons_succ, hn, vboxT, hc]
    exact ⟨_, rfl⟩
  obtain ⟨r, σ', h, rfl, t, rfl⟩ := key
  exact ⟨t, h⟩
theorem strs_ents {fs : List Ent} : strsOf (fs.map fent) = some (fs.map fun p => p.1.name) := by
  induction fs with
  | nil => rfl
  | cons p fs ih => simp only [List.map_cons, fent, strsOf] at ih ⊢; rw [ih]; rfl
theorem leS_trans (a b c : List UInt8) : leS a b = true → leS b c = true → leS a c = true := by
  simp only [leS, decide_eq_true_eq]; exact List.le_trans
theorem leS_total (a b : List UInt8) : (leS a b || leS b a) = true := by
  simp only [leS, Bool.or_eq_true, decide_eq_true_eq]; exact List.le_total a b
theorem sort_names {d : Dk} (hok : d.Ok) {ks : List (List UInt8)} (h : ks.Perm (d.files.map Fl.name)) : ks.mergeSort leS = d.files.map Fl.name := by
  have h1 : (d.files.map Fl.name).Pairwise fun a b => a ≤ b := by
    rw [List.pairwise_map]
    exact hok.rise.imp fun {f g} hlt => List.le_of_lt hlt
  have h2 := (List.mergeSort_perm ks leS).trans h
  have h3 : (ks.mergeSort leS).Pairwise fun a b => a ≤ b := (List.pairwise_mergeSort leS_trans leS_total ks).imp fun {a b} hab => by simpa [leS] using hab
  exact h2.eq_of_pairwise (le := fun a b => a ≤ b) (fun a b _ _ hab hba => List.le_antisymm hab hba) h3 h1
theorem names_sees {σ : St} {r rm : Nat} {d : Dk} {fs : List Ent} (h : DiskAt σ r d rm fs) (hok : d.Ok) :
    ∃ p σ', Does Tryd.prog prims 26 [.optr r 0] σ p σ' ∧ ∃ v q, p = .ret v ∧ rowOf σ'.objs v = some (q, (namesD d).map V.str) ∧ KS [] σ σ' ∧ ∀ x ∈ q.toList, σ.objs.length ≤ x := by
  apply k26_is.does (by simp)
  have lo : vload Tryd.prog σ.objs 4 (.optr r 2) = some (.bool (!d.on)) := by rw [vload_obj h.hd G4]; rfl
  have lm : vload Tryd.prog σ.objs 68 (.optr r 0) = some (.omap rm) := by rw [vload_obj h.hd pGM]; rfl
  cases hon : d.on with
  | false =>
    rw [hon] at lo
    have e : namesD d = [] := by simp [namesD, hon]
    simp only [k26_a, WK, vop, evAll, evOpt, evParts, vbuiltin, vun, vextract, Nat.reduceLT, Nat.reduceEqDiff, ↓reduceIte, reduceCtorEq, Nat.reduceAdd, Int.reduceLT, Int.reduceNeg, valloc_std, noSB, vhot, List.getD_cons_zero, List.getD_cons_succ, nilEP, ofNilP, eql_optr pTD, pFA r 2 (by omega), lo, Bool.not_false, e]
    exact ⟨.nils, none, rfl, rfl, KS.refl _ _, fun x hx => by cases hx⟩
  | true =>
    rw [hon] at lo
    have e : namesD d = d.files.map Fl.name := by simp [namesD, hon]
    obtain ⟨t, hk⟩ := keys_does (σ := σ) (rm := rm)
    obtain ⟨s1, hs1⟩ : ∃ s1 : St, s1 = ⟨σ.objs ++ [.tcells t [.omap rm]], σ.toks⟩ := ⟨_, rfl⟩
    rw [← hs1] at hk
    have K1 : KS [] σ s1 := by rw [hs1]; exact KS.push _ _ _
    have D1 : DiskAt s1 r d rm fs := by rw [hs1]; exact h.pushed _
    have L1 : s1.objs.length = σ.objs.length + 1 := by rw [hs1]; simp
    have hb : s1.objs[σ.objs.length]? = some (.tcells t [.omap rm]) := by rw [hs1]; exact push_new _ _
    have hperm : (fs.map fun p => p.1.name).Perm (d.files.map Fl.name) := by
      have := h.pm.map Fl.name
      rw [List.map_map] at this
      exact this
    have hsort := sort_names hok hperm
    have hnd := h.names hok
    have hlen : (fs.map fun p => p.1.name).length ≤ 16 := by rw [hperm.length_eq, List.length_map]; exact hok.few
    have hsm : ((fs.map fun p => p.1.name).all fun s => decide (s.length ≤ 140737488355328)) = true := by
      rw [List.all_eq_true]
      intro s hs
      obtain ⟨f, hf, rfl⟩ := List.mem_map.1 (hperm.mem_iff.1 hs)
      have := hok.nm f hf
      simp only [namedD, decide_eq_true_eq] at this ⊢
      omega
    have hp : ∃ v s2 q, Does Tryd.prog prims 51 [.func 72 [.optr σ.objs.length 0]] s1 (.ret v) s2 ∧ rowOf s2.objs v = some (q, (namesD d).map V.str) ∧ KS [] s1 s2 ∧ ∀ x ∈ q.toList, s1.objs.length ≤ x := by
      by_cases h0 : (fs.map fun p => p.1.name) = []
      · refine ⟨.nils, s1, none, Does.prim (by kernel_rfl) ?_, ?_, KS.refl _ _, fun x hx => by cases hx⟩
        · simp only [prims]
          rw [if_neg (by decide +kernel), if_neg (by decide +kernel), if_pos trivial]
          simp only [sortedP, hb, D1.hm, strs_ents, ↓reduceIte]
          rw [if_pos ⟨hnd, by omega, hsm⟩, if_pos h0]
        · rw [e, ← hsort, h0, List.mergeSort_nil]; rfl
      · refine ⟨.hslice s1.objs.length 0 1 (fs.map fun p => p.1.name).length, ⟨s1.objs ++ [.cells (((fs.map fun p => p.1.name).mergeSort leS).map V.str)], s1.toks⟩, some s1.objs.length, Does.prim (by kernel_rfl) ?_, ?_, KS.push _ _ _, fun x hx => by simp at hx; omega⟩
        · simp only [prims]
          rw [if_neg (by decide +kernel), if_neg (by decide +kernel), if_pos trivial]
          simp only [sortedP, hb, D1.hm, strs_ents, ↓reduceIte]
          rw [if_pos ⟨hnd, by omega, hsm⟩, if_neg h0]
        · have hl : (fs.map fun p => p.1.name).length = (((fs.map fun p => p.1.name).mergeSort leS).map V.str).length := by simp [List.length_mergeSort]
          have hpn := push_new s1.objs (.cells (((fs.map fun p => p.1.name).mergeSort leS).map V.str))
          simp only [rowOf, hpn]
          rw [if_pos (by rw [← hl]; exact Nat.le_refl _), hl, List.take_of_length_le (Nat.le_refl _), hsort, e]
    obtain ⟨v, s2, q, h1, h2, h3, h4⟩ := hp
    simp only [k26_a, WK, vop, evAll, evOpt, evParts, vbuiltin, vun, vextract, Nat.reduceLT, Nat.reduceEqDiff, ↓reduceIte, reduceCtorEq, Nat.reduceAdd, Int.reduceLT, Int.reduceNeg, valloc_std, noSB, vhot, List.getD_cons_zero, List.getD_cons_succ, nilEP, ofNilP, eql_optr pTD, pFA r 2 (by omega), pFA r 0 (by omega), lo, lm, Bool.not_true]
    refine KD.ret hk ?_
    simp only [k26_a, WK, vop, evAll, evOpt, evParts, vbuiltin, vun, vextract, Nat.reduceLT, Nat.reduceEqDiff, ↓reduceIte, reduceCtorEq, Nat.reduceAdd, Int.reduceLT, Int.reduceNeg, valloc_std, noSB, vhot]
    refine KD.ret h1 ?_
    simp only [k26_a, WK, vop, evAll, evOpt, evParts, vbuiltin, vun, vextract, Nat.reduceLT, Nat.reduceEqDiff, ↓reduceIte, reduceCtorEq, Nat.reduceAdd, Int.reduceLT, Int.reduceNeg, valloc_std, noSB, vhot]
    exact ⟨v, q, rfl, h2, K1.trans' h3, fun x hx => by have := h4 x hx; omega⟩
/-! ### The small calls -/
theorem down_does {σ : St} {r rm : Nat} {d : Dk} {fs : List Ent} (h : DiskAt σ r d rm fs) : Does Tryd.prog prims 23 [.optr r 0] σ (.ret (.bool (!d.on))) σ := by
  apply k23_is.ret (by simp)
  have lo : vload Tryd.prog σ.objs 4 (.optr r 2) = some (.bool (!d.on)) := by rw [vload_obj h.hd G4]; rfl
  simp only [k23_a, WK, vop, evAll, evOpt, evParts, vbuiltin, vun, vextract, Nat.reduceLT, Nat.reduceEqDiff, ↓reduceIte, reduceCtorEq, Nat.reduceAdd, Int.reduceLT, Int.reduceNeg, valloc_std, noSB, vhot, List.getD_cons_zero, List.getD_cons_succ, ofNilP, neq_optr pTD, pFA r 2 (by omega), lo]
def newD (n : Int) : Dk := ⟨[], n, true, 0, 0, 0⟩
theorem newdisk_does (σ : St) (n : Int) : ∃ σ' r rm, Does Tryd.prog prims 19 [.int .i64 n] σ (.ret (.optr r 0)) σ' ∧ DiskAt σ' r (newD n) rm [] ∧ KS [] σ σ' ∧ ∀ x ∈ foot r rm [], σ.objs.length ≤ x := by
  have key : ∃ p σ', Does Tryd.prog prims 19 [.int .i64 n] σ p σ' ∧ ∃ r rm, p = .ret (.optr r 0) ∧ DiskAt σ' r (newD n) rm [] ∧ KS [] σ σ' ∧ ∀ x ∈ foot r rm [], σ.objs.length ≤ x := by
    apply k19_is.does (by simp)
    have hb : ∀ m : Nat, vbuild Tryd.prog 70 [(0, .omap m), (1, .int .i64 n)] = some (.agg [.omap m, .int .i64 n, .bool false, .int .i64 0, .int .i64 0, .int .i64 0]) := fun m => by kernel_rfl
    simp only [k19_a, WK, vop, evAll, evOpt, evParts, vbuiltin, vun, vextract, Nat.reduceLT, Nat.reduceEqDiff, ↓reduceIte, reduceCtorEq, Nat.reduceAdd, Int.reduceLT, Int.reduceNeg, valloc_std, noSB, vhot, List.getD_cons_zero, List.getD_cons_succ, ofNilP, vmakeMap, hb, vbox, vcells]
    refine ⟨σ.objs.length + 1, σ.objs.length, by simp, ⟨?_, ?_, fun p hp => (by cases hp), by simp [foot], by simp [newD]⟩, (KS.push [] σ (.mp [])).trans' (KS.push [] ⟨σ.objs ++ [.mp []], σ.toks⟩ _), fun x hx => by simp [foot] at hx; omega⟩
    · have := push_new (σ.objs ++ [Ob.mp []]) (.cells (dcells σ.objs.length (newD n)))
      simp only [List.length_append, List.length_cons, List.length_nil, Nat.zero_add] at this
      exact this
    · simp only
      rw [List.getElem?_append_left (by simp)]
      exact push_new _ _
  obtain ⟨p, σ', h1, r, rm, rfl, h2⟩ := key
  exact ⟨σ', r, rm, h1, h2⟩
theorem newD_ok {n : Int} (h : InI64 n) : (newD n).Ok := ⟨by simp [newD], fun f hf => (by cases hf), by simp [newD], fun f hf => (by cases hf), by simp [newD], h, by unfold InI64; simp [newD]⟩
end Go.Proofs.YtnegdinonfjdfaaDoor.Q

/- Rows, written or not. -/
set_option linter.unusedVariables false
set_option linter.unusedSimpArgs false
set_option maxRecDepth 100000
namespace Go.Proofs.YtnegdinonfjdfaaDoor.Q
open Go Go.RowKit Go.Proofs
/-- w is a row of n elements of k cells each; it may be a part of an object. -/
def RowS (σ : St) (k : Nat) (w : V) (cs : List V) (n : Nat) : Prop := RowV k w cs n ∨ (cs.length = n * k ∧ ∃ r off c, w = .hslice r off k n ∧ σ.objs[r]? = some (.cells c) ∧ off + n * k ≤ c.length ∧ (c.drop off).take (n * k) = cs)
section
variable {σ : St} {k n : Nat} {w : V} {cs : List V}
theorem RowS.keep {σ' : St} (h : RowS σ k w cs n) (hk : Keep σ σ') : RowS σ' k w cs n := by
  rcases h with h | ⟨h0, r, off, c, h1, h2, h3⟩
  · exact .inl h
  · exact .inr ⟨h0, r, off, c, h1, hk.1 _ _ h2, h3⟩
theorem RowS.size (h : RowS σ k w cs n) : cs.length = n * k := by
  rcases h with h | ⟨h0, _⟩
  · exact h.1
  · exact h0
theorem RowS.one (h : RowS σ k w cs n) : one w = true := by
  rcases h with h | ⟨h0, r, off, c, rfl, _⟩
  · exact h.one
  · rfl
theorem RowS.len (h : RowS σ k w cs n) {t e : TypeId} (ht : Tryd.prog.underlying t = some (.slice e)) : vlen Tryd.prog t w = some (.int .i64 (n : Nat)) := by
  rcases h with h | ⟨h0, r, off, c, rfl, _⟩
  · exact h.len ht
  · simp [vlen, ht]
/-- The place of an element: what may be read there. -/
def At (σ : St) (p : V) (c : List V) : Prop := (∃ cs o, p = .eptr cs o ∧ o + c.length ≤ cs.length ∧ (cs.drop o).take c.length = c) ∨ ∃ r o cs, p = .optr r o ∧ σ.objs[r]? = some (.cells cs) ∧ o + c.length ≤ cs.length ∧ (cs.drop o).take c.length = c
theorem RowS.at (h : RowS σ k w cs n) {t e : TypeId} (ht : Tryd.prog.underlying t = some (.slice e)) (hs : sizeT Tryd.prog e = some k) (hk : 0 < k) {i : Nat} (hi : i < n) {kk : IntKind} :
    ∃ p, vindexAddr Tryd.prog t w (.int kk (i : Int)) = some p ∧ At σ p ((cs.drop (i * k)).take k) := by
  have hsz := h.size
  have hle : i * k + k ≤ n * k := by
    have : (i + 1) * k ≤ n * k := Nat.mul_le_mul_right k hi
    rwa [Nat.add_mul, Nat.one_mul] at this
  have hpl : ((cs.drop (i * k)).take k).length = k := by rw [List.length_take, List.length_drop]; omega
  rcases h with h | ⟨h0, r, off, c, rfl, h2, h3, h4⟩
  · refine ⟨_, RowV.addr h ht hs hk (kk := kk) (i := (i : Int)) (by omega) (by omega), .inl ⟨cs, i * k, by rw [Int.toNat_natCast], by rw [hpl]; omega, by rw [hpl]⟩⟩
  · have hi' : (i : Int) < n := by omega
    refine ⟨.optr r (off + i * k), by simp [vindexAddr, ht, hs, hi'], .inr ⟨r, _, c, rfl, h2, by rw [hpl]; omega, ?_⟩⟩
    rw [hpl, ← h4, List.drop_take, List.drop_drop, List.take_take]
    congr 1
    omega
theorem At.keep {σ' : St} {p : V} {c : List V} (h : At σ p c) (hk : Keep σ σ') : At σ' p c := by
  rcases h with h | ⟨r, o, cs, h1, h2, h3⟩
  · exact .inl h
  · exact .inr ⟨r, o, cs, h1, hk.1 _ _ h2, h3⟩
theorem At.load {p : V} {c : List V} (h : At σ p c) {e : TypeId} (ha : isAggT Tryd.prog e = some true) (hs : sizeT Tryd.prog e = some c.length) : vload Tryd.prog σ.objs e p = some (.agg c) := by
  rcases h with ⟨cs, o, rfl, h1, h2⟩ | ⟨r, o, cs, rfl, hr, h1, h2⟩
  · simp only [vload, vcellsAt, vpart, ha, hs, if_pos h1, h2]
  · simp only [vload, vcellsAt, hr, vpart, ha, hs, if_pos h1, h2]
theorem At.load1 {p : V} {v : V} (h : At σ p [v]) {e : TypeId} (ha : isAggT Tryd.prog e = some false) : vload Tryd.prog σ.objs e p = some v := by
  have key : ∀ (cs : List V) (o : Nat), o + 1 ≤ cs.length → (cs.drop o).take 1 = [v] → cs[o]? = some v := by
    intro cs o h1 h2
    have := congrArg (·[0]?) h2
    simpa using this
  rcases h with ⟨cs, o, rfl, h1, h2⟩ | ⟨r, o, cs, rfl, hr, h1, h2⟩
  · simp only [vload, vcellsAt, vpart, ha]; exact key cs o h1 h2
  · simp only [vload, vcellsAt, hr, vpart, ha]; exact key cs o h1 h2
/-- A cell of what lies there. -/
theorem At.part {p : V} {c : List V} (h : At σ p c) {j m : Nat} (hj : j + m ≤ c.length) : ∃ p', (∀ (e : TypeId) (f : Nat), (∀ q o, vfieldAddr Tryd.prog e (.optr q o) f = some (.optr q (o + j))) → (∀ cs o, vfieldAddr Tryd.prog e (.eptr cs o) f = some (.eptr cs (o + j))) → vfieldAddr Tryd.prog e p f = some p') ∧ At σ p' ((c.drop j).take m) := by
  have hpl : ((c.drop j).take m).length = m := by rw [List.length_take, List.length_drop]; omega
  have cut : ∀ (cs : List V) (o : Nat), o + c.length ≤ cs.length → (cs.drop o).take c.length = c → (cs.drop (o + j)).take m = (c.drop j).take m := by
    intro cs o h1 h2
    have h3 : c.drop j = ((cs.drop o).take c.length).drop j := by rw [h2]
    rw [h3, List.drop_take, List.drop_drop, List.take_take]
    congr 1
    omega
  rcases h with ⟨cs, o, rfl, h1, h2⟩ | ⟨r, o, cs, rfl, hr, h1, h2⟩
  · exact ⟨.eptr cs (o + j), fun e f _ h => h cs o, .inl ⟨cs, o + j, rfl, by rw [hpl]; omega, by rw [hpl]; exact cut cs o h1 h2⟩⟩
  · exact ⟨.optr r (o + j), fun e f h _ => h r o, .inr ⟨r, o + j, cs, rfl, hr, by rw [hpl]; omega, by rw [hpl]; exact cut cs o h1 h2⟩⟩
end
end Go.Proofs.YtnegdinonfjdfaaDoor.Q

/- The disk's plain facts, for other laws. -/
set_option linter.unusedVariables false
set_option linter.unusedSimpArgs false
set_option maxRecDepth 100000
namespace Go.Proofs.YtnegdinonfjdfaaDoor.Q
open Go Go.RowKit Go.Proofs
theorem off_writes (k : Int) (d : Dk) : (offD k d).writes = d.writes := by unfold offD; split <;> rfl
theorem goes_ok {d : Dk} (h : d.Ok) (k : Int) : (offD k (rawD d).2).Ok := h.raw.off k
theorem append_ok {n b : List UInt8} {d : Dk} (h : d.Ok) : (appendD n b d).2.Ok ∧ (appendD n b d).2.writes ≤ d.writes + 1 := by
  unfold appendD
  split
  · exact ⟨h, by simp⟩
  · rename_i hr
    have hr0 : readyD d n = 0 := Classical.byContradiction hr
    have hn := (readyD_named hr0).1
    simp only
    split
    · exact ⟨h, by simp⟩
    · rename_i hl
      split
      · exact ⟨h, by simp⟩
      · rename_i hf
        have ok2 : ({ d with files := putF ⟨n, ((getF d.files n).getD ⟨n, [], []⟩).safe, ((getF d.files n).getD ⟨n, [], []⟩).wait ++ b⟩ d.files } : Dk).Ok := by
          refine h.put hn ?_ fun hno => ?_
          · simp only [Fl.len, List.length_append] at hl ⊢; omega
          · have : ¬ 16 ≤ d.files.length := fun h1 => hf (.inl ⟨hno, h1⟩)
            omega
        have rf := raw_files { d with files := putF ⟨n, ((getF d.files n).getD ⟨n, [], []⟩).safe, ((getF d.files n).getD ⟨n, [], []⟩).wait ++ b⟩ d.files }
        split
        · exact ⟨goes_ok ok2 _, by rw [off_writes, rf.2.2.2.2]; simp⟩
        · exact ⟨ok2.raw, by rw [rf.2.2.2.2]; simp⟩
theorem put_same {d : Dk} (h : d.Ok) {n : List UInt8} (ht : thereD d n = 0) {s w : List UInt8} (hl : s.length + w.length ≤ 1048576) : ({ (rawD d).2 with files := putF ⟨n, s, w⟩ d.files } : Dk).Ok := by
  obtain ⟨hr, f, hg⟩ := thereD_zero ht
  have h1 : ({ (rawD d).2 with files := putF ⟨n, s, w⟩ (rawD d).2.files } : Dk).Ok := h.raw.put (readyD_named hr).1 (by simp only [Fl.len]; omega) fun hno => by
    rw [(raw_files d).1, hg] at hno; cases hno
  rw [(raw_files d).1] at h1
  exact h1
theorem raw_w (d : Dk) : (rawD d).2.writes = d.writes + 1 := (raw_files d).2.2.2.2
theorem sync_ok {n : List UInt8} {d : Dk} (h : d.Ok) : (syncD n d).2.Ok ∧ (syncD n d).2.writes ≤ d.writes + 1 := by
  unfold syncD
  split
  · exact ⟨h, by simp⟩
  · rename_i ht
    have ht0 : thereD d n = 0 := Classical.byContradiction ht
    obtain ⟨hr, f, hg⟩ := thereD_zero ht0
    have hl := (h.get hg).2.2.2
    split
    · exact ⟨goes_ok h _, by rw [off_writes, raw_w]; simp⟩
    · simp only [hg, Option.getD_some]
      exact ⟨put_same h ht0 (by simpa [Fl.len] using hl), by rw [raw_w]; simp⟩
theorem trunc_ok {n : List UInt8} {k : Int} {d : Dk} (h : d.Ok) : (truncD n k d).2.Ok ∧ (truncD n k d).2.writes ≤ d.writes + 1 := by
  unfold truncD
  split
  · exact ⟨h, by simp⟩
  · rename_i ht
    have ht0 : thereD d n = 0 := Classical.byContradiction ht
    obtain ⟨hr, f, hg⟩ := thereD_zero ht0
    have hl := (h.get hg).2.2.2
    simp only [hg, Option.getD_some]
    split
    · exact ⟨h, by simp⟩
    · split
      · exact ⟨goes_ok h _, by rw [off_writes, raw_w]; simp⟩
      · refine ⟨put_same h ht0 ?_, by rw [raw_w]; simp⟩
        simp only [Fl.len, List.length_take] at hl ⊢; omega
theorem remove_ok {n : List UInt8} {d : Dk} (h : d.Ok) : (removeD n d).2.Ok ∧ (removeD n d).2.writes ≤ d.writes + 1 := by
  unfold removeD
  split
  · exact ⟨h, by simp⟩
  · split
    · exact ⟨goes_ok h _, by rw [off_writes, raw_w]; simp⟩
    · have := h.raw.drop n
      rw [(raw_files d).1] at this
      exact ⟨this, by rw [raw_w]; simp⟩
theorem KS.nils {S : List Nat} {σ σ' : St} (h : KS [] σ σ') : KS S σ σ' := h.mono fun x hx => by cases hx
theorem DiskAt.pushes {σ σ' : St} {r rm : Nat} {d : Dk} {fs : List Ent} (h : DiskAt σ r d rm fs) (hk : KS [] σ σ') : DiskAt σ' r d rm fs := h.keep hk fun x _ => by simp
theorem readD_len {d : Dk} (hok : d.Ok) (n : List UInt8) : (readD n d).2.length ≤ 1048576 := by
  unfold readD
  split
  · simp
  · rename_i ht
    have ht0 : thereD d n = 0 := Classical.byContradiction ht
    obtain ⟨hr, f, hg⟩ := thereD_zero ht0
    have := (hok.get hg).2.2.2
    simp only [hg, Option.getD_some, List.length_append, Fl.len] at this ⊢
    exact this
theorem namesD_len {d : Dk} (hok : d.Ok) : (namesD d).length ≤ 16 := by
  have := hok.few
  unfold namesD
  split <;> simp
  omega
theorem TSS : Tryd.prog.underlying 43 = some (.slice 9) := by kernel_rfl
theorem SS9 : sizeT Tryd.prog 9 = some 1 := by kernel_rfl
theorem row_strs {σ : St} {v : V} {q : Option Nat} {l : List (List UInt8)} (h : rowOf σ.objs v = some (q, l.map V.str)) : RowS σ 1 v (l.map V.str) l.length := by
  rcases rowOf_spec h with ⟨rfl, rfl, h0⟩ | ⟨r, full, rfl, rfl, hr, hl, hc⟩
  · refine .inl ⟨by simp, .inl ⟨rfl, ?_⟩⟩
    have := congrArg List.length h0
    simpa using this
  · simp only [List.length_map] at hl hc ⊢
    exact .inr ⟨by simp, r, 0, full, rfl, hr, by omega, by rw [List.drop_zero, Nat.mul_one]; exact hc.symm⟩
theorem RowS.strAt {σ : St} {v : V} {l : List (List UInt8)} (h : RowS σ 1 v (l.map V.str) l.length) {i : Nat} (hi : i < l.length) : ∃ p, vindexAddr Tryd.prog 43 v (.int .i64 (i : Int)) = some p ∧ ∀ σ', KS [] σ σ' → vload Tryd.prog σ'.objs 9 p = some (.str l[i]) := by
  obtain ⟨p, h1, h2⟩ := h.at TSS SS9 (by omega) (i := i) (by simpa using hi) (kk := .i64)
  refine ⟨p, h1, fun σ' hk => ?_⟩
  have e : ((l.map V.str).drop (i * 1)).take 1 = [V.str l[i]] := by
    rw [Nat.mul_one, List.drop_eq_getElem_cons (by simpa using hi)]
    simp
  rw [e] at h2
  exact (h2.keep hk.keep).load1 G9
theorem readyD_yes {d : Dk} {n : List UInt8} (h : namedD n = true) (ho : d.on = true) : readyD d n = 0 := by
  unfold readyD; rw [if_neg (by simp [h]), if_neg (by simp [ho])]
theorem DiskAt.objs {σ σ' : St} {r rm : Nat} {d : Dk} {fs : List Ent} (h : DiskAt σ r d rm fs) (e : σ'.objs = σ.objs) : DiskAt σ' r d rm fs := ⟨by rw [e]; exact h.hd, by rw [e]; exact h.hm, by rw [e]; exact h.hf, h.nd, h.pm⟩
theorem OwnV.toks {e m : Nat} {σ σ' : St} {v : V} {bs : List UInt8} (h : OwnV e m σ v bs) (hk : ∀ k, tokLive σ.toks k = true → tokLive σ'.toks k = true) : OwnV e m σ' v bs := (h.toR.keep hk).toV
def Free (q : Option Nat) (F : List Nat) : Prop := ∀ x ∈ q.toList, x ∉ F
theorem Free.step {q : Option Nat} {F F' : List Nat} {n : Nat} (h : Free q F) (hl : ∀ x ∈ q.toList, x < n) (hF : ∀ x ∈ F', x ∈ F ∨ n ≤ x) : Free q F' := fun x hx hx2 => by
  rcases hF x hx2 with h1 | h1
  · exact h x hx h1
  · have := hl x hx; omega
theorem Free.low {q : Option Nat} {F : List Nat} {n : Nat} (hl : ∀ x ∈ q.toList, x < n) (hF : ∀ x ∈ F, n ≤ x) : Free q F := fun x hx hx2 => by
  have := hl x hx; have := hF x hx2; omega
theorem Free.high {q : Option Nat} {F : List Nat} {n : Nat} (hl : ∀ x ∈ q.toList, n ≤ x) (hF : ∀ x ∈ F, x < n) : Free q F := fun x hx hx2 => by
  have := hl x hx; have := hF x hx2; omega
theorem rowOf_free {σ σ' : St} {v : V} {q : Option Nat} {cs : List V} {F : List Nat} (h : rowOf σ.objs v = some (q, cs)) (hf : Free q F) (hk : KS F σ σ') : rowOf σ'.objs v = some (q, cs) := rowOf_frame h fun x hx o ho => hk.ko _ _ (hf x hx) ho
abbrev BV := V × List UInt8
theorem SBs : sizeT Tryd.prog 22 = some 1 := pSB
/-- A row of rows of bytes. -/
def PtsV (w : V) (l : List BV) : Prop := RowV 1 w (l.map Prod.fst) l.length
theorem PtsV.len {v : V} {l : List BV} (h : PtsV v l) : vlen Tryd.prog 37 v = some (.int .i64 l.length) := RowV.len h TBB
theorem PtsV.addr {v : V} {l : List BV} (h : PtsV v l) {i : Nat} (hi : i < l.length) : vindexAddr Tryd.prog 37 v (.int .i64 i) = some (.eptr (l.map Prod.fst) i) := by
  have := RowV.addr h TBB SBs (by omega) (kk := .i64) (i := i) (by omega) (by omega)
  rwa [Int.toNat_natCast, Nat.mul_one] at this
theorem PtsV.load {l : List BV} {i : Nat} (hi : i < l.length) {objs : List Ob} : vload Tryd.prog objs 22 (.eptr (l.map Prod.fst) i) = some l[i].1 := by
  simp [vload, vcellsAt, vpart, pGB, hi]
end Go.Proofs.YtnegdinonfjdfaaDoor.Q

/- The sum, and names with numbers: of the program and of the document. -/
set_option linter.unusedVariables false
set_option linter.unusedSimpArgs false
set_option maxRecDepth 100000
namespace Go.Proofs.YtnegdinonfjdfaaDoor.Q
open Go Go.RowKit Go.Proofs
/-! ### The sum -/
theorem crcadd_does {σ : St} {v : V} {bs : List UInt8} (r : BitVec 32) (h : BtsV v bs) (hl : bs.length ≤ 1000000000) : Does Tryd.prog prims 59 [.int .u32 ((r.toNat : Nat) : Int), v] σ (.ret (uV (crcAdd r bs))) σ := by
  refine Does.prim (by kernel_rfl) ?_
  simp only [prims]
  rw [if_neg (by decide +kernel), if_neg (by decide +kernel), if_neg (by decide +kernel), if_pos trivial]
  simp only [crcP', bts_vbytesC h, ofInt_toNat]
  rw [if_pos ⟨trivial, hl⟩]
theorem crcsum_does {σ : St} {v : V} {bs : List UInt8} (h : BtsV v bs) (hl : bs.length ≤ 1000000000) : Does Tryd.prog prims 41 [v] σ (.ret (uV (crcSum bs))) σ := by
  apply k41_is.ret (by simp)
  simp only [k41_a, WK, vop, evAll, evOpt, evParts, vbuiltin, vun, vextract, Nat.reduceLT, Nat.reduceEqDiff, ↓reduceIte, reduceCtorEq, Nat.reduceAdd, Int.reduceLT, Int.reduceNeg, valloc_std, noSB, vhot, List.getD_cons_zero]
  refine KD.ret (crcadd_does 0#32 h hl) ?_
  simp only [k41_a, WK, vop, evAll, evOpt, evParts, vbuiltin, vun, vextract, Nat.reduceLT, Nat.reduceEqDiff, ↓reduceIte, reduceCtorEq, Nat.reduceAdd, Int.reduceLT, Int.reduceNeg, valloc_std, noSB, vhot]
  rfl
def steps : Nat → BitVec 32 → BitVec 32
  | 0, r => r
  | k + 1, r => step1 (steps k r)
end Go.Proofs.YtnegdinonfjdfaaDoor.Q

/- Names with numbers: of the program and of the document (printed by snname.py). -/
set_option linter.unusedVariables false
set_option linter.unusedSimpArgs false
set_option maxRecDepth 100000
namespace Go.Proofs.YtnegdinonfjdfaaDoor.Q
open Go Go.RowKit Go.Proofs
theorem sbA {a b : List UInt8} (h : a.length + b.length ≤ 9223372036854775807) : strBin .add a b = some (.str (a ++ b)) := by simp only [strBin]; rw [if_pos h]
theorem vlenS (l : List UInt8) : vlen Tryd.prog 9 (.str l) = some (.int .i64 (l.length : Nat)) := by simp [vlen, T9]
theorem itoa_does {σ : St} {m : Nat} (h : m ≤ 999999999) : Does Tryd.prog prims 43 [.int .i64 (m : Nat)] σ (.ret (.str (digK (wid m) m))) σ := by
  refine Does.prim (by kernel_rfl) ?_
  simp only [prims]
  rw [if_neg (by decide +kernel), if_neg (by decide +kernel), if_neg (by decide +kernel), if_neg (by decide +kernel), if_pos trivial]
  simp only [itoaP, Int.toNat_natCast]
  rw [if_pos (by omega)]
theorem atoi_none {σ : St} {s : List UInt8} (hl : s.length ≤ 18) (h : Lib.atoi s = none) : Does Tryd.prog prims 69 [.str s] σ (.ret (.tuple [.int .i64 0, .iface 119 (.optr σ.objs.length 0)])) ⟨σ.objs ++ [.cells []], σ.toks⟩ := by
  refine Does.prim (by kernel_rfl) ?_
  simp only [prims]
  rw [if_neg (by decide +kernel), if_neg (by decide +kernel), if_neg (by decide +kernel), if_neg (by decide +kernel), if_neg (by decide +kernel), if_pos trivial]
  simp only [atoiP]
  rw [if_pos hl, h]
theorem atoi_some {σ : St} {s : List UInt8} {n : Int} (hl : s.length ≤ 18) (h : Lib.atoi s = some n) : Does Tryd.prog prims 69 [.str s] σ (.ret (.tuple [.int .i64 n, .nili])) σ := by
  refine Does.prim (by kernel_rfl) ?_
  simp only [prims]
  rw [if_neg (by decide +kernel), if_neg (by decide +kernel), if_neg (by decide +kernel), if_neg (by decide +kernel), if_neg (by decide +kernel), if_pos trivial]
  simp only [atoiP]
  rw [if_pos hl, h]
theorem wname_does {σ : St} (n : Int) : Does Tryd.prog prims 32 [.int .i64 n] σ (.ret (.str (nameP 106 1 n))) σ := by
  apply k32_is.ret (by simp)
  have oe : ofVal (Value.string { data := #[] }) = some (.str []) := rfl
  have o0 : ofVal (Value.string { data := #[48] }) = some (.str [48]) := rfl
  have oc : ofVal (Value.string { data := #[106] }) = some (.str [106]) := rfl
  by_cases h0 : n < 1
  · simp only [k32_a, WK, vop, evAll, evOpt, evParts, vbuiltin, vun, vextract, Nat.reduceLT, Nat.reduceEqDiff, ↓reduceIte, reduceCtorEq, Nat.reduceAdd, Int.reduceLT, Int.reduceNeg, valloc_std, noSB, vhot, List.getD_cons_zero, h0, decide_true, oe]
    unfold nameP
    rw [if_pos (.inl h0)]
  by_cases h1 : 999999999 < n
  · simp only [k32_a, WK, vop, evAll, evOpt, evParts, vbuiltin, vun, vextract, Nat.reduceLT, Nat.reduceEqDiff, ↓reduceIte, reduceCtorEq, Nat.reduceAdd, Int.reduceLT, Int.reduceNeg, valloc_std, noSB, vhot, List.getD_cons_zero, h0, h1, decide_true, decide_false, oe]
    unfold nameP
    rw [if_pos (.inr h1)]
  obtain ⟨m, rfl⟩ : ∃ m : Nat, n = (m : Int) := ⟨n.toNat, by omega⟩
  obtain ⟨w1, w2, w3, w4⟩ := wid_ok (n := m) (by omega)
  have hnm : nameP 106 1 (m : Int) = 106 :: digK 9 m := by
    unfold nameP
    rw [if_neg (by omega), Int.toNat_natCast]
  simp only [k32_a, WK, vop, evAll, evOpt, evParts, vbuiltin, vun, vextract, Nat.reduceLT, Nat.reduceEqDiff, ↓reduceIte, reduceCtorEq, Nat.reduceAdd, Int.reduceLT, Int.reduceNeg, valloc_std, noSB, vhot, List.getD_cons_zero, h0, h1, decide_false, oe]
  refine KD.ret (itoa_does (by omega)) ?_
  simp only [k32_a, WK, vop, evAll, evOpt, evParts, vbuiltin, vun, vextract, Nat.reduceLT, Nat.reduceEqDiff, ↓reduceIte, reduceCtorEq, Nat.reduceAdd, Int.reduceLT, Int.reduceNeg, valloc_std, noSB, vhot]
  refine Ev.loopF (fun (k : Nat) e s => e 3 = .str (digK k m) ∧ m < 10 ^ k ∧ k ≤ 9 ∧ s = σ) (fun k => 9 - k) (wid m) ?_ ?_
  · exact ⟨by simp [upd_some], w3, w1, rfl⟩
  rintro k e s ⟨h3, hm, hk, rfl⟩ hf
  clear hf
  have hl := vlenS (digK k m)
  rw [digK_len] at hl
  by_cases hlt : k < 9
  · have hlt' : (k : Int) < 9 := by omega
    have ha : strBin .add [48] (digK k m) = some (.str (digK (k + 1) m)) := by
      rw [sbA (by rw [digK_len]; simp; omega), digK_zero hm]; rfl
    simp only [k32_a, WK, vop, evAll, evOpt, evParts, vbuiltin, vun, vextract, Nat.reduceLT, Nat.reduceEqDiff, ↓reduceIte, reduceCtorEq, Nat.reduceAdd, Int.reduceLT, Int.reduceNeg, valloc_std, noSB, vhot, h3, hl, hlt', decide_true, o0, ha]
    exact ⟨k + 1, ⟨by simp [upd_some], by rw [Nat.pow_succ]; omega, by omega⟩, by omega⟩
  · have hlt' : ¬ (k : Int) < 9 := by omega
    have hk9 : k = 9 := by omega
    subst hk9
    have ha : strBin .add [106] (digK 9 m) = some (.str (106 :: digK 9 m)) := by
      rw [sbA (by rw [digK_len]; simp)]; rfl
    simp only [k32_a, WK, vop, evAll, evOpt, evParts, vbuiltin, vun, vextract, Nat.reduceLT, Nat.reduceEqDiff, ↓reduceIte, reduceCtorEq, Nat.reduceAdd, Int.reduceLT, Int.reduceNeg, valloc_std, noSB, vhot, h3, hl, hlt', decide_false, oc, ha, hnm]
end Go.Proofs.YtnegdinonfjdfaaDoor.Q

/- Snapshots' bytes, plainly. -/
set_option linter.unusedVariables false
set_option linter.unusedSimpArgs false
namespace Go.Proofs.YtnegdinonfjdfaaDoor.Q
open Go Go.RowKit Go.Proofs
def fourB (r : BitVec 32) : List UInt8 := [UInt8.ofNat r.toNat, UInt8.ofNat (r >>> 8).toNat, UInt8.ofNat (r >>> 16).toNat, UInt8.ofNat (r >>> 24).toNat]
def w4 (b : List UInt8) (i : Nat) : BitVec 32 := BitVec.ofNat 32 (b.getD i 0).toNat ||| (BitVec.ofNat 32 (b.getD (i + 1) 0).toNat <<< 8) ||| (BitVec.ofNat 32 (b.getD (i + 2) 0).toNat <<< 16) ||| (BitVec.ofNat 32 (b.getD (i + 3) 0).toNat <<< 24)
theorem shrN (r : BitVec 32) (k : Nat) : (r >>> k).toNat = r.toNat / 2 ^ k := by rw [BitVec.toNat_ushiftRight, Nat.shiftRight_eq_div_pow]
theorem fourB_len (r : BitVec 32) : (fourB r).length = 4 := rfl
theorem or_nat (x : BitVec 32) (b : UInt8) (k : Nat) (hx : x.toNat < 2 ^ k) (hk : k ≤ 24) : (x ||| (BitVec.ofNat 32 b.toNat <<< k)).toNat = x.toNat + b.toNat * 2 ^ k := by
  have hb := b.toNat_lt
  have h2 : 2 ^ k ≤ 2 ^ 24 := Nat.pow_le_pow_right (by decide) hk
  have h3 : b.toNat * 2 ^ k ≤ 255 * 2 ^ 24 := Nat.mul_le_mul (by omega) h2
  have e24 : (2 : Nat) ^ 24 = 16777216 := by decide
  have e1 : (BitVec.ofNat 32 b.toNat <<< k).toNat = b.toNat <<< k := by
    have m1 : b.toNat % 2 ^ 32 = b.toNat := Nat.mod_eq_of_lt (by omega)
    rw [BitVec.toNat_shiftLeft, BitVec.toNat_ofNat, m1, Nat.shiftLeft_eq, Nat.mod_eq_of_lt (by omega)]
  rw [BitVec.toNat_or, e1, Nat.or_comm, ← Nat.shiftLeft_add_eq_or_of_lt hx, Nat.shiftLeft_eq, Nat.add_comm]
theorem w4_nat (b : List UInt8) (i : Nat) : (w4 b i).toNat = (b.getD i 0).toNat + (b.getD (i + 1) 0).toNat * 256 + (b.getD (i + 2) 0).toNat * 65536 + (b.getD (i + 3) 0).toNat * 16777216 := by
  have h0 := (b.getD i 0).toNat_lt
  have h1 := (b.getD (i + 1) 0).toNat_lt
  have h2 := (b.getD (i + 2) 0).toNat_lt
  have h3 := (b.getD (i + 3) 0).toNat_lt
  have e0 : (BitVec.ofNat 32 (b.getD i 0).toNat).toNat = (b.getD i 0).toNat := by rw [BitVec.toNat_ofNat, Nat.mod_eq_of_lt (by omega)]
  unfold w4
  have a1 := or_nat (BitVec.ofNat 32 (b.getD i 0).toNat) (b.getD (i + 1) 0) 8 (by rw [e0]; omega) (by omega)
  have a2 := or_nat (BitVec.ofNat 32 (b.getD i 0).toNat ||| (BitVec.ofNat 32 (b.getD (i + 1) 0).toNat <<< 8)) (b.getD (i + 2) 0) 16 (by rw [a1, e0]; omega) (by omega)
  have a3 := or_nat (BitVec.ofNat 32 (b.getD i 0).toNat ||| (BitVec.ofNat 32 (b.getD (i + 1) 0).toNat <<< 8) ||| (BitVec.ofNat 32 (b.getD (i + 2) 0).toNat <<< 16)) (b.getD (i + 3) 0) 24 (by rw [a2, a1, e0]; omega) (by omega)
  rw [a3, a2, a1, e0]
theorem w4_of {b : List UInt8} {i : Nat} {r : BitVec 32} (h : (b.drop i).take 4 = fourB r) : w4 b i = r := by
  have hl : i + 4 ≤ b.length := by
    have := congrArg List.length h
    rw [List.length_take, List.length_drop, fourB_len] at this
    omega
  have hg : ∀ j (hj : j < 4), b.getD (i + j) 0 = (fourB r)[j]'(by rw [fourB_len]; exact hj) := fun j hj => by
    have : (fourB r)[j]? = ((b.drop i).take 4)[j]? := by rw [h]
    rw [List.getElem?_take_of_lt hj, List.getElem?_drop, List.getElem?_eq_getElem (by rw [fourB_len]; exact hj)] at this
    rw [List.getD_eq_getElem?_getD, ← this]
    rfl
  apply BitVec.eq_of_toNat_eq
  rw [w4_nat]
  have g0 := hg 0 (by omega)
  have g1 := hg 1 (by omega)
  have g2 := hg 2 (by omega)
  have g3 := hg 3 (by omega)
  rw [Nat.add_zero] at g0
  rw [g0, g1, g2, g3]
  have hr := r.isLt
  simp only [fourB, List.getElem_cons_zero, List.getElem_cons_succ, UInt8.toNat_ofNat', shrN]
  omega
/-- A snapshot's bytes. -/
def headS (n : Int) (body : List UInt8) : List UInt8 := fourB (BitVec.ofInt 32 n) ++ fourB (BitVec.ofNat 32 body.length)
def encS (n : Int) (body : List UInt8) : List UInt8 := headS n body ++ (fourB (crcSum (headS n body ++ body)) ++ body)
/-- What bytes are, as a snapshot of this number: its own bytes, what is wrong (10 short, 11 form, 12 sum). -/
def decS (n : Int) (b : List UInt8) : List UInt8 × Nat :=
  if b.length < 12 then ([], 10) else
  if b.length - 12 < (w4 b 4).toNat then ([], 10) else
  if (w4 b 4).toNat < b.length - 12 ∨ n < 0 ∨ 999999999 < n ∨ w4 b 0 ≠ BitVec.ofInt 32 n then ([], 11) else
  if w4 b 8 ≠ crcSum (b.take 8 ++ b.drop 12) then ([], 12) else (b.drop 12, 0)
end Go.Proofs.YtnegdinonfjdfaaDoor.Q

/- Encode, of the program and of the document. -/
set_option linter.unusedVariables false
set_option linter.unusedSimpArgs false
set_option maxRecDepth 100000
namespace Go.Proofs.YtnegdinonfjdfaaDoor.Q
open Go Go.RowKit Go.Proofs
theorem wrap_bv (n : Int) : IntKind.u32.wrap n = (((BitVec.ofInt 32 n).toNat : Nat) : Int) := by
  rw [BitVec.toNat_ofInt]
  unfold IntKind.wrap
  simp [IntKind.bits, IntKind.signed, IntKind.max, IntKind.min]
  omega
theorem conv32 (n : Int) : vconv Tryd.prog 3 61 (.int .i64 n) = some (.int .u32 (((BitVec.ofInt 32 n).toNat : Nat) : Int)) := by
  simp only [vconv, T3, pTU, wrap_bv]
theorem conv8 (r : BitVec 32) : vconv Tryd.prog 61 5 (.int .u32 ((r.toNat : Nat) : Int)) = some (byteV (UInt8.ofNat r.toNat)) := by
  have h : IntKind.u8.wrap ((r.toNat : Nat) : Int) = (((UInt8.ofNat r.toNat).toNat : Nat) : Int) := by
    rw [UInt8.toNat_ofNat']
    unfold IntKind.wrap
    simp [IntKind.bits, IntKind.signed, IntKind.max, IntKind.min]
  simp only [vconv, pTU, T5, h, byteV]
theorem shr8 (r : BitVec 32) : (((r.toNat : Nat) : Int) / (2 : Int) ^ (min (8 : Int).toNat IntKind.u32.bits)) = (((r >>> 8).toNat : Nat) : Int) := by
  have e : (2 : Int) ^ (min (8 : Int).toNat IntKind.u32.bits) = ((256 : Nat) : Int) := by decide
  rw [e, shrN]; omega
theorem shr16 (r : BitVec 32) : (((r.toNat : Nat) : Int) / (2 : Int) ^ (min (16 : Int).toNat IntKind.u32.bits)) = (((r >>> 16).toNat : Nat) : Int) := by
  have e : (2 : Int) ^ (min (16 : Int).toNat IntKind.u32.bits) = ((65536 : Nat) : Int) := by decide
  rw [e, shrN]; omega
theorem shr24 (r : BitVec 32) : (((r.toNat : Nat) : Int) / (2 : Int) ^ (min (24 : Int).toNat IntKind.u32.bits)) = (((r >>> 24).toNat : Nat) : Int) := by
  have e : (2 : Int) ^ (min (24 : Int).toNat IntKind.u32.bits) = ((16777216 : Nat) : Int) := by decide
  rw [e, shrN]; omega
theorem Keep.toks (σ : St) : Keep σ σ := Keep.refl σ
end Go.Proofs.YtnegdinonfjdfaaDoor.Q

/- Decode, of the program and of the document. -/
set_option linter.unusedVariables false
set_option linter.unusedSimpArgs false
set_option maxRecDepth 100000
namespace Go.Proofs.YtnegdinonfjdfaaDoor.Q
open Go Go.RowKit Go.Proofs
theorem shl_nat (r : BitVec 32) (k : Nat) (hk : k ≤ 24) (hr : r.toNat < 256) : IntKind.u32.wrap (((r.toNat : Nat) : Int) * (2 : Int) ^ k) = (((r <<< k).toNat : Nat) : Int) := by
  have h2 : 2 ^ k ≤ 2 ^ 24 := Nat.pow_le_pow_right (by decide) hk
  have h3 : r.toNat * 2 ^ k ≤ 255 * 2 ^ 24 := Nat.mul_le_mul (by omega) h2
  have e24 : (2 : Nat) ^ 24 = 16777216 := by decide
  have e : (((r.toNat : Nat) : Int) * (2 : Int) ^ k) = ((r.toNat * 2 ^ k : Nat) : Int) := by
    rw [Int.natCast_mul, Int.natCast_pow]; rfl
  rw [e, wrap_u32 (by omega) (by omega), BitVec.toNat_shiftLeft, Nat.shiftLeft_eq, Nat.mod_eq_of_lt (by omega)]
theorem byte_lt (b : UInt8) : (BitVec.ofNat 32 b.toNat).toNat < 256 := by
  have := b.toNat_lt
  rw [BitVec.toNat_ofNat, Nat.mod_eq_of_lt (by omega)]; omega
theorem shl8 (b : UInt8) : IntKind.u32.wrap ((((BitVec.ofNat 32 b.toNat).toNat : Nat) : Int) * (2 : Int) ^ (min (8 : Int).toNat IntKind.u32.bits)) = (((BitVec.ofNat 32 b.toNat <<< 8).toNat : Nat) : Int) := shl_nat _ 8 (by omega) (byte_lt b)
theorem shl16 (b : UInt8) : IntKind.u32.wrap ((((BitVec.ofNat 32 b.toNat).toNat : Nat) : Int) * (2 : Int) ^ (min (16 : Int).toNat IntKind.u32.bits)) = (((BitVec.ofNat 32 b.toNat <<< 16).toNat : Nat) : Int) := shl_nat _ 16 (by omega) (byte_lt b)
theorem shl24 (b : UInt8) : IntKind.u32.wrap ((((BitVec.ofNat 32 b.toNat).toNat : Nat) : Int) * (2 : Int) ^ (min (24 : Int).toNat IntKind.u32.bits)) = (((BitVec.ofNat 32 b.toNat <<< 24).toNat : Nat) : Int) := shl_nat _ 24 (by omega) (byte_lt b)
theorem conv832 (b : UInt8) : vconv Tryd.prog 5 61 (.int .u8 ((b.toNat : Nat) : Int)) = some (.int .u32 (((BitVec.ofNat 32 b.toNat).toNat : Nat) : Int)) := by
  simp only [vconv, pT5, pTU, byte32]
theorem BtsV.at' {v : V} {bs : List UInt8} (h : BtsV v bs) {i : Nat} (hi : i < bs.length) : vindexAddr Tryd.prog 22 v (.int .i64 (i : Int)) = some (.eptr (bs.map byteV) i) := by
  have := h.addr T22 S5 (k := .i64) (n := (i : Int)) (by omega) (by omega)
  rwa [Int.toNat_natCast] at this
theorem byte_ld {bs : List UInt8} {i : Nat} (hi : i < bs.length) {objs : List Ob} : vload Tryd.prog objs 5 (.eptr (bs.map byteV) i) = some (.int .u8 ((bs.getD i 0).toNat : Nat)) := by
  rw [List.getD_eq_getElem?_getD, List.getElem?_eq_getElem hi]
  exact BtsV.load (P := Tryd.prog) G5 hi
theorem toNat_eq (a b : BitVec 32) : (((a.toNat : Nat) : Int) = ((b.toNat : Nat) : Int)) ↔ a = b := ⟨fun h => BitVec.eq_of_toNat_eq (by omega), fun h => by rw [h]⟩
end Go.Proofs.YtnegdinonfjdfaaDoor.Q

/- Decode of the document; what was encoded is read. -/
set_option linter.unusedVariables false
set_option linter.unusedSimpArgs false
set_option maxRecDepth 100000
namespace Go.Proofs.YtnegdinonfjdfaaDoor.Q
open Go Go.RowKit Go.Proofs
theorem conv83 (b : UInt8) : vconv Tryd.prog 5 3 (.int .u8 ((b.toNat : Nat) : Int)) = some (.int .i64 ((b.toNat : Nat) : Int)) := by
  have := b.toNat_lt
  simp only [vconv, T5, T3]
  rw [wrap_i64 (by omega) (by omega)]
theorem sbN {a b : List UInt8} : strBin .neq a b = some (.bool (!decide (a = b))) := rfl
theorem sbE {a b : List UInt8} : strBin .eql a b = some (.bool (decide (a = b))) := rfl
end Go.Proofs.YtnegdinonfjdfaaDoor.Q

/- The waking of journals. -/
set_option linter.unusedVariables false
set_option linter.unusedSimpArgs false
set_option maxRecDepth 100000
namespace Go.Proofs.YtnegdinonfjdfaaDoor.Q
open Go Go.RowKit Go.Proofs
theorem wwakes_run : isTrue (vcall Tryd.prog prims 300 27 [] st0) = true := by kernel_rfl
theorem wwakes_does : ∃ σ, Does Tryd.prog prims 27 [] st0 (.ret (.bool true)) σ := by
  obtain ⟨σ, h⟩ := isTrue_eq wwakes_run
  exact ⟨σ, 300, h⟩
end Go.Proofs.YtnegdinonfjdfaaDoor.Q

/- The waking of snapshots. -/
set_option linter.unusedVariables false
set_option linter.unusedSimpArgs false
set_option maxRecDepth 100000
namespace Go.Proofs.YtnegdinonfjdfaaDoor.Q
open Go Go.RowKit Go.Proofs
end Go.Proofs.YtnegdinonfjdfaaDoor.Q

/- SnapBytes, SnapBack. -/
set_option linter.unusedVariables false
set_option linter.unusedSimpArgs false
set_option maxRecDepth 100000
namespace Go.Proofs.YtnegdinonfjdfaaDoor.Q
open Go Go.RowKit Go.Proofs
end Go.Proofs.YtnegdinonfjdfaaDoor.Q

/- SnapBack. -/
set_option linter.unusedVariables false
set_option linter.unusedSimpArgs false
set_option maxRecDepth 100000
namespace Go.Proofs.YtnegdinonfjdfaaDoor.Q
open Go Go.RowKit Go.Proofs
end Go.Proofs.YtnegdinonfjdfaaDoor.Q

/- Frames and records, of the program and of the document. -/
set_option linter.unusedVariables false
set_option linter.unusedSimpArgs false
set_option maxRecDepth 100000
namespace Go.Proofs.YtnegdinonfjdfaaDoor.Q
open Go Go.RowKit Go.Proofs
/-! ### Plainly -/
def frameB (r : List UInt8) : List UInt8 := fourB (BitVec.ofNat 32 r.length) ++ fourB (crcSum r) ++ r
def frameS (r : List UInt8) : List UInt8 × Nat := if 65536 < r.length then ([], 3) else (frameB r, 0)
theorem frameB_len (r : List UInt8) : (frameB r).length = 8 + r.length := by
  unfold frameB
  rw [List.length_append, List.length_append, fourB_len, fourB_len]
/-- The record that stands at this place: how long it is. -/
def recAt (b : List UInt8) (i : Nat) : Option Nat :=
  if b.length < i + 8 then none else
  if 65536 < (w4 b i).toNat ∨ b.length < i + 8 + (w4 b i).toNat then none else
  if crcSum ((b.drop (i + 8)).take (w4 b i).toNat) = w4 b (i + 4) then some (w4 b i).toNat else none
inductive Recs (b : List UInt8) : Nat → List (List UInt8) → Nat → Prop where
  | stop {i : Nat} (h : recAt b i = none) : Recs b i [] i
  | more {i n : Nat} {l : List (List UInt8)} {e : Nat} (h : recAt b i = some n) (r : Recs b (i + 8 + n) l e) : Recs b i ((b.drop (i + 8)).take n :: l) e
theorem recAt_some {b : List UInt8} {i n : Nat} (h : recAt b i = some n) : i + 8 + n ≤ b.length ∧ n ≤ 65536 ∧ n = (w4 b i).toNat ∧ crcSum ((b.drop (i + 8)).take n) = w4 b (i + 4) := by
  unfold recAt at h
  split at h
  · cases h
  split at h
  · cases h
  split at h
  · injection h with h
    subst h
    exact ⟨by omega, by omega, rfl, by assumption⟩
  · cases h
/-! ### Frame -/
theorem build8 (a b c d e f g h : UInt8) : vbuildSlice Tryd.prog 22 8 [(0, byteV a), (1, byteV b), (2, byteV c), (3, byteV d), (4, byteV e), (5, byteV f), (6, byteV g), (7, byteV h)] = some (.slice .exact 1 ([a, b, c, d, e, f, g, h].map byteV) 8) := by
  have r : List.range 8 = [0, 1, 2, 3, 4, 5, 6, 7] := by decide
  simp [vbuildSlice, T22, S5, BT.z, vcells, vfill, zeroCellsV, setAll, byteV, r]
theorem frame_sees {σ : St} {x : V} {r : List UInt8} (hb : BtsV x r) (hl : r.length ≤ 100000000) :
    ∃ q σ', Does Tryd.prog prims 28 [x] σ q σ' ∧ ∃ v, q = .ret (.tuple [v, .int .i64 ((frameS r).2 : Nat)]) ∧ BtsV v (frameS r).1 ∧ Keep σ σ' := by
  apply k28_is.does (by simp)
  have hlen := hb.len T22
  by_cases hbig : 65536 < r.length
  · have hbig' : (65536 : Int) < ((r.length : Nat) : Int) := by omega
    have e : frameS r = ([], 3) := by unfold frameS; rw [if_pos hbig]
    simp only [k28_a, WK, vop, evAll, evOpt, evParts, vbuiltin, vun, vextract, Nat.reduceLT, Nat.reduceEqDiff, ↓reduceIte, reduceCtorEq, Nat.reduceAdd, Int.reduceLT, Int.reduceNeg, valloc_std, noSB, vhot, List.getD_cons_zero, List.getD_cons_succ, nilEP, hlen, hbig', decide_true, e]
    exact ⟨.nils, rfl, .inl ⟨rfl, rfl⟩, Keep.refl _⟩
  have hbig' : ¬ (65536 : Int) < ((r.length : Nat) : Int) := by omega
  have e : frameS r = (frameB r, 0) := by unfold frameS; rw [if_neg hbig]
  obtain ⟨B, hB⟩ : ∃ B, B = BitVec.ofNat 32 r.length := ⟨_, rfl⟩
  have hB' : BitVec.ofInt 32 ((r.length : Nat) : Int) = B := by rw [hB]; simp
  have c2 := conv32 ((r.length : Nat) : Int)
  rw [hB'] at c2
  obtain ⟨C, hC⟩ : ∃ C, C = crcSum r := ⟨_, rfl⟩
  have hs := crcsum_does (σ := σ) hb (by omega)
  rw [← hC] at hs
  have hbl := build8 (UInt8.ofNat B.toNat) (UInt8.ofNat (B >>> 8).toNat) (UInt8.ofNat (B >>> 16).toNat) (UInt8.ofNat (B >>> 24).toNat) (UInt8.ofNat C.toNat) (UInt8.ofNat (C >>> 8).toNat) (UInt8.ofNat (C >>> 16).toNat) (UInt8.ofNat (C >>> 24).toNat)
  rw [show [UInt8.ofNat B.toNat, UInt8.ofNat (B >>> 8).toNat, UInt8.ofNat (B >>> 16).toNat, UInt8.ofNat (B >>> 24).toNat, UInt8.ofNat C.toNat, UInt8.ofNat (C >>> 8).toNat, UInt8.ofNat (C >>> 16).toNat, UInt8.ofNat (C >>> 24).toNat] = fourB B ++ fourB C from rfl] at hbl
  obtain ⟨v1, s1, a1, a2, a3, a4⟩ := OwnV.append' (P := Tryd.prog) (t := 22) (t2 := 22) BT (σ := σ) (show OwnV 5 σ.toks.length σ (.slice .exact 1 ((fourB B ++ fourB C).map byteV) 8) (fourB B ++ fourB C) from .inr ⟨.exact, rfl, .inl rfl⟩) (σ0 := σ) rfl (Keep.refl σ) T22 hb (by rw [List.length_append, fourB_len, fourB_len]; omega)
  simp only [k28_a, WK, vop, evAll, evOpt, evParts, vbuiltin, vun, vextract, Nat.reduceLT, Nat.reduceEqDiff, ↓reduceIte, reduceCtorEq, Nat.reduceAdd, Int.reduceLT, Int.reduceNeg, valloc_std, noSB, vhot, List.getD_cons_zero, List.getD_cons_succ, nilEP, hlen, hbig', decide_false, c2]
  refine KD.ret hs ?_
  simp only [k28_a, WK, vop, evAll, evOpt, evParts, vbuiltin, vun, vextract, Nat.reduceLT, Nat.reduceEqDiff, ↓reduceIte, reduceCtorEq, Nat.reduceAdd, Int.reduceLT, Int.reduceNeg, valloc_std, noSB, vhot, List.getD_cons_zero, List.getD_cons_succ, uV, conv8, shr8, shr16, shr24, hbl, a1, e]
  refine ⟨v1, rfl, ?_, a3⟩
  have : frameB r = fourB B ++ fourB C ++ r := by rw [hB, hC]; rfl
  rw [this]
  exact a2.bts
/-! ### Numbers of 64 bits, put together out of bytes -/
theorem or64 (a y k : Nat) (ha : a < 2 ^ k) (hk : k ≤ 24) (hy : y < 256) : bitOp .or .i64 ((a : Nat) : Int) ((y * 2 ^ k : Nat) : Int) = some (((a + y * 2 ^ k : Nat)) : Int) := by
  have h2 : 2 ^ k ≤ 2 ^ 24 := Nat.pow_le_pow_right (by decide) hk
  have h3 : y * 2 ^ k ≤ 255 * 2 ^ 24 := Nat.mul_le_mul (by omega) h2
  have e24 : (2 : Nat) ^ 24 = 16777216 := by decide
  have ea : BitVec.ofInt 64 ((a : Nat) : Int) = BitVec.ofNat 64 a := by simp
  have ey : BitVec.ofInt 64 ((y * 2 ^ k : Nat) : Int) = BitVec.ofNat 64 (y * 2 ^ k) := by rw [BitVec.ofInt_natCast]
  have hor : (BitVec.ofNat 64 a ||| BitVec.ofNat 64 (y * 2 ^ k)).toNat = a + y * 2 ^ k := by
    have m1 : a % 2 ^ 64 = a := Nat.mod_eq_of_lt (by omega)
    have m2 : y * 2 ^ k % 2 ^ 64 = y * 2 ^ k := Nat.mod_eq_of_lt (by omega)
    rw [BitVec.toNat_or, BitVec.toNat_ofNat, BitVec.toNat_ofNat, m1, m2, Nat.or_comm, ← Nat.shiftLeft_eq, ← Nat.shiftLeft_add_eq_or_of_lt ha, Nat.shiftLeft_eq, Nat.add_comm]
  show some (IntKind.i64.wrap (((BitVec.ofInt 64 ((a : Nat) : Int) ||| BitVec.ofInt 64 ((y * 2 ^ k : Nat) : Int)).toNat : Nat) : Int)) = _
  rw [ea, ey, hor, wrap_i64 (by omega) (by omega)]
theorem size64 (p q r t : UInt8) : IntKind.i64.wrap (((q.toNat : Nat) : Int) * (2 : Int) ^ (min (8 : Int).toNat IntKind.i64.bits)) = ((q.toNat * 2 ^ 8 : Nat) : Int) ∧ IntKind.i64.wrap (((r.toNat : Nat) : Int) * (2 : Int) ^ (min (16 : Int).toNat IntKind.i64.bits)) = ((r.toNat * 2 ^ 16 : Nat) : Int) ∧ IntKind.i64.wrap (((t.toNat : Nat) : Int) * (2 : Int) ^ (min (24 : Int).toNat IntKind.i64.bits)) = ((t.toNat * 2 ^ 24 : Nat) : Int) ∧
    bitOp .or .i64 ((p.toNat : Nat) : Int) ((q.toNat * 2 ^ 8 : Nat) : Int) = some ((p.toNat + q.toNat * 2 ^ 8 : Nat) : Int) ∧ bitOp .or .i64 ((p.toNat + q.toNat * 2 ^ 8 : Nat) : Int) ((r.toNat * 2 ^ 16 : Nat) : Int) = some ((p.toNat + q.toNat * 2 ^ 8 + r.toNat * 2 ^ 16 : Nat) : Int) ∧
    bitOp .or .i64 ((p.toNat + q.toNat * 2 ^ 8 + r.toNat * 2 ^ 16 : Nat) : Int) ((t.toNat * 2 ^ 24 : Nat) : Int) = some ((p.toNat + q.toNat * 2 ^ 8 + r.toNat * 2 ^ 16 + t.toNat * 2 ^ 24 : Nat) : Int) := by
  have h0 := p.toNat_lt
  have h1 := q.toNat_lt
  have h2 := r.toNat_lt
  have h3 := t.toNat_lt
  have m8 : (2 : Int) ^ (min (8 : Int).toNat IntKind.i64.bits) = 256 := by decide
  have m16 : (2 : Int) ^ (min (16 : Int).toNat IntKind.i64.bits) = 65536 := by decide
  have m24 : (2 : Int) ^ (min (24 : Int).toNat IntKind.i64.bits) = 16777216 := by decide
  refine ⟨?_, ?_, ?_, or64 _ _ 8 (by omega) (by omega) (by omega), or64 _ _ 16 (by omega) (by omega) (by omega), or64 _ _ 24 (by omega) (by omega) (by omega)⟩
  · rw [m8, wrap_i64 (by omega) (by omega)]; omega
  · rw [m16, wrap_i64 (by omega) (by omega)]; omega
  · rw [m24, wrap_i64 (by omega) (by omega)]; omega
theorem w4_pow (b : List UInt8) (i : Nat) : (w4 b i).toNat = (b.getD i 0).toNat + (b.getD (i + 1) 0).toNat * 2 ^ 8 + (b.getD (i + 2) 0).toNat * 2 ^ 16 + (b.getD (i + 3) 0).toNat * 2 ^ 24 := w4_nat b i
end Go.Proofs.YtnegdinonfjdfaaDoor.Q

/- Records, of the program and of the document. -/
set_option linter.unusedVariables false
set_option linter.unusedSimpArgs false
set_option maxRecDepth 100000
namespace Go.Proofs.YtnegdinonfjdfaaDoor.Q
open Go Go.RowKit Go.Proofs
theorem BBR : RowT Tryd.prog 37 22 1 24 := ⟨TBB, SBs, ⟨_, (by kernel_rfl : zeroT Tryd.prog 22 = some .nils), rfl⟩, by kernel_rfl, by omega⟩
theorem mkRows1 (a : V) (h1 : one a = true) : vbuildSlice Tryd.prog 37 1 [(0, a)] = some (.slice .exact 1 [a] 1) := by
  have hz : zeroT Tryd.prog 22 = some .nils := by kernel_rfl
  have e : List.range 1 = [0] := by decide
  have hn : vcells V.nils = [V.nils] := rfl
  simp [vbuildSlice, TBB, SBB, hz, hn, zeroCellsV, vfill, setAll, e, vcells_one h1, h1]
/-- A row of rows of bytes of one's own. -/
structure OwnB (m : Nat) (s : St) (w : V) (ps : List BV) : Prop where
  o : OwnR 22 1 m s w (ps.map Prod.fst) ps.length
  b : ∀ p ∈ ps, BtsV p.1 p.2
theorem OwnB.nil {m : Nat} {s : St} : OwnB m s .nils [] := ⟨OwnR.nil, fun p hp => by cases hp⟩
theorem OwnB.app {m : Nat} {s0 s : St} {w v : V} {ps : List BV} {bs : List UInt8} (h : OwnB m s w ps) (hm : m = s0.toks.length) (hk : Keep s0 s) (hv : BtsV v bs) (hl : ps.length ≤ 1000000000) :
    ∃ w' s', vappend Tryd.prog s 37 37 w (.slice .exact 1 [v] 1) = some (w', s') ∧ OwnB m s' w' (ps ++ [(v, bs)]) ∧ Keep s0 s' ∧ s'.objs = s.objs := by
  obtain ⟨w', s', a1, a2, a3, a4⟩ := h.o.appendO BBR (σ0 := s0) hm hk (t2 := 37) (y := .slice .exact 1 [v] 1) (ys := [v]) (l := 1) (by simp [vnewsO, vnews, TBB]) rfl (by simp [hv.one]) (by omega) (by omega)
  refine ⟨w', s', a1, ⟨by simpa using a2, fun p hp => ?_⟩, a3, a4⟩
  rcases List.mem_append.1 hp with hp | hp
  · exact h.b p hp
  · rw [List.mem_singleton] at hp; subst hp; exact hv
theorem OwnB.keep {m : Nat} {s s' : St} {w : V} {ps : List BV} (h : OwnB m s w ps) (hk : ∀ k, tokLive s.toks k = true → tokLive s'.toks k = true) : OwnB m s' w ps := ⟨h.o.keep hk, h.b⟩
theorem OwnB.pts {m : Nat} {s : St} {w : V} {ps : List BV} (h : OwnB m s w ps) : PtsV w ps := h.o.row
theorem hdr_get {b : List UInt8} {i j : Nat} (hj : j < 8) (h : i + 8 ≤ b.length) : ((b.drop i).take 8).getD j 0 = b.getD (i + j) 0 := by
  rw [List.getD_eq_getElem?_getD, List.getElem?_take_of_lt hj, List.getElem?_drop, ← List.getD_eq_getElem?_getD]
theorem records_sees {σ : St} {x : V} {b : List UInt8} {l : List (List UInt8)} {en : Nat} (hb : BtsV x b) (hl : b.length ≤ 100000000) (hR : Recs b 0 l en) :
    ∃ q σ', Does Tryd.prog prims 30 [x] σ q σ' ∧ ∃ w ps, q = .ret (.tuple [w, .int .i64 (en : Nat)]) ∧ OwnB σ.toks.length σ' w ps ∧ ps.map Prod.snd = l ∧ Keep σ σ' := by
  apply k30_is.does (by simp)
  have hlen := hb.len T22
  simp only [k30_a, WK, vop, evAll, evOpt, evParts, vbuiltin, vun, vextract, Nat.reduceLT, Nat.reduceEqDiff, ↓reduceIte, reduceCtorEq, Nat.reduceAdd, Int.reduceLT, Int.reduceNeg, valloc_std, noSB, vhot, List.getD_cons_zero, List.getD_cons_succ, nilEP]
  refine Ev.loopF (fun (i : Nat) e s => e 5 = .int .i64 (i : Nat) ∧ i ≤ b.length ∧ ∃ ps rest, OwnB σ.toks.length s (e 4) ps ∧ Recs b i rest en ∧ l = ps.map Prod.snd ++ rest ∧ ps.length ≤ i ∧ Keep σ s) (fun i => b.length - i) 0 ?_ ?_
  · exact ⟨by simp [upd_some], Nat.zero_le _, [], l, by simpa [upd_some] using OwnB.nil, hR, rfl, Nat.le_refl _, Keep.refl _⟩
  rintro i e s ⟨h5, hi, ps, rest, hO, hr, hll, hpl, hk⟩ hf
  have g0 : e 0 = x := (hf 0 (by decide)).trans (by simp [upd_some])
  clear hf
  have w1 : IntKind.i64.wrap (((b.length : Nat) : Int) - (i : Nat)) = ((b.length - i : Nat) : Int) := by rw [wrap_i64 (by omega) (by omega)]; omega
  by_cases h8 : b.length < i + 8
  · have h8' : ¬ (8 : Int) ≤ ((b.length - i : Nat) : Int) := by omega
    have hn : recAt b i = none := by unfold recAt; rw [if_pos h8]
    cases hr with
    | more h _ => rw [hn] at h; cases h
    | stop h =>
      simp only [k30_a, WK, vop, evAll, evOpt, evParts, vbuiltin, vun, vextract, Nat.reduceLT, Nat.reduceEqDiff, ↓reduceIte, reduceCtorEq, Nat.reduceAdd, Int.reduceLT, Int.reduceNeg, valloc_std, noSB, vhot, g0, h5, hlen, w1, h8', decide_false]
      exact ⟨_, ps, rfl, hO, by rw [hll, List.append_nil], hk⟩
  have h8' : (8 : Int) ≤ ((b.length - i : Nat) : Int) := by omega
  have w2 : IntKind.i64.wrap ((i : Int) + 8) = ((i + 8 : Nat) : Int) := by rw [wrap_i64 (by omega) (by omega)]; omega
  obtain ⟨vh, hh, bh⟩ := hb.slice (t := 22) T22 S5 (vbounds_lohi (k := .i64) (k' := .i64) (n := (i : Int)) (m := ((i + 8 : Nat) : Int)) (len := b.length) (by omega) (by omega) (by omega)) (by omega) (by omega)
  rw [Int.toNat_natCast, Int.toNat_natCast, show i + 8 - i = 8 from by omega] at bh
  have hhl : ((b.drop i).take 8).length = 8 := by rw [List.length_take, List.length_drop]; omega
  obtain ⟨m1, m2, m3, o1, o2, o3⟩ := size64 (b.getD i 0) (b.getD (i + 1) 0) (b.getD (i + 2) 0) (b.getD (i + 3) 0)
  have hw := w4_pow b i
  rw [← hw] at o3
  clear hw
  generalize hS : (w4 b i).toNat = S at o3
  have t0 : vindexAddr Tryd.prog 22 vh (.int .i64 0) = some (.eptr (((b.drop i).take 8).map byteV) 0) := bh.at' (i := 0) (by omega)
  have t1 : vindexAddr Tryd.prog 22 vh (.int .i64 1) = some (.eptr (((b.drop i).take 8).map byteV) 1) := bh.at' (i := 1) (by omega)
  have t2 : vindexAddr Tryd.prog 22 vh (.int .i64 2) = some (.eptr (((b.drop i).take 8).map byteV) 2) := bh.at' (i := 2) (by omega)
  have t3 : vindexAddr Tryd.prog 22 vh (.int .i64 3) = some (.eptr (((b.drop i).take 8).map byteV) 3) := bh.at' (i := 3) (by omega)
  have t4 : vindexAddr Tryd.prog 22 vh (.int .i64 4) = some (.eptr (((b.drop i).take 8).map byteV) 4) := bh.at' (i := 4) (by omega)
  have t5 : vindexAddr Tryd.prog 22 vh (.int .i64 5) = some (.eptr (((b.drop i).take 8).map byteV) 5) := bh.at' (i := 5) (by omega)
  have t6 : vindexAddr Tryd.prog 22 vh (.int .i64 6) = some (.eptr (((b.drop i).take 8).map byteV) 6) := bh.at' (i := 6) (by omega)
  have t7 : vindexAddr Tryd.prog 22 vh (.int .i64 7) = some (.eptr (((b.drop i).take 8).map byteV) 7) := bh.at' (i := 7) (by omega)
  have ld : ∀ (objs : List Ob) (j : Nat) (hj : j < 8), vload Tryd.prog objs 5 (.eptr (((b.drop i).take 8).map byteV) j) = some (.int .u8 ((b.getD (i + j) 0).toNat : Nat)) := fun objs j hj => by
    rw [byte_ld (by omega), hdr_get hj (by omega)]
  have l0 := fun objs => ld objs 0 (by omega)
  rw [Nat.add_zero] at l0
  have l1 := fun objs => ld objs 1 (by omega)
  have l2 := fun objs => ld objs 2 (by omega)
  have l3 := fun objs => ld objs 3 (by omega)
  have l4 := fun objs => ld objs 4 (by omega)
  have l5 := fun objs => ld objs 5 (by omega)
  have l6 := fun objs => ld objs 6 (by omega)
  have l7 := fun objs => ld objs 7 (by omega)
  simp only [k30_a, WK, vop, evAll, evOpt, evParts, vbuiltin, vun, vextract, Nat.reduceLT, Nat.reduceEqDiff, ↓reduceIte, reduceCtorEq, Nat.reduceAdd, Int.reduceLT, Int.reduceNeg, valloc_std, noSB, vhot, g0, h5, hlen, w1, h8', decide_true, w2, T22, hh, t0, t1, t2, t3, l0, l1, l2, l3, conv83, m1, m2, m3, o1, o2, o3]
  clear m1 m2 m3 o1 o2 o3 l0 l1 l2 l3 t0 t1 t2 t3
  by_cases hbig : 65536 < S
  · have hbig' : (65536 : Int) < (S : Nat) := Int.ofNat_lt.2 hbig
    have hn : recAt b i = none := by unfold recAt; rw [if_neg h8, hS, if_pos (.inl hbig)]
    cases hr with
    | more h _ => rw [hn] at h; cases h
    | stop h =>
      simp only [k30_a, WK, vop, evAll, evOpt, evParts, vbuiltin, vun, vextract, Nat.reduceLT, Nat.reduceEqDiff, ↓reduceIte, reduceCtorEq, Nat.reduceAdd, Int.reduceLT, Int.reduceNeg, valloc_std, noSB, vhot, g0, h5, hbig', decide_true]
      exact ⟨_, ps, rfl, hO, by rw [hll, List.append_nil], hk⟩
  have hbig' : ¬ (65536 : Int) < (S : Nat) := fun h => hbig (Int.ofNat_lt.1 h)
  have w3 : IntKind.i64.wrap (((b.length - i : Nat) : Int) - 8) = ((b.length - i - 8 : Nat) : Int) := by rw [wrap_i64 (by omega) (by omega)]; omega
  by_cases hlong : b.length < i + 8 + S
  · have hlong' : ((b.length - i - 8 : Nat) : Int) < (S : Nat) := by omega
    have hn : recAt b i = none := by unfold recAt; rw [if_neg h8, hS, if_pos (.inr hlong)]
    cases hr with
    | more h _ => rw [hn] at h; cases h
    | stop h =>
      simp only [k30_a, WK, vop, evAll, evOpt, evParts, vbuiltin, vun, vextract, Nat.reduceLT, Nat.reduceEqDiff, ↓reduceIte, reduceCtorEq, Nat.reduceAdd, Int.reduceLT, Int.reduceNeg, valloc_std, noSB, vhot, g0, h5, hlen, w1, w3, hbig', hlong', decide_true, decide_false]
      exact ⟨_, ps, rfl, hO, by rw [hll, List.append_nil], hk⟩
  have hlong' : ¬ ((b.length - i - 8 : Nat) : Int) < (S : Nat) := by omega
  have w4' : IntKind.i64.wrap (((i + 8 : Nat) : Int) + (S : Nat)) = ((i + 8 + S : Nat) : Int) := by rw [wrap_i64 (by omega) (by omega)]; omega
  obtain ⟨vr, hvr, br⟩ := hb.slice (t := 22) T22 S5 (vbounds_lohi (k := .i64) (k' := .i64) (n := ((i + 8 : Nat) : Int)) (m := ((i + 8 + S : Nat) : Int)) (len := b.length) (by omega) (by omega) (by omega)) (by omega) (by omega)
  rw [Int.toNat_natCast, Int.toNat_natCast, show i + 8 + S - (i + 8) = S from by omega] at br
  have hrl : ((b.drop (i + 8)).take S).length = S := by rw [List.length_take, List.length_drop]; omega
  have hs := crcsum_does (σ := s) br (by omega)
  simp only [k30_a, WK, vop, evAll, evOpt, evParts, vbuiltin, vun, vextract, Nat.reduceLT, Nat.reduceEqDiff, ↓reduceIte, reduceCtorEq, Nat.reduceAdd, Int.reduceLT, Int.reduceNeg, valloc_std, noSB, vhot, g0, h5, hlen, w1, w2, w3, w4', hbig', hlong', decide_false, T22, hvr]
  refine KD.ret hs ?_
  have hwe : BitVec.ofNat 32 (b.getD (i + 4) 0).toNat ||| BitVec.ofNat 32 (b.getD (i + 5) 0).toNat <<< 8 ||| BitVec.ofNat 32 (b.getD (i + 6) 0).toNat <<< 16 ||| BitVec.ofNat 32 (b.getD (i + 7) 0).toNat <<< 24 = w4 b (i + 4) := rfl
  by_cases hc : crcSum ((b.drop (i + 8)).take S) = w4 b (i + 4)
  · have hn : recAt b i = some S := by unfold recAt; rw [if_neg h8, hS, if_neg (by omega), if_pos hc]
    have hc' : (((crcSum ((b.drop (i + 8)).take S)).toNat : Nat) : Int) = (((w4 b (i + 4)).toNat : Nat) : Int) := by rw [hc]
    cases hr with
    | stop h => rw [hn] at h; cases h
    | more h hr' =>
      rw [hn] at h
      injection h with h
      subst h
      rename_i rest'
      obtain ⟨v5, s5, a1, a2, a3, a4⟩ := OwnV.append' (P := Tryd.prog) (t := 22) (t2 := 22) BT (σ := s) (show OwnV 5 s.toks.length s (.slice .exact 1 [] 0) [] from .inr ⟨.exact, rfl, .inl rfl⟩) (σ0 := s) rfl (Keep.refl s) T22 br (by simp; omega)
      rw [List.nil_append] at a2
      obtain ⟨v6, s6, b1, b2, b3, b4⟩ := (hO.keep a3.2.2).app (s0 := σ) rfl (hk.trans a3) a2.bts (by omega)
      have w5 : IntKind.i64.wrap (8 + ((S : Nat) : Int)) = ((8 + S : Nat) : Int) := by rw [wrap_i64 (by omega) (by omega)]; omega
      have w6 : IntKind.i64.wrap (((i : Nat) : Int) + ((8 + S : Nat) : Int)) = ((i + 8 + S : Nat) : Int) := by rw [wrap_i64 (by omega) (by omega)]; omega
      simp only [k30_a, WK, vop, evAll, evOpt, evParts, vbuiltin, vun, vextract, Nat.reduceLT, Nat.reduceEqDiff, ↓reduceIte, reduceCtorEq, Nat.reduceAdd, Int.reduceLT, Int.reduceNeg, valloc_std, noSB, vhot, uV, t4, t5, t6, t7, l4, l5, l6, l7, conv832, shl8, shl16, shl24, bit_or, hwe, hc', eq_self, decide_true, Bool.not_true, build0 BT, a1, mkRows1 v5 a2.bts.one, b1, h5, w5, w6]
      refine ⟨i + 8 + S, ⟨by simp [upd_some], by omega, _, rest', by simpa [upd_some] using b2, hr', ?_, by simp; omega, b3⟩, by omega⟩
      rw [hll]
      simp
  · have hn : recAt b i = none := by unfold recAt; rw [if_neg h8, hS, if_neg (by omega), if_neg hc]
    have hc' : ¬ (((crcSum ((b.drop (i + 8)).take S)).toNat : Nat) : Int) = (((w4 b (i + 4)).toNat : Nat) : Int) := fun h => hc ((toNat_eq _ _).1 h)
    cases hr with
    | more h _ => rw [hn] at h; cases h
    | stop h =>
      simp only [k30_a, WK, vop, evAll, evOpt, evParts, vbuiltin, vun, vextract, Nat.reduceLT, Nat.reduceEqDiff, ↓reduceIte, reduceCtorEq, Nat.reduceAdd, Int.reduceLT, Int.reduceNeg, valloc_std, noSB, vhot, uV, t4, t5, t6, t7, l4, l5, l6, l7, conv832, shl8, shl16, shl24, bit_or, hwe, hc', decide_false, Bool.not_false, h5]
      exact ⟨_, ps, rfl, hO, by rw [hll, List.append_nil], hk⟩
end Go.Proofs.YtnegdinonfjdfaaDoor.Q

/- Records of the document; WalFrames. -/
set_option linter.unusedVariables false
set_option linter.unusedSimpArgs false
set_option maxRecDepth 100000
namespace Go.Proofs.YtnegdinonfjdfaaDoor.Q
open Go Go.RowKit Go.Proofs
theorem recs_le {b : List UInt8} {i e : Nat} {l : List (List UInt8)} (h : Recs b i l e) : (∀ r ∈ l, r.length ≤ b.length) ∧ l.length + i ≤ max b.length i := by
  induction h with
  | stop h => exact ⟨fun r hr => absurd hr List.not_mem_nil, by simp only [List.length_nil]; omega⟩
  | more h r ih =>
    have := recAt_some h
    refine ⟨fun r hr => ?_, by have := ih.2; simp only [List.length_cons]; omega⟩
    rcases List.mem_cons.1 hr with rfl | hr
    · rw [List.length_take, List.length_drop]; omega
    · exact ih.1 r hr
end Go.Proofs.YtnegdinonfjdfaaDoor.Q

/- Save. -/
set_option linter.unusedVariables false
set_option linter.unusedSimpArgs false
set_option maxRecDepth 100000
namespace Go.Proofs.YtnegdinonfjdfaaDoor.Q
open Go Go.RowKit Go.Proofs
def numZ (name : List UInt8) : Int := match numP 115 name with
  | some m => (m : Int)
  | none => -1
/-! ### Plainly -/
def dr : List UInt8 := [100, 114, 97, 102, 116]
def thenD (r : Nat × Dk) (f : Dk → Nat × Dk) : Nat × Dk := if r.1 ≠ 0 then r else f r.2
def rmDraft (d : Dk) : Nat × Dk := if (readD dr d).1 = 0 then removeD dr d else (0, d)
def purgeD (n : Int) : List (List UInt8) → Dk → Nat × Dk
  | [], d => (0, d)
  | x :: l, d => if numZ x < 0 ∨ numZ x = n then purgeD n l d else thenD (removeD x d) (purgeD n l)
def saveRest3 (n : Int) (d3 : Dk) : Nat × Dk := thenD (renameD dr (nameP 115 0 n) d3) fun d4 => purgeD n (namesD d4) d4
def saveRest2 (n : Int) (d2 : Dk) : Nat × Dk := thenD (syncD dr d2) (saveRest3 n)
def saveRest (n : Int) (body : List UInt8) (d1 : Dk) : Nat × Dk := thenD (appendD dr (encS n body) d1) (saveRest2 n)
def saveD (n : Int) (body : List UInt8) (d : Dk) : Nat × Dk :=
  if nameP 115 0 n = [] then (1, d) else
  if 1048564 < body.length then (3, d) else
  if d.on = false then (20, d) else
  thenD (rmDraft d) fun d1 => thenD (appendD dr (encS n body) d1) fun d2 => thenD (syncD dr d2) fun d3 => thenD (renameD dr (nameP 115 0 n) d3) fun d4 => purgeD n (namesD d4) d4
end Go.Proofs.YtnegdinonfjdfaaDoor.Q

/- Load. -/
set_option linter.unusedVariables false
set_option linter.unusedSimpArgs false
set_option maxRecDepth 100000
namespace Go.Proofs.YtnegdinonfjdfaaDoor.Q
open Go Go.RowKit Go.Proofs
def loadN (d : Dk) : List (List UInt8) → Int × List UInt8 → Int × List UInt8
  | [], a => a
  | x :: l, a => if numZ x < 0 then loadN d l a else if (decS (numZ x) (readD x d).2).2 = 0 then loadN d l (numZ x, (decS (numZ x) (readD x d).2).1) else loadN d l a
def loadD (d : Dk) : (Int × List UInt8) × Nat := if d.on = false then ((0, []), 20) else (loadN d (namesD d) (-1, []), 0)
theorem vice_int (σ : St) (k : IntKind) (n : Int) : vice σ (.int k n) = none := rfl
/-- What was read is not written any more. -/
theorem iced {σ : St} {v : V} {q : Option Nat} {bs : List UInt8} (h : rowOf σ.objs v = some (q, bs.map byteV)) : ∃ v' σ', (vice σ v = some (v', σ') ∨ (vice σ v = none ∧ v' = v ∧ σ' = σ)) ∧ BtsV v' bs ∧ KS q.toList σ σ' := by
  rcases rowOf_spec h with ⟨rfl, rfl, e⟩ | ⟨r, full, rfl, rfl, hr, hl, hc⟩
  · have : bs = [] := by simpa using e
    subst this
    exact ⟨.nils, σ, .inr ⟨rfl, rfl, rfl⟩, .inl ⟨rfl, rfl⟩, KS.refl _ _⟩
  · refine ⟨.slice .ro 1 (bs.map byteV) bs.length, ⟨σ.objs.set r .dead, σ.toks⟩, .inl ?_, .inr ⟨.ro, rfl⟩, KS.set (.inl (by simp)) _⟩
    simp only [List.length_map] at hl hc ⊢
    simp only [vice, hr, Nat.zero_add]
    rw [if_pos hl, List.drop_zero, ← hc]
end Go.Proofs.YtnegdinonfjdfaaDoor.Q

/- A segment's number; giving up; a segment. -/
set_option linter.unusedVariables false
set_option linter.unusedSimpArgs false
set_option maxRecDepth 100000
namespace Go.Proofs.YtnegdinonfjdfaaDoor.Q
open Go Go.RowKit Go.Proofs
/-! ### Numbers -/
def numW (name : List UInt8) : Nat := (numP 106 name).getD 0
theorem wnumber_sees {σ : St} (name : List UInt8) : ∃ q σ', Does Tryd.prog prims 56 [.str name] σ q σ' ∧ q = .ret (.int .i64 (numW name : Nat)) ∧ KS [] σ σ' := by
  apply k56_is.does (by simp)
  have hl := vlenS name
  by_cases h10 : name.length = 10
  · obtain ⟨b, t, rfl⟩ : ∃ b t, name = b :: t := by
      cases name with
      | nil => simp at h10
      | cons b t => exact ⟨b, t, rfl⟩
    have ht9 : t.length = 9 := by simpa using h10
    have h10' : (((b :: t).length : Nat) : Int) = 10 := by omega
    have hix : vindex Tryd.prog 9 (.str (b :: t)) (.int .i64 0) = some (.int .u8 ((b.toNat : Nat) : Int)) := by simp [vindex, T9]
    by_cases hb : b = 106
    · subst hb
      have hb' : (((106 : UInt8).toNat : Nat) : Int) = 106 := by decide
      have hsl : vslice Tryd.prog 9 (.str (106 :: t)) (some (.int .i64 1)) none none = some (.str t) := by
        have hv := vbounds_lo (k := .i64) (n := 1) (len := (106 :: t : List UInt8).length) (by omega) (by simp only [List.length_cons]; omega)
        simp only [vslice, T9, hv]
        simp only [show (1 : Int).toNat = 1 from rfl, List.drop_succ_cons, List.drop_zero, List.length_cons]
        rw [List.take_of_length_le (by omega)]
      cases ha : Lib.atoi t with
      | none =>
        have hn := num_none (pre := 106) ht9 ha
        have hz : numW (106 :: t) = 0 := by unfold numW; rw [hn]; rfl
        have hnm : ¬ nameP 106 1 0 = 106 :: t := by unfold nameP; rw [if_pos (by omega)]; intro h; cases h
        simp only [k56_a, WK, vop, evAll, evOpt, evParts, vbuiltin, vun, vextract, Nat.reduceLT, Nat.reduceEqDiff, ↓reduceIte, reduceCtorEq, Nat.reduceAdd, Int.reduceLT, Int.reduceNeg, valloc_std, noSB, vhot, List.getD_cons_zero, List.getD_cons_succ, hl, h10', eq_self, decide_true, Bool.not_true, hix, hb', hsl, T9]
        refine KD.ret (atoi_none (by omega) ha) ?_
        simp only [k56_a, WK, vop, evAll, evOpt, evParts, vbuiltin, vun, vextract, Nat.reduceLT, Nat.reduceEqDiff, ↓reduceIte, reduceCtorEq, Nat.reduceAdd, Int.reduceLT, Int.reduceNeg, valloc_std, noSB, vhot, List.getD_cons_zero, List.getD_cons_succ]
        refine KD.ret (wname_does 0) ?_
        simp only [k56_a, WK, vop, evAll, evOpt, evParts, vbuiltin, vun, vextract, Nat.reduceLT, Nat.reduceEqDiff, ↓reduceIte, reduceCtorEq, Nat.reduceAdd, Int.reduceLT, Int.reduceNeg, valloc_std, noSB, vhot, List.getD_cons_zero, List.getD_cons_succ, sbN, hnm, decide_false, Bool.not_false, hz, Int.natCast_zero]
        first | exact ⟨trivial, KS.push _ _ _⟩ | exact KS.push _ _ _
      | some m =>
        obtain ⟨n1, n2⟩ := num_some (pre := 106) ht9 ha
        simp only [k56_a, WK, vop, evAll, evOpt, evParts, vbuiltin, vun, vextract, Nat.reduceLT, Nat.reduceEqDiff, ↓reduceIte, reduceCtorEq, Nat.reduceAdd, Int.reduceLT, Int.reduceNeg, valloc_std, noSB, vhot, List.getD_cons_zero, List.getD_cons_succ, hl, h10', eq_self, decide_true, Bool.not_true, hix, hb', hsl, T9]
        refine KD.ret (atoi_some (by omega) ha) ?_
        simp only [k56_a, WK, vop, evAll, evOpt, evParts, vbuiltin, vun, vextract, Nat.reduceLT, Nat.reduceEqDiff, ↓reduceIte, reduceCtorEq, Nat.reduceAdd, Int.reduceLT, Int.reduceNeg, valloc_std, noSB, vhot, List.getD_cons_zero, List.getD_cons_succ]
        refine KD.ret (wname_does m) ?_
        by_cases hnm : nameP 106 1 m = 106 :: t
        · have hm1 : 1 ≤ m := by
            unfold nameP at hnm
            split at hnm
            · cases hnm
            · omega
          have h0 : nameP 106 0 m = 106 :: t := by
            unfold nameP at hnm ⊢
            split at hnm
            · cases hnm
            · rw [if_neg (by omega)]; exact hnm
          obtain ⟨g1, g2, g3⟩ := n1 h0.symm
          have hz : ((numW (106 :: t) : Nat) : Int) = m := by unfold numW; rw [g3]; simp only [Option.getD_some]; omega
          simp only [k56_a, WK, vop, evAll, evOpt, evParts, vbuiltin, vun, vextract, Nat.reduceLT, Nat.reduceEqDiff, ↓reduceIte, reduceCtorEq, Nat.reduceAdd, Int.reduceLT, Int.reduceNeg, valloc_std, noSB, vhot, List.getD_cons_zero, List.getD_cons_succ, sbN, hnm, eq_self, decide_true, Bool.not_true, hz]
          first | exact ⟨trivial, KS.refl _ _⟩ | exact KS.refl _ _
        · have hz : numW (106 :: t) = 0 := by
            by_cases h0 : nameP 106 0 m = 106 :: t
            · obtain ⟨g1, g2, g3⟩ := n1 h0.symm
              have : m = 0 := by
                refine Classical.byContradiction fun hm => hnm ?_
                unfold nameP at h0 ⊢
                rw [if_neg (by omega)] at h0 ⊢
                exact h0
              unfold numW
              rw [g3, this]
              rfl
            · unfold numW; rw [n2 (fun h => h0 h.symm)]; rfl
          simp only [k56_a, WK, vop, evAll, evOpt, evParts, vbuiltin, vun, vextract, Nat.reduceLT, Nat.reduceEqDiff, ↓reduceIte, reduceCtorEq, Nat.reduceAdd, Int.reduceLT, Int.reduceNeg, valloc_std, noSB, vhot, List.getD_cons_zero, List.getD_cons_succ, sbN, hnm, decide_false, Bool.not_false, hz, Int.natCast_zero]
          first | exact ⟨trivial, KS.refl _ _⟩ | exact KS.refl _ _
    · have hb' : ¬ ((b.toNat : Nat) : Int) = 106 := fun h => hb (by apply UInt8.toNat_inj.1; have : (106 : UInt8).toNat = 106 := rfl; omega)
      have hz : numW (b :: t) = 0 := by
        unfold numW numP
        simp only
        rw [if_neg (fun h => hb h.1)]
        rfl
      simp only [k56_a, WK, vop, evAll, evOpt, evParts, vbuiltin, vun, vextract, Nat.reduceLT, Nat.reduceEqDiff, ↓reduceIte, reduceCtorEq, Nat.reduceAdd, Int.reduceLT, Int.reduceNeg, valloc_std, noSB, vhot, List.getD_cons_zero, List.getD_cons_succ, hl, h10', eq_self, decide_true, decide_false, Bool.not_true, Bool.not_false, hix, hb', hz, Int.natCast_zero]
      first | exact ⟨trivial, KS.refl _ _⟩ | exact KS.refl _ _
  · have h10' : ¬ ((name.length : Nat) : Int) = 10 := by omega
    have hz : numW name = 0 := by
      unfold numW numP
      cases name with
      | nil => rfl
      | cons b t => simp only; rw [if_neg (fun h => h10 (by simp [h.2.1]))]; rfl
    simp only [k56_a, WK, vop, evAll, evOpt, evParts, vbuiltin, vun, vextract, Nat.reduceLT, Nat.reduceEqDiff, ↓reduceIte, reduceCtorEq, Nat.reduceAdd, Int.reduceLT, Int.reduceNeg, valloc_std, noSB, vhot, List.getD_cons_zero, List.getD_cons_succ, hl, h10', decide_false, Bool.not_false, hz, Int.natCast_zero]
    first | exact ⟨trivial, KS.refl _ _⟩ | exact KS.refl _ _
/-! ### Giving up -/
def stopV (e : Nat) : V := .iface 102 (.agg [.int .i64 (e : Nat)])
theorem bldS (e : Int) : vbuild Tryd.prog 102 [(0, .int .i64 e)] = some (.agg [.int .i64 e]) := by kernel_rfl
theorem mkS (v : V) : vmakeIface Tryd.prog 102 v = some (.iface 102 v) := by kernel_rfl
theorem must_ok {σ : St} {e : Nat} (he : e = 0) : Does Tryd.prog prims 57 [.int .i64 (e : Nat)] σ (.ret (.tuple [])) σ := by
  subst he
  apply k57_is.ret (by simp)
  simp only [k57_a, WK, vop, evAll, evOpt, evParts, vbuiltin, vun, vextract, Nat.reduceLT, Nat.reduceEqDiff, ↓reduceIte, reduceCtorEq, Nat.reduceAdd, Int.reduceLT, Int.reduceNeg, valloc_std, noSB, vhot, List.getD_cons_zero, List.getD_cons_succ, Int.natCast_zero, eq_self, decide_true, Bool.not_true]
theorem must_pan {σ : St} {e : Nat} (he : e ≠ 0) : Does Tryd.prog prims 57 [.int .i64 (e : Nat)] σ (.pan (stopV e)) σ := by
  have key : ∃ q σ', Does Tryd.prog prims 57 [.int .i64 (e : Nat)] σ q σ' ∧ q = .pan (stopV e) ∧ σ' = σ := by
    apply k57_is.does (by simp)
    have he' : ¬ ((e : Nat) : Int) = 0 := by omega
    simp only [k57_a, WK, vop, evAll, evOpt, evParts, vbuiltin, vun, vextract, Nat.reduceLT, Nat.reduceEqDiff, ↓reduceIte, reduceCtorEq, Nat.reduceAdd, Int.reduceLT, Int.reduceNeg, valloc_std, noSB, vhot, List.getD_cons_zero, List.getD_cons_succ, he', decide_false, Bool.not_false, bldS, mkS]
    first | rfl | exact ⟨rfl, rfl⟩
  obtain ⟨q, σ', h, rfl, rfl⟩ := key
  exact h
/-! ### A segment -/
def recsK (b : List UInt8) : Nat → Nat → List (List UInt8) × Nat
  | 0, i => ([], i)
  | k + 1, i => match recAt b i with
    | none => ([], i)
    | some n => ((b.drop (i + 8)).take n :: (recsK b k (i + 8 + n)).1, (recsK b k (i + 8 + n)).2)
def recsB (b : List UInt8) : List (List UInt8) × Nat := recsK b (b.length + 1) 0
theorem recsK_is (b : List UInt8) : ∀ k i, b.length < i + k → Recs b i (recsK b k i).1 (recsK b k i).2
  | 0, i, h => by
    refine .stop ?_
    unfold recAt
    rw [if_pos (by omega)]
  | k + 1, i, h => by
    rw [recsK]
    cases hr : recAt b i with
    | none => exact .stop hr
    | some n => exact .more hr (recsK_is b k _ (by omega))
theorem recsB_is (b : List UInt8) : Recs b 0 (recsB b).1 (recsB b).2 := recsK_is b _ 0 (by omega)
def segD (n : List UInt8) (d : Dk) : (Nat × List (List UInt8)) × Dk :=
  if (readD n d).1 ≠ 0 then (((readD n d).1, []), d) else
  let t : Nat × Dk := if (recsB (readD n d).2).2 < (readD n d).2.length then truncD n ((recsB (readD n d).2).2 : Nat) d else (0, d)
  if t.1 ≠ 0 then ((t.1, []), t.2) else
  if (syncD n t.2).1 ≠ 0 then (((syncD n t.2).1, []), (syncD n t.2).2) else ((0, (recsB (readD n d).2).1), (syncD n t.2).2)
theorem segment_sees {σ : St} {r rm : Nat} {d : Dk} {fs : List Ent} (n : List UInt8) (h : DiskAt σ r d rm fs) (hok : d.Ok) (hw : d.writes ≤ 1000000000) :
    ∃ q σ', Does Tryd.prog prims 58 [.optr r 0, .str n] σ q σ' ∧ (Next σ r rm fs σ' (segD n d).2 ∧ (((segD n d).1.1 = 0 ∧ ∃ w ps, q = .ret w ∧ PtsV w ps ∧ (∀ p ∈ ps, BtsV p.1 p.2) ∧ ps.map Prod.snd = (segD n d).1.2) ∨ ((segD n d).1.1 ≠ 0 ∧ q = .pan (stopV (segD n d).1.1)))) := by
  suffices key : ∀ P : VRes → St → Prop, (∀ q σ', (Next σ r rm fs σ' (segD n d).2 ∧ (((segD n d).1.1 = 0 ∧ ∃ w ps, q = .ret w ∧ PtsV w ps ∧ (∀ p ∈ ps, BtsV p.1 p.2) ∧ ps.map Prod.snd = (segD n d).1.2) ∨ ((segD n d).1.1 ≠ 0 ∧ q = .pan (stopV (segD n d).1.1)))) → P q σ') → ∃ q σ', Does Tryd.prog prims 58 [.optr r 0, .str n] σ q σ' ∧ P q σ' from key _ fun _ _ h => h
  intro P hP
  apply k58_is.does (by simp)
  obtain ⟨q1, s1, c1, v1, o1, rfl, n1, K1, I1⟩ := read_sees (n := n) h hok
  obtain ⟨v2, s2, ei, b2, K2⟩ := iced n1
  have K12 : KS [] σ s2 := K1.trans K2 (fun y hy => .inr (I1 y hy))
  have D2 := h.pushes K12
  have hrl := readD_len hok n
  obtain ⟨J, hJ⟩ : ∃ J, J = seqC Tryd.prog prims 36 ((.seq (.region k58_r6) (.seq (.region k58_r7) .ret)) : CC) (fnK Tryd.prog 36 [ResultVar.tmp 4] P) := ⟨_, rfl⟩
  obtain ⟨K, hK⟩ : ∃ K, K = seqC Tryd.prog prims 36 ((.seq (.region k58_r2) (.seq (.region k58_r3) (.seq (.seq (.region k58_r4) (.cond (.tmp 25) (.region k58_r5) .skip)) (.seq (.region k58_r6) (.seq (.region k58_r7) .ret))))) : CC) (fnK Tryd.prog 36 [ResultVar.tmp 4] P) := ⟨_, rfl⟩
  have rest : ∀ (e : Nat → V), e 0 = .optr r 0 → e 1 = .str n → e 5 = v2 → e 6 = .int .i64 ((readD n d).1 : Nat) → K .normal e s2 := by
    intro e g0 g1 g5 g6
    rw [hK]
    by_cases hr : (readD n d).1 = 0
    rotate_left
    · have e0 : segD n d = (((readD n d).1, []), d) := by unfold segD; rw [if_pos hr]
      simp only [k58_a, WK, vop, evAll, evOpt, evParts, vbuiltin, vun, vextract, Nat.reduceLT, Nat.reduceEqDiff, ↓reduceIte, reduceCtorEq, Nat.reduceAdd, Int.reduceLT, Int.reduceNeg, valloc_std, noSB, vhot, g6]
      refine KD.pan (must_pan hr) ?_
      simp only [k58_a, WK, vop, evAll, evOpt, evParts, vbuiltin, vun, vextract, Nat.reduceLT, Nat.reduceEqDiff, ↓reduceIte, reduceCtorEq, Nat.reduceAdd, Int.reduceLT, Int.reduceNeg, valloc_std, noSB, vhot]
      exact hP _ _ ⟨by rw [e0]; exact ⟨fs, D2, K12.nils, fun y hy => .inl hy⟩, .inr ⟨by rw [e0]; exact hr, by rw [e0]⟩⟩
    obtain ⟨q3, s3, c3, w, ps, rfl, O3, P3, K3⟩ := records_sees (σ := s2) b2 (by omega) (recsB_is _)
    have D3 := D2.pushes (K3.ks [])
    have K13 : KS [] σ s3 := K12.trans' (K3.ks [])
    have hen := (recs_le (recsB_is (readD n d).2)).2
    have hlen := b2.len T22
    have back : ∀ (e : Nat → V) (s4 : St) (t : Nat × Dk) (fs4 : List Ent), e 0 = .optr r 0 → e 1 = .str n → e 7 = w → DiskAt s4 r t.2 rm fs4 → t.2.Ok → t.2.writes ≤ 1000000001 → Next σ r rm fs s4 t.2 → KS (foot r rm fs) σ s4 → (∀ y ∈ foot r rm fs4, y ∈ foot r rm fs ∨ σ.objs.length ≤ y) → t.1 = 0 → t = (if (recsB (readD n d).2).2 < (readD n d).2.length then truncD n ((recsB (readD n d).2).2 : Nat) d else (0, d)) → J .normal e s4 := by
      intro e s4 t fs4 g0 g1 g7 D4 ok4 hw4 N4 K4 I4 ht et
      rw [hJ]
      obtain ⟨q5, s5, c5, rfl, fs5, D5, K5, I5⟩ := sync_sees (n := n) D4 ok4 (by omega)
      have N5 : Next σ r rm fs s5 (syncD n t.2).2 := Next.trans K4 I4 ⟨fs5, D5, K5, I5⟩
      simp only [k58_a, WK, vop, evAll, evOpt, evParts, vbuiltin, vun, vextract, Nat.reduceLT, Nat.reduceEqDiff, ↓reduceIte, reduceCtorEq, Nat.reduceAdd, Int.reduceLT, Int.reduceNeg, valloc_std, noSB, vhot, g0, g1]
      refine KD.ret c5 ?_
      simp only [k58_a, WK, vop, evAll, evOpt, evParts, vbuiltin, vun, vextract, Nat.reduceLT, Nat.reduceEqDiff, ↓reduceIte, reduceCtorEq, Nat.reduceAdd, Int.reduceLT, Int.reduceNeg, valloc_std, noSB, vhot]
      by_cases hy : (syncD n t.2).1 = 0
      · have e0 : segD n d = ((0, (recsB (readD n d).2).1), (syncD n t.2).2) := by
          unfold segD
          rw [if_neg (by omega)]
          simp only
          rw [← et, if_neg (by omega), if_neg (by omega)]
        refine KD.ret (must_ok hy) ?_
        simp only [k58_a, WK, vop, evAll, evOpt, evParts, vbuiltin, vun, vextract, Nat.reduceLT, Nat.reduceEqDiff, ↓reduceIte, reduceCtorEq, Nat.reduceAdd, Int.reduceLT, Int.reduceNeg, valloc_std, noSB, vhot, g7]
        exact hP _ _ ⟨by rw [e0]; exact N5, .inl ⟨by rw [e0], w, ps, rfl, O3.pts, O3.b, by rw [e0]; exact P3⟩⟩
      · have e0 : segD n d = (((syncD n t.2).1, []), (syncD n t.2).2) := by
          unfold segD
          rw [if_neg (by omega)]
          simp only
          rw [← et, if_neg (by omega), if_pos hy]
        refine KD.pan (must_pan hy) ?_
        simp only [k58_a, WK, vop, evAll, evOpt, evParts, vbuiltin, vun, vextract, Nat.reduceLT, Nat.reduceEqDiff, ↓reduceIte, reduceCtorEq, Nat.reduceAdd, Int.reduceLT, Int.reduceNeg, valloc_std, noSB, vhot]
        exact hP _ _ ⟨by rw [e0]; exact N5, .inr ⟨by rw [e0]; exact hy, by rw [e0]⟩⟩
    simp only [k58_a, WK, vop, evAll, evOpt, evParts, vbuiltin, vun, vextract, Nat.reduceLT, Nat.reduceEqDiff, ↓reduceIte, reduceCtorEq, Nat.reduceAdd, Int.reduceLT, Int.reduceNeg, valloc_std, noSB, vhot, g6]
    refine KD.ret (must_ok hr) ?_
    simp only [k58_a, WK, vop, evAll, evOpt, evParts, vbuiltin, vun, vextract, Nat.reduceLT, Nat.reduceEqDiff, ↓reduceIte, reduceCtorEq, Nat.reduceAdd, Int.reduceLT, Int.reduceNeg, valloc_std, noSB, vhot, g5]
    refine KD.ret c3 ?_
    simp only [k58_a, WK, vop, evAll, evOpt, evParts, vbuiltin, vun, vextract, Nat.reduceLT, Nat.reduceEqDiff, ↓reduceIte, reduceCtorEq, Nat.reduceAdd, Int.reduceLT, Int.reduceNeg, valloc_std, noSB, vhot, g5, hlen]
    by_cases hc : (recsB (readD n d).2).2 < (readD n d).2.length
    · have hc' : (((recsB (readD n d).2).2 : Nat) : Int) < ((readD n d).2.length : Nat) := by omega
      obtain ⟨q4, s4, c4, rfl, fs4, D4, K4, I4⟩ := trunc_sees (n := n) (k := ((recsB (readD n d).2).2 : Nat)) D3 hok (by omega)
      obtain ⟨ok4, hw4⟩ := trunc_ok (n := n) (k := ((recsB (readD n d).2).2 : Nat)) hok
      have I4' : ∀ y ∈ foot r rm fs4, y ∈ foot r rm fs ∨ σ.objs.length ≤ y := fun y hy => by
        rcases I4 y hy with h | h
        · exact .inl h
        · have := K13.le; exact .inr (by omega)
      have K4' : KS (foot r rm fs) σ s4 := K13.nils.trans' K4
      have N4 : Next σ r rm fs s4 (truncD n ((recsB (readD n d).2).2 : Nat) d).2 := ⟨fs4, D4, K4', I4'⟩
      rw [← hJ]
      simp only [k58_a, WK, vop, evAll, evOpt, evParts, vbuiltin, vun, vextract, Nat.reduceLT, Nat.reduceEqDiff, ↓reduceIte, reduceCtorEq, Nat.reduceAdd, Int.reduceLT, Int.reduceNeg, valloc_std, noSB, vhot, g0, g1, hc', decide_true]
      refine KD.ret c4 ?_
      simp only [k58_a, WK, vop, evAll, evOpt, evParts, vbuiltin, vun, vextract, Nat.reduceLT, Nat.reduceEqDiff, ↓reduceIte, reduceCtorEq, Nat.reduceAdd, Int.reduceLT, Int.reduceNeg, valloc_std, noSB, vhot]
      by_cases ht : (truncD n ((recsB (readD n d).2).2 : Nat) d).1 = 0
      · refine KD.ret (must_ok ht) ?_
        simp only [k58_a, WK, vop, evAll, evOpt, evParts, vbuiltin, vun, vextract, Nat.reduceLT, Nat.reduceEqDiff, ↓reduceIte, reduceCtorEq, Nat.reduceAdd, Int.reduceLT, Int.reduceNeg, valloc_std, noSB, vhot]
        exact back _ s4 _ fs4 (by simp [upd_some, g0]) (by simp [upd_some, g1]) (by simp [upd_some]) D4 ok4 (by omega) N4 K4' I4' ht (by rw [if_pos hc])
      · have e0 : segD n d = (((truncD n ((recsB (readD n d).2).2 : Nat) d).1, []), (truncD n ((recsB (readD n d).2).2 : Nat) d).2) := by
          unfold segD
          rw [if_neg (by omega)]
          simp only
          rw [if_pos hc, if_pos ht]
        refine KD.pan (must_pan ht) ?_
        rw [hJ]
        simp only [k58_a, WK, vop, evAll, evOpt, evParts, vbuiltin, vun, vextract, Nat.reduceLT, Nat.reduceEqDiff, ↓reduceIte, reduceCtorEq, Nat.reduceAdd, Int.reduceLT, Int.reduceNeg, valloc_std, noSB, vhot]
        exact hP _ _ ⟨by rw [e0]; exact N4, .inr ⟨by rw [e0]; exact ht, by rw [e0]⟩⟩
    · have hc' : ¬ (((recsB (readD n d).2).2 : Nat) : Int) < ((readD n d).2.length : Nat) := by omega
      rw [← hJ]
      simp only [k58_a, WK, vop, evAll, evOpt, evParts, vbuiltin, vun, vextract, Nat.reduceLT, Nat.reduceEqDiff, ↓reduceIte, reduceCtorEq, Nat.reduceAdd, Int.reduceLT, Int.reduceNeg, valloc_std, noSB, vhot, g0, g1, hc', decide_false]
      exact back _ s3 (0, d) fs (by simp [upd_some, g0]) (by simp [upd_some, g1]) (by simp [upd_some]) D3 hok (by simp only; omega) ⟨fs, D3, K13.nils, fun y hy => .inl hy⟩ K13.nils (fun y hy => .inl hy) rfl (by rw [if_neg hc])
  simp only [k58_a, WK, vop, evAll, evOpt, evParts, vbuiltin, vun, vextract, Nat.reduceLT, Nat.reduceEqDiff, ↓reduceIte, reduceCtorEq, Nat.reduceAdd, Int.reduceLT, Int.reduceNeg, valloc_std, noSB, vhot, List.getD_cons_zero, List.getD_cons_succ, nilEP]
  rw [← hK]
  refine KD.ret c1 ?_
  rcases ei with ei | ⟨ei, e1, e2⟩
  · simp only [k58_a, WK, vop, evAll, evOpt, evParts, vbuiltin, vun, vextract, Nat.reduceLT, Nat.reduceEqDiff, ↓reduceIte, reduceCtorEq, Nat.reduceAdd, Int.reduceLT, Int.reduceNeg, valloc_std, noSB, vhot, ei, vice_int]
    exact rest _ (by simp [upd_some]) (by simp [upd_some]) (by simp [upd_some]) (by simp [upd_some])
  · simp only [k58_a, WK, vop, evAll, evOpt, evParts, vbuiltin, vun, vextract, Nat.reduceLT, Nat.reduceEqDiff, ↓reduceIte, reduceCtorEq, Nat.reduceAdd, Int.reduceLT, Int.reduceNeg, valloc_std, noSB, vhot, ei, vice_int]
    rw [← e2]
    exact rest _ (by simp [upd_some]) (by simp [upd_some]) (by simp [upd_some, e1]) (by simp [upd_some])
end Go.Proofs.YtnegdinonfjdfaaDoor.Q

/- wal.Open: plainly; what catches the giving up. -/
set_option linter.unusedVariables false
set_option linter.unusedSimpArgs false
set_option maxRecDepth 100000
namespace Go.Proofs.YtnegdinonfjdfaaDoor.Q
open Go Go.RowKit Go.Proofs
/-! ### Plainly -/
structure OpS where
  first : Nat
  wf : Nat
  next : Nat
  brk : Bool
  recs : List (List UInt8)
def OpS.skips (s : OpS) (n : Nat) : Prop := 0 < s.first ∧ (s.brk = true ∨ n ≠ s.next)
instance (s : OpS) (n : Nat) : Decidable (s.skips n) := by unfold OpS.skips; infer_instance
def OpS.more (s : OpS) (n : Nat) (l : List (List UInt8)) : OpS := ⟨if s.first = 0 then n else s.first, n, n + l.length, s.brk, s.recs ++ l⟩
def openL : List (List UInt8) → OpS → Dk → (Nat × OpS) × Dk
  | [], s, d => ((0, s), d)
  | x :: l, s, d =>
    if numW x = 0 then openL l s d else
    if s.skips (numW x) then (if (removeD x d).1 ≠ 0 then (((removeD x d).1, s), (removeD x d).2) else openL l { s with brk := true } (removeD x d).2) else
    if (segD x d).1.1 ≠ 0 then (((segD x d).1.1, s), (segD x d).2) else openL l (s.more (numW x) (segD x d).1.2) (segD x d).2
def op0 : OpS := ⟨0, 1, 1, false, []⟩
def openD (per : Int) (d : Dk) : (Nat × OpS) × Dk :=
  if per < 1 then ((1, op0), d) else
  if d.on = false then ((20, op0), d) else
  openL (namesD d) op0 d
def OpS.from (s : OpS) : Nat := if s.first = 0 then 1 else s.first
theorem numW_le (name : List UInt8) : numW name ≤ 999999999 := by
  unfold numW
  cases h : numP 106 name with
  | none => simp
  | some m => have := (name_num h).2; simp only [Option.getD_some]; omega
theorem seg_ok {n : List UInt8} {d : Dk} (h : d.Ok) : (segD n d).2.Ok ∧ (segD n d).2.writes ≤ d.writes + 2 := by
  have ht : ∀ t : Nat × Dk, t = (if (recsB (readD n d).2).2 < (readD n d).2.length then truncD n ((recsB (readD n d).2).2 : Nat) d else (0, d)) → t.2.Ok ∧ t.2.writes ≤ d.writes + 1 := by
    rintro t rfl
    split
    · exact trunc_ok h
    · exact ⟨h, by simp only; omega⟩
  unfold segD
  split
  · exact ⟨h, by simp only; omega⟩
  · obtain ⟨t, et⟩ : ∃ t : Nat × Dk, t = (if (recsB (readD n d).2).2 < (readD n d).2.length then truncD n ((recsB (readD n d).2).2 : Nat) d else (0, d)) := ⟨_, rfl⟩
    obtain ⟨o1, w1⟩ := ht t et
    obtain ⟨o2, w2⟩ := sync_ok (n := n) o1
    simp only
    rw [← et]
    split
    · exact ⟨o1, by simp only; omega⟩
    · split
      · exact ⟨o2, by simp only; omega⟩
      · exact ⟨o2, by simp only; omega⟩
theorem seg_len {n : List UInt8} {d : Dk} (h : d.Ok) : (segD n d).1.2.length ≤ 1048576 := by
  have hl := readD_len h n
  have hr := (recs_le (recsB_is (readD n d).2)).2
  unfold segD
  split
  · simp
  · obtain ⟨t, et⟩ : ∃ t : Nat × Dk, t = (if (recsB (readD n d).2).2 < (readD n d).2.length then truncD n ((recsB (readD n d).2).2 : Nat) d else (0, d)) := ⟨_, rfl⟩
    simp only
    rw [← et]
    split
    · simp
    · split
      · simp
      · simp only; omega
/-! ### The function whose call is put off -/
theorem GEr : isAggT Tryd.prog 24 = some false := by kernel_rfl
theorem SEr : sizeT Tryd.prog 24 = some 1 := by kernel_rfl
theorem ZSt : zeroT Tryd.prog 102 = some (.agg [.int .i64 0]) := by kernel_rfl
theorem SSt : sizeT Tryd.prog 102 = some 1 := by kernel_rfl
theorem FSt (r : Nat) : vfieldAddr Tryd.prog 102 (.optr r 0) 0 = some (.optr r 0) := by kernel_rfl
theorem SWp : sizeT Tryd.prog 50 = some 1 := by kernel_rfl
theorem GWp : isAggT Tryd.prog 50 = some false := by kernel_rfl
theorem SRs : sizeT Tryd.prog 37 = some 1 := by kernel_rfl
theorem GRs : isAggT Tryd.prog 37 = some false := by kernel_rfl
theorem TAny : Tryd.prog.underlying 20 = some (.interface #[]) := by kernel_rfl
theorem eql_anyIf {t : TypeId} {v : V} {xo : Operand} : vbin Tryd.prog .eql 20 xo (.const .nilIface) (.iface t v) .nili = some (.bool false) := by
  simp [vbin, bothSame, guardFree, aggEq, TAny]
theorem eql_anyNil {xo : Operand} : vbin Tryd.prog .eql 20 xo (.const .nilIface) .nili .nili = some (.bool true) := by
  simp [vbin, bothSame, guardFree, aggEq, TAny, isC]
theorem TAs (v : V) : vtypeAssert Tryd.prog (.iface 102 v) 20 102 true = some (.tuple [v, .bool true]) := by kernel_rfl
theorem wcaught_does {σ : St} {a : Nat} {va : V} (ha : σ.objs[a]? = some (.cells [va])) (e : Nat) : ∃ q σ', Does Tryd.prog prims 55 [.optr a 0, stopV e] σ q σ' ∧ q = .ret (.tuple []) ∧ σ'.objs[a]? = some (.cells [.int .i64 (e : Nat)]) ∧ KS [a] σ σ' := by
  apply k55_is.does (by simp)
  have hla := (List.getElem?_eq_some_iff.1 ha).1
  have oni : ofVal Value.nilIface = some .nili := rfl
  obtain ⟨s1, hs1⟩ : ∃ s1 : St, s1 = ⟨σ.objs ++ [Ob.cells [.int .i64 0]], σ.toks⟩ := ⟨_, rfl⟩
  obtain ⟨s2, hs2⟩ : ∃ s2 : St, s2 = ⟨s1.objs.set σ.objs.length (.cells [.int .i64 (e : Nat)]), s1.toks⟩ := ⟨_, rfl⟩
  have f1 : s1.objs[σ.objs.length]? = some (.cells [.int .i64 0]) := by rw [hs1]; exact push_new _ _
  have k1 : KS [a] σ s1 := by rw [hs1]; exact KS.push _ _ _
  have k2 : KS [a] σ s2 := k1.trans (by rw [hs2]; exact KS.set (S := [σ.objs.length]) (.inl (by simp)) _) (fun x hx => by simp at hx; exact .inr (by omega))
  have hst : vstore Tryd.prog s1 102 (.optr σ.objs.length 0) (.agg [.int .i64 (e : Nat)]) = some s2 := by rw [vstore_agg (cs' := [.int .i64 (e : Nat)]) f1 (by rw [SSt]; rfl) rfl rfl, hs2]
  have f2 : s2.objs[σ.objs.length]? = some (.cells [.int .i64 (e : Nat)]) := by rw [hs2]; exact obj_set f1
  have a2 : s2.objs[a]? = some (.cells [va]) := by
    rw [hs2, hs1]
    simp only
    rw [List.getElem?_set_ne (by omega), List.getElem?_append_left hla]
    exact ha
  have l0 : vload Tryd.prog s2.objs 24 (.optr σ.objs.length 0) = some (.int .i64 (e : Nat)) := by rw [vload_obj f2 GEr]; rfl
  obtain ⟨s3, hs3⟩ : ∃ s3 : St, s3 = ⟨s2.objs.set a (.cells [.int .i64 (e : Nat)]), s2.toks⟩ := ⟨_, rfl⟩
  have hst3 : vstore Tryd.prog s2 24 (.optr a 0) (.int .i64 (e : Nat)) = some s3 := by rw [vstore_obj a2 SEr rfl (by simp), hs3]; rfl
  have hzc : vcells (V.agg [.int .i64 0]) = [.int .i64 0] := rfl
  simp only [k55_a, WK, vop, evAll, evOpt, evParts, vbuiltin, vun, vextract, Nat.reduceLT, Nat.reduceEqDiff, ↓reduceIte, reduceCtorEq, Nat.reduceAdd, Int.reduceLT, Int.reduceNeg, valloc_std, noSB, vhot, List.getD_cons_zero, List.getD_cons_succ, stopV, eql_anyIf, oni, TAs, ZSt, vbox, hzc, ← hs1, hst, FSt, l0, hst3]
  exact ⟨by rw [hs3]; exact obj_set a2, k2.trans' (by rw [hs3]; exact KS.set (.inl (by simp)) _)⟩
theorem wcalm_does {σ : St} {a : Nat} : ∃ q σ', Does Tryd.prog prims 55 [.optr a 0, .nili] σ q σ' ∧ q = .ret (.tuple []) ∧ σ' = σ := by
  apply k55_is.does (by simp)
  have oni : ofVal Value.nilIface = some .nili := rfl
  simp only [k55_a, WK, vop, evAll, evOpt, evParts, vbuiltin, vun, vextract, Nat.reduceLT, Nat.reduceEqDiff, ↓reduceIte, reduceCtorEq, Nat.reduceAdd, Int.reduceLT, Int.reduceNeg, valloc_std, noSB, vhot, List.getD_cons_zero, List.getD_cons_succ, eql_anyNil, oni]
theorem put_cell {σ : St} {a : Nat} {va u : V} {t : TypeId} (h : σ.objs[a]? = some (.cells [va])) (hs : sizeT Tryd.prog t = some 1) (h1 : one u = true) : ∃ σ', vstore Tryd.prog σ t (.optr a 0) u = some σ' ∧ σ'.objs[a]? = some (.cells [u]) ∧ KS [a] σ σ' := by
  refine ⟨⟨σ.objs.set a (.cells [u]), σ.toks⟩, ?_, obj_set h, KS.set (.inl (by simp)) _⟩
  rw [vstore_obj h hs h1 (by simp)]
  rfl
theorem KS.over {S S1 : List Nat} {σ σ1 : St} (h : KS S1 σ σ1) (hs : ∀ x ∈ S1, x ∈ S) : KS S σ σ1 := h.mono fun x hx => .inl (hs x hx)
theorem wopen1_does {σ : St} {g a b c : Nat} {vg va vb vc : V} (hg : σ.objs[g]? = some (.cells [vg])) (ha : σ.objs[a]? = some (.cells [va])) (hb : σ.objs[b]? = some (.cells [vb])) (hc : σ.objs[c]? = some (.cells [vc])) (n1 : g ≠ a) (n2 : g ≠ b) (n3 : g ≠ c) (n4 : a ≠ b) (n5 : a ≠ c) (n6 : b ≠ c) {e : Nat} (he : e ≠ 0) :
    ∃ σ', DoesS Tryd.prog prims 54 [.optr g 0, .optr a 0, .optr b 0, .optr c 0] (some (stopV e, false)) σ (some (stopV e, true)) σ' ∧ σ'.objs[g]? = some (.cells [.int .i64 (e : Nat)]) ∧ σ'.objs[a]? = some (.cells [.nilp]) ∧ σ'.objs[b]? = some (.cells [.nils]) ∧ σ'.objs[c]? = some (.cells [.int .i64 0]) ∧ KS [g, a, b, c] σ σ' := by
  have key : ∃ m' σ', DoesS Tryd.prog prims 54 [.optr g 0, .optr a 0, .optr b 0, .optr c 0] (some (stopV e, false)) σ m' σ' ∧ (m' = some (stopV e, true) ∧ σ'.objs[g]? = some (.cells [.int .i64 (e : Nat)]) ∧ σ'.objs[a]? = some (.cells [.nilp]) ∧ σ'.objs[b]? = some (.cells [.nils]) ∧ σ'.objs[c]? = some (.cells [.int .i64 0]) ∧ KS [g, a, b, c] σ σ') := by
    apply k54_is.does (by simp)
    obtain ⟨q1, s1, c1, rfl, g1, k1⟩ := wcaught_does hg e
    have a1 := k1.ko _ _ (by simp; omega) ha
    have b1 := k1.ko _ _ (by simp; omega) hb
    have d1 := k1.ko _ _ (by simp; omega) hc
    have he' : ¬ ((e : Nat) : Int) = 0 := by omega
    have lg : vload Tryd.prog s1.objs 24 (.optr g 0) = some (.int .i64 (e : Nat)) := by rw [vload_obj g1 GEr]; rfl
    obtain ⟨s2, st2, a2, k2⟩ := put_cell (u := .nilp) a1 SWp rfl
    obtain ⟨s3, st3, b3, k3⟩ := put_cell (u := .nils) (k2.ko _ _ (by simp; omega) b1) SRs rfl
    obtain ⟨s4, st4, d4, k4⟩ := put_cell (u := .int .i64 0) (k3.ko _ _ (by simp; omega) (k2.ko _ _ (by simp; omega) d1)) S3 rfl
    simp only [k54_a, WD, WK, vop, evAll, evOpt, evParts, vbuiltin, vun, vextract, Nat.reduceLT, Nat.reduceEqDiff, ↓reduceIte, reduceCtorEq, Nat.reduceAdd, Int.reduceLT, Int.reduceNeg, valloc_std, noSB, vhot, List.getD_cons_zero, List.getD_cons_succ]
    refine KD.ret c1 ?_
    simp only [k54_a, WD, WK, vop, evAll, evOpt, evParts, vbuiltin, vun, vextract, Nat.reduceLT, Nat.reduceEqDiff, ↓reduceIte, reduceCtorEq, Nat.reduceAdd, Int.reduceLT, Int.reduceNeg, valloc_std, noSB, vhot, List.getD_cons_zero, List.getD_cons_succ, lg, he', decide_false, Bool.not_false, ofNilP, nilEP, st2, st3, st4]
    exact ⟨⟨_, rfl⟩, k4.ko _ _ (by simp; omega) (k3.ko _ _ (by simp; omega) (k2.ko _ _ (by simp; omega) g1)), k4.ko _ _ (by simp; omega) (k3.ko _ _ (by simp; omega) a2), k4.ko _ _ (by simp; omega) b3, d4, (((k1.over (by simp)).trans' (k2.over (by simp))).trans' (k3.over (by simp))).trans' (k4.over (by simp))⟩
  obtain ⟨m', σ', h, rfl, h2⟩ := key
  exact ⟨σ', h, h2⟩
theorem wopen1_calm {σ : St} {g a b c : Nat} (hg : σ.objs[g]? = some (.cells [.int .i64 0])) : DoesS Tryd.prog prims 54 [.optr g 0, .optr a 0, .optr b 0, .optr c 0] none σ none σ := by
  have key : ∃ m' σ', DoesS Tryd.prog prims 54 [.optr g 0, .optr a 0, .optr b 0, .optr c 0] none σ m' σ' ∧ (m' = none ∧ σ' = σ) := by
    apply k54_is.does (by simp)
    obtain ⟨q1, s1, c1, rfl, hs1⟩ := wcalm_does (σ := σ) (a := g)
    rw [hs1] at c1
    have lg : vload Tryd.prog σ.objs 24 (.optr g 0) = some (.int .i64 0) := by rw [vload_obj hg GEr]; rfl
    simp only [k54_a, WD, WK, vop, evAll, evOpt, evParts, vbuiltin, vun, vextract, Nat.reduceLT, Nat.reduceEqDiff, ↓reduceIte, reduceCtorEq, Nat.reduceAdd, Int.reduceLT, Int.reduceNeg, valloc_std, noSB, vhot, List.getD_cons_zero, List.getD_cons_succ]
    refine KD.ret c1 ?_
    simp only [k54_a, WD, WK, vop, evAll, evOpt, evParts, vbuiltin, vun, vextract, Nat.reduceLT, Nat.reduceEqDiff, ↓reduceIte, reduceCtorEq, Nat.reduceAdd, Int.reduceLT, Int.reduceNeg, valloc_std, noSB, vhot, List.getD_cons_zero, List.getD_cons_succ, lg, eq_self, decide_true, Bool.not_true]
    exact ⟨_, rfl⟩
  obtain ⟨m', σ', h, rfl, rfl⟩ := key
  exact h
end Go.Proofs.YtnegdinonfjdfaaDoor.Q

/- wal.Open walked. -/
set_option linter.unusedVariables false
set_option linter.unusedSimpArgs false
set_option maxRecDepth 100000
namespace Go.Proofs.YtnegdinonfjdfaaDoor.Q
open Go Go.RowKit Go.Proofs
theorem cell_load {σ : St} {p : Nat} {v : V} {t : TypeId} (h : σ.objs[p]? = some (.cells [v])) (ha : isAggT Tryd.prog t = some false) : vload Tryd.prog σ.objs t (.optr p 0) = some v := by rw [vload_obj h ha]; rfl
theorem ZWp : zeroT Tryd.prog 50 = some .nilp := by kernel_rfl
theorem ZRs : zeroT Tryd.prog 37 = some .nils := by kernel_rfl
theorem ZIn : zeroT Tryd.prog 3 = some (.int .i64 0) := by kernel_rfl
theorem ZEr : zeroT Tryd.prog 24 = some (.int .i64 0) := by kernel_rfl
theorem bldW (r : Nat) (per : Int) : vbuild Tryd.prog 86 [(0, .optr r 0), (1, .int .i64 per), (2, .int .i64 1), (3, .int .i64 1)] = some (.agg [.optr r 0, .int .i64 per, .int .i64 1, .int .i64 1, .int .i64 0]) := by kernel_rfl
theorem wFA (p k : Nat) (hk : k < 5) : vfieldAddr Tryd.prog 86 (.optr p 0) k = some (.optr p k) := by
  match k, hk with
  | 0, _ => exact (by kernel_rfl : vfieldAddr Tryd.prog 86 (.optr p 0) 0 = some (.optr p 0))
  | 1, _ => exact (by kernel_rfl : vfieldAddr Tryd.prog 86 (.optr p 0) 1 = some (.optr p 1))
  | 2, _ => exact (by kernel_rfl : vfieldAddr Tryd.prog 86 (.optr p 0) 2 = some (.optr p 2))
  | 3, _ => exact (by kernel_rfl : vfieldAddr Tryd.prog 86 (.optr p 0) 3 = some (.optr p 3))
  | 4, _ => exact (by kernel_rfl : vfieldAddr Tryd.prog 86 (.optr p 0) 4 = some (.optr p 4))
def wcells (r : Nat) (per : Int) (wf next sick : Nat) : List V := [.optr r 0, .int .i64 per, .int .i64 (wf : Nat), .int .i64 (next : Nat), .int .i64 (sick : Nat)]
/-- The results, the journal. -/
structure OC (u : St) (b r : Nat) (per : Int) (s : OpS) (w : V) : Prop where
  c0 : u.objs[b]? = some (.cells [.optr (b + 4) 0])
  c1 : u.objs[b + 1]? = some (.cells [w])
  c2 : u.objs[b + 2]? = some (.cells [.int .i64 (s.first : Nat)])
  c3 : u.objs[b + 3]? = some (.cells [.int .i64 0])
  c4 : u.objs[b + 4]? = some (.cells (wcells r per s.wf s.next 0))
theorem OC.keep {u u' : St} {b r : Nat} {per : Int} {s : OpS} {w : V} {S : List Nat} (h : OC u b r per s w) (hk : KS S u u') (hS : ∀ k, k < 5 → b + k ∉ S) : OC u' b r per s w :=
  ⟨hk.ko _ _ (hS 0 (by omega)) h.c0, hk.ko _ _ (hS 1 (by omega)) h.c1, hk.ko _ _ (hS 2 (by omega)) h.c2, hk.ko _ _ (hS 3 (by omega)) h.c3, hk.ko _ _ (hS 4 (by omega)) h.c4⟩
theorem OwnB.apps {σ u : St} {w y : V} {ps qs : List BV} (h : OwnB σ.toks.length u w ps) (hk : KS [] ⟨u.objs, σ.toks⟩ u) (hy : PtsV y qs) (hb : ∀ p ∈ qs, BtsV p.1 p.2) (hl : ps.length + qs.length ≤ 1000000000) :
    ∃ w' u', vappend Tryd.prog u 37 37 w y = some (w', u') ∧ OwnB σ.toks.length u' w' (ps ++ qs) ∧ KS [] ⟨u.objs, σ.toks⟩ u' ∧ u'.objs = u.objs := by
  have hnews : vnewsO Tryd.prog u.objs 37 y 1 = some (qs.map Prod.fst, qs.length) := by
    obtain ⟨h1, h2 | ⟨p, h2⟩⟩ := hy
    · have : qs = [] := List.length_eq_zero_iff.1 h2.2
      subst this
      rw [h2.1]
      simp [vnewsO, vnews, TBB]
    · rw [h2]
      simp [vnewsO, vnews, TBB]
  obtain ⟨w', u', a1, a2, a3, a4⟩ := h.o.appendO BBR (σ0 := ⟨u.objs, σ.toks⟩) (t := 37) (t2 := 37) rfl hk.keep hnews (by simp) (by
    rw [List.all_eq_true]
    intro x hx
    obtain ⟨p, hp, rfl⟩ := List.mem_map.1 hx
    exact (hb p hp).one) (by omega) (by omega)
  refine ⟨w', u', a1, ⟨by simpa using a2, fun p hp => ?_⟩, a3.ks [], a4⟩
  rcases List.mem_append.1 hp with hp | hp
  · exact h.b p hp
  · exact hb p hp
theorem open_sees {σ : St} {r rm : Nat} {d : Dk} {fs : List Ent} (per : Int) (hper : InI64 per) (h : DiskAt σ r d rm fs) (hok : d.Ok) (hw : d.writes ≤ 100000000) :
    ∃ q σ', Does Tryd.prog prims 36 [.optr r 0, .int .i64 per] σ q σ' ∧ (∃ fs', DiskAt σ' r (openD per d).2 rm fs' ∧ KS (foot r rm fs) σ σ' ∧ (∀ y ∈ foot r rm fs', y ∈ foot r rm fs ∨ σ.objs.length ≤ y) ∧ (((openD per d).1.1 ≠ 0 ∧ q = .ret (.tuple [.nilp, .nils, .int .i64 0, .int .i64 ((openD per d).1.1 : Nat)])) ∨ ((openD per d).1.1 = 0 ∧ ∃ p w ps, q = .ret (.tuple [.optr p 0, w, .int .i64 ((openD per d).1.2.from : Nat), .int .i64 0]) ∧ PtsV w ps ∧ (∀ x ∈ ps, BtsV x.1 x.2) ∧ ps.map Prod.snd = (openD per d).1.2.recs ∧ σ'.objs[p]? = some (.cells (wcells r per (openD per d).1.2.wf (openD per d).1.2.next 0)) ∧ σ.objs.length ≤ p ∧ p ∉ foot r rm fs'))) := by
  suffices key : ∀ P : VRes → St → Prop, (∀ q σ', (∃ fs', DiskAt σ' r (openD per d).2 rm fs' ∧ KS (foot r rm fs) σ σ' ∧ (∀ y ∈ foot r rm fs', y ∈ foot r rm fs ∨ σ.objs.length ≤ y) ∧ (((openD per d).1.1 ≠ 0 ∧ q = .ret (.tuple [.nilp, .nils, .int .i64 0, .int .i64 ((openD per d).1.1 : Nat)])) ∨ ((openD per d).1.1 = 0 ∧ ∃ p w ps, q = .ret (.tuple [.optr p 0, w, .int .i64 ((openD per d).1.2.from : Nat), .int .i64 0]) ∧ PtsV w ps ∧ (∀ x ∈ ps, BtsV x.1 x.2) ∧ ps.map Prod.snd = (openD per d).1.2.recs ∧ σ'.objs[p]? = some (.cells (wcells r per (openD per d).1.2.wf (openD per d).1.2.next 0)) ∧ σ.objs.length ≤ p ∧ p ∉ foot r rm fs'))) → P q σ') → ∃ q σ', Does Tryd.prog prims 36 [.optr r 0, .int .i64 per] σ q σ' ∧ P q σ' from key _ fun _ _ h => h
  intro P hP
  apply k36_is.does (by simp)
  obtain ⟨b, hb⟩ : ∃ b, b = σ.objs.length := ⟨_, rfl⟩
  obtain ⟨s1, hs1⟩ : ∃ s1 : St, s1 = ⟨σ.objs ++ [Ob.cells [.nilp]], σ.toks⟩ := ⟨_, rfl⟩
  obtain ⟨s2, hs2⟩ : ∃ s2 : St, s2 = ⟨s1.objs ++ [Ob.cells [.nils]], s1.toks⟩ := ⟨_, rfl⟩
  obtain ⟨s3, hs3⟩ : ∃ s3 : St, s3 = ⟨s2.objs ++ [Ob.cells [.int .i64 0]], s2.toks⟩ := ⟨_, rfl⟩
  obtain ⟨s4, hs4⟩ : ∃ s4 : St, s4 = ⟨s3.objs ++ [Ob.cells [.int .i64 0]], s3.toks⟩ := ⟨_, rfl⟩
  have l1 : s1.objs.length = b + 1 := by rw [hs1, hb]; simp
  have l2 : s2.objs.length = b + 2 := by rw [hs2]; simp [l1]
  have l3 : s3.objs.length = b + 3 := by rw [hs3]; simp [l2]
  have l4 : s4.objs.length = b + 4 := by rw [hs4]; simp [l3]
  have k1 : KS [] σ s1 := by rw [hs1]; exact KS.push _ _ _
  have k2 : KS [] s1 s2 := by rw [hs2]; exact KS.push _ _ _
  have k3 : KS [] s2 s3 := by rw [hs3]; exact KS.push _ _ _
  have k4 : KS [] s3 s4 := by rw [hs4]; exact KS.push _ _ _
  have K4 : KS [] σ s4 := ((k1.trans' k2).trans' k3).trans' k4
  have c0 : s4.objs[b]? = some (.cells [.nilp]) := k4.ko _ _ (by simp) (k3.ko _ _ (by simp) (k2.ko _ _ (by simp) (by rw [hs1, hb]; exact push_new _ _)))
  have c1 : s4.objs[b + 1]? = some (.cells [.nils]) := k4.ko _ _ (by simp) (k3.ko _ _ (by simp) (by rw [hs2, ← l1]; exact push_new _ _))
  have c2 : s4.objs[b + 2]? = some (.cells [.int .i64 0]) := k4.ko _ _ (by simp) (by rw [hs3, ← l2]; exact push_new _ _)
  have c3 : s4.objs[b + 3]? = some (.cells [.int .i64 0]) := by rw [hs4, ← l3]; exact push_new _ _
  have v0 : vcells V.nilp = [.nilp] := rfl
  have v1 : vcells V.nils = [.nils] := rfl
  have v2 : vcells (V.int .i64 0) = [.int .i64 0] := rfl
  simp only [k36_a, WD, WK, vop, evAll, evOpt, evParts, vbuiltin, vun, vextract, Nat.reduceLT, Nat.reduceEqDiff, ↓reduceIte, reduceCtorEq, Nat.reduceAdd, Int.reduceLT, Int.reduceNeg, valloc_std, noSB, vhot, List.getD_cons_zero, List.getD_cons_succ, ZWp, ZRs, ZIn, ZEr, vbox, v0, v1, v2, ← hs1, ← hs2, ← hs3, ← hs4, ← hb, l1, l2, l3, ofNilP, nilEP, eql_optr pTD]
  have early : ∀ (e : Nat), e ≠ 0 → openD per d = ((e, op0), d) → ∃ t1 t2 t3 t4, vstore Tryd.prog s4 50 (.optr b 0) .nilp = some t1 ∧ vstore Tryd.prog t1 37 (.optr (b + 1) 0) .nils = some t2 ∧ vstore Tryd.prog t2 3 (.optr (b + 2) 0) (.int .i64 0) = some t3 ∧ vstore Tryd.prog t3 24 (.optr (b + 3) 0) (.int .i64 (e : Nat)) = some t4 ∧
      vload Tryd.prog t4.objs 50 (.optr b 0) = some .nilp ∧ vload Tryd.prog t4.objs 37 (.optr (b + 1) 0) = some .nils ∧ vload Tryd.prog t4.objs 3 (.optr (b + 2) 0) = some (.int .i64 0) ∧ vload Tryd.prog t4.objs 24 (.optr (b + 3) 0) = some (.int .i64 (e : Nat)) ∧ KS (foot r rm fs) σ t4 ∧ DiskAt t4 r d rm fs := by
    intro e he hD
    obtain ⟨t1, g1, a1, x1⟩ := put_cell (u := .nilp) c0 SWp rfl
    obtain ⟨t2, g2, a2, x2⟩ := put_cell (u := .nils) (x1.ko _ _ (by simp) c1) SRs rfl
    obtain ⟨t3, g3, a3, x3⟩ := put_cell (u := .int .i64 0) (x2.ko _ _ (by simp) (x1.ko _ _ (by simp) c2)) S3 rfl
    obtain ⟨t4, g4, a4, x4⟩ := put_cell (u := .int .i64 (e : Nat)) (x3.ko _ _ (by simp) (x2.ko _ _ (by simp) (x1.ko _ _ (by simp) c3))) SEr rfl
    have K : KS [] σ t4 := (((K4.trans x1 (fun x hx => by simp at hx; exact .inr (by omega))).trans x2 (fun x hx => by simp at hx; exact .inr (by omega))).trans x3 (fun x hx => by simp at hx; exact .inr (by omega))).trans x4 (fun x hx => by simp at hx; exact .inr (by omega))
    exact ⟨t1, t2, t3, t4, g1, g2, g3, g4, cell_load (x4.ko _ _ (by simp) (x3.ko _ _ (by simp) (x2.ko _ _ (by simp) a1))) GWp, cell_load (x4.ko _ _ (by simp) (x3.ko _ _ (by simp) a2)) GRs, cell_load (x4.ko _ _ (by simp) a3) G3, cell_load a4 GEr, K.nils, h.pushes K⟩
  by_cases h1 : per < 1
  · have hD : openD per d = ((1, op0), d) := by unfold openD; rw [if_pos h1]
    obtain ⟨t1, t2, t3, t4, g1, g2, g3, g4, y1, y2, y3, y4, KF, DF⟩ := early 1 (by decide) hD
    have g4 : vstore Tryd.prog t3 24 (.optr (b + 3) 0) (.int .i64 1) = some t4 := g4
    simp only [k36_a, WD, WK, vop, evAll, evOpt, evParts, vbuiltin, vun, vextract, Nat.reduceLT, Nat.reduceEqDiff, ↓reduceIte, reduceCtorEq, Nat.reduceAdd, Int.reduceLT, Int.reduceNeg, valloc_std, noSB, vhot, h1, decide_true, ofNilP, nilEP, g1, g2, g3, g4, y1, y2, y3, y4, List.append_nil]
    exact hP _ _ (by rw [hD]; exact ⟨fs, DF, KF, fun y hy => .inl hy, .inl ⟨by simp, rfl⟩⟩)
  have hdn := down_does (h.pushes K4)
  simp only [k36_a, WD, WK, vop, evAll, evOpt, evParts, vbuiltin, vun, vextract, Nat.reduceLT, Nat.reduceEqDiff, ↓reduceIte, reduceCtorEq, Nat.reduceAdd, Int.reduceLT, Int.reduceNeg, valloc_std, noSB, vhot, h1, decide_false]
  refine KD.ret hdn ?_
  cases hon : d.on with
  | false =>
    have hD : openD per d = ((20, op0), d) := by unfold openD; rw [if_neg h1, if_pos hon]
    obtain ⟨t1, t2, t3, t4, g1, g2, g3, g4, y1, y2, y3, y4, KF, DF⟩ := early 20 (by decide) hD
    have g4 : vstore Tryd.prog t3 24 (.optr (b + 3) 0) (.int .i64 20) = some t4 := g4
    simp only [k36_a, WD, WK, vop, evAll, evOpt, evParts, vbuiltin, vun, vextract, Nat.reduceLT, Nat.reduceEqDiff, ↓reduceIte, reduceCtorEq, Nat.reduceAdd, Int.reduceLT, Int.reduceNeg, valloc_std, noSB, vhot, Bool.not_false, ofNilP, nilEP, g1, g2, g3, g4, y1, y2, y3, y4, List.append_nil]
    exact hP _ _ (by rw [hD]; exact ⟨fs, DF, KF, fun y hy => .inl hy, .inl ⟨by simp, rfl⟩⟩)
  | true =>
    have hD : openD per d = openL (namesD d) op0 d := by unfold openD; rw [if_neg h1, if_neg (by simp [hon])]
    obtain ⟨s5, hs5⟩ : ∃ s5 : St, s5 = ⟨s4.objs ++ [Ob.cells [.optr r 0, .int .i64 per, .int .i64 1, .int .i64 1, .int .i64 0]], s4.toks⟩ := ⟨_, rfl⟩
    have k5 : KS [] s4 s5 := by rw [hs5]; exact KS.push _ _ _
    have w5 : s5.objs[b + 4]? = some (.cells [.optr r 0, .int .i64 per, .int .i64 1, .int .i64 1, .int .i64 0]) := by rw [hs5, ← l4]; exact push_new _ _
    have hvc : vcells (V.agg [.optr r 0, .int .i64 per, .int .i64 1, .int .i64 1, .int .i64 0]) = [.optr r 0, .int .i64 per, .int .i64 1, .int .i64 1, .int .i64 0] := rfl
    obtain ⟨s6, g6, a6, x6⟩ := put_cell (u := .optr (b + 4) 0) (k5.ko _ _ (by simp) c0) SWp rfl
    have K6 : KS [] σ s6 := (K4.trans' k5).trans x6 (fun x hx => by simp at hx; exact .inr (by omega))
    have C6 : OC s6 b r per op0 .nils := ⟨a6, x6.ko _ _ (by simp) (k5.ko _ _ (by simp) c1), x6.ko _ _ (by simp) (k5.ko _ _ (by simp) c2), x6.ko _ _ (by simp) (k5.ko _ _ (by simp) c3), x6.ko _ _ (by simp) w5⟩
    have D6 := h.pushes K6
    obtain ⟨q7, s7, c7, v7, o7, rfl, n7, K7, I7⟩ := names_sees D6 hok
    have hflt := D6.lt
    obtain ⟨L, hL⟩ : ∃ L, L = namesD d := ⟨_, rfl⟩
    have hL16 := namesD_len hok
    rw [← hL] at n7 hL16 hD
    have R7 : RowS s7 1 v7 (L.map V.str) L.length := row_strs n7
    simp only [k36_a, WD, WK, vop, evAll, evOpt, evParts, vbuiltin, vun, vextract, Nat.reduceLT, Nat.reduceEqDiff, ↓reduceIte, reduceCtorEq, Nat.reduceAdd, Int.reduceLT, Int.reduceNeg, valloc_std, noSB, vhot, Bool.not_true, bldW, vbox, hvc, ← hs5, l4, g6, List.append_nil]
    refine KD.ret c7 ?_
    simp only [k36_a, WD, WK, vop, evAll, evOpt, evParts, vbuiltin, vun, vextract, Nat.reduceLT, Nat.reduceEqDiff, ↓reduceIte, reduceCtorEq, Nat.reduceAdd, Int.reduceLT, Int.reduceNeg, valloc_std, noSB, vhot, R7.len TSS, List.append_nil]
    have fault : ∀ (u : St) (e' : Nat → V) (er : Nat) (st s : OpS) (w : V) (dd' : Dk) (fu' : List Ent), er ≠ 0 → openD per d = ((er, st), dd') → DiskAt u r dd' rm fu' → KS (foot r rm fs) σ u → (∀ y ∈ foot r rm fu', y ∈ foot r rm fs ∨ σ.objs.length ≤ y) → (∀ k, k < 5 → b + k ∉ foot r rm fu') → OC u b r per s w → e' 4 = .optr b 0 → e' 5 = .optr (b + 1) 0 → e' 6 = .optr (b + 2) 0 → e' 7 = .optr (b + 3) 0 →
        fnDK Tryd.prog prims 84 [ResultVar.cell 4 50, ResultVar.cell 5 37, ResultVar.cell 6 3, ResultVar.cell 7 24] P (.pan (stopV er)) e' u [(54, [V.optr (b + 3) 0, V.optr b 0, V.optr (b + 1) 0, V.optr (b + 2) 0])] := by
      intro u e' er st s w dd' fu' her hop D K I hbk C k4 k5 k6 k7
      obtain ⟨u', dS, a3, a0, a1, a2, KK⟩ := wopen1_does C.c3 C.c0 C.c1 C.c2 (by omega) (by omega) (by omega) (by omega) (by omega) (by omega) her
      have D' : DiskAt u' r dd' rm fu' := D.keep KK (fun x hx => by
        intro hm
        simp at hm
        rcases hm with rfl | rfl | rfl | rfl
        · exact hbk 3 (by omega) hx
        · exact hbk 0 (by omega) hx
        · exact hbk 1 (by omega) hx
        · exact hbk 2 (by omega) hx)
      refine ⟨u', Leave.cons dS Leave.nil, [.nilp, .nils, .int .i64 0, .int .i64 (er : Nat)], ?_, hP _ _ ?_⟩
      · rw [vresults_cell (by decide), k4, cell_load a0 GWp, vresults_cell (by decide), k5, cell_load a1 GRs, vresults_cell (by decide), k6, cell_load a2 G3, vresults_cell (by decide), k7, cell_load a3 GEr, vresults_nil]
      · rw [hop]
        exact ⟨fu', D', K.trans KK (fun x hx => by simp at hx; exact .inr (by omega)), I, .inl ⟨her, rfl⟩⟩
    refine Ev.loopF (fun (i : Nat) e u => e 30 = .int .i64 (i : Nat) ∧ i ≤ L.length ∧ ∃ (dd : Dk) (fu : List Ent) (s : OpS) (w : V) (ps : List BV), DiskAt u r dd rm fu ∧ dd.Ok ∧ dd.writes ≤ 100000000 + 3 * i ∧ e 8 = .bool s.brk ∧ OC u b r per s w ∧ OwnB σ.toks.length u w ps ∧ ps.map Prod.snd = s.recs ∧ ps.length ≤ 1048576 * i ∧ KS (foot r rm fs) σ u ∧ (∀ y ∈ foot r rm fu, y ∈ foot r rm fs ∨ σ.objs.length ≤ y) ∧ (∀ k, k < 5 → b + k ∉ foot r rm fu) ∧ openD per d = openL (L.drop i) s dd ∧ rowOf u.objs v7 = some (o7, L.map V.str) ∧ Free o7 (foot r rm fu) ∧ (∀ x ∈ o7.toList, x < u.objs.length) ∧ s.next ≤ 2000000000) (fun i => L.length - i) 0 ?_ ?_
    · have l5 : s5.objs.length = b + 5 := by rw [hs5]; simp [l4]
      refine ⟨by simp [upd_some], Nat.zero_le _, d, fs, op0, .nils, [], D6.pushes K7, hok, by omega, by simp [upd_some, op0], C6.keep K7 (by simp), OwnB.nil, rfl, by simp, (K6.trans' K7).nils, fun y hy => .inl hy, fun k hk hx => by have := h.lt _ hx; omega, by rw [List.drop_zero]; exact hD, n7, Free.high I7 hflt, fun x hx => ?_, by simp [op0]⟩
      rcases rowOf_spec n7 with ⟨_, e0, _⟩ | ⟨r', full, _, e0, hr, _, _⟩
      · rw [e0] at hx; simp at hx
      · rw [e0] at hx
        simp at hx
        subst hx
        exact (List.getElem?_eq_some_iff.1 hr).1
    rintro i e u ⟨h30, hi, dd, fu, s, w, ps, D, ok, hwr, h8, C, O, hps, hpl, K, I, hbk, hop, hrow, hfree, hlv, hnx⟩ hf
    have g0 : e 0 = .optr r 0 := (hf 0 (by decide)).trans (by simp [upd_some])
    have g4 : e 4 = .optr b 0 := (hf 4 (by decide)).trans (by simp [upd_some])
    have g5 : e 5 = .optr (b + 1) 0 := (hf 5 (by decide)).trans (by simp [upd_some])
    have g6' : e 6 = .optr (b + 2) 0 := (hf 6 (by decide)).trans (by simp [upd_some])
    have g7 : e 7 = .optr (b + 3) 0 := (hf 7 (by decide)).trans (by simp [upd_some])
    have g28 : e 28 = v7 := (hf 28 (by decide)).trans (by simp [upd_some])
    have g29 : e 29 = .int .i64 (L.length : Nat) := (hf 29 (by decide)).trans (by simp [upd_some])
    clear hf
    have ld0 := cell_load C.c0 GWp
    have ld1 := cell_load C.c1 GRs
    have ld2 := cell_load C.c2 G3
    have ld3 := cell_load C.c3 GEr
    by_cases hlt : i < L.length
    · have hlt' : (i : Int) < (L.length : Nat) := by omega
      have hwi : IntKind.i64.wrap ((i : Int) + 1) = ((i + 1 : Nat) : Int) := by rw [wrap_i64 (by omega) (by omega)]; omega
      have hdrop : L.drop i = L[i] :: L.drop (i + 1) := List.drop_eq_getElem_cons hlt
      have RU : RowS u 1 v7 (L.map V.str) L.length := row_strs hrow
      obtain ⟨pa, ha, hla⟩ := RU.strAt hlt
      have hla := hla u (KS.refl _ _)
      obtain ⟨q8, s8, c8, rfl, K8⟩ := wnumber_sees (σ := u) L[i]
      simp only [k36_a, WD, WK, vop, evAll, evOpt, evParts, vbuiltin, vun, vextract, Nat.reduceLT, Nat.reduceEqDiff, ↓reduceIte, reduceCtorEq, Nat.reduceAdd, Int.reduceLT, Int.reduceNeg, valloc_std, noSB, vhot, h30, g28, g29, hlt', decide_true, ha, hla]
      refine KD.ret c8 ?_
      by_cases hz : numW L[i] = 0
      · have hz' : ((numW L[i] : Nat) : Int) = 0 := by omega
        simp only [k36_a, WD, WK, vop, evAll, evOpt, evParts, vbuiltin, vun, vextract, Nat.reduceLT, Nat.reduceEqDiff, ↓reduceIte, reduceCtorEq, Nat.reduceAdd, Int.reduceLT, Int.reduceNeg, valloc_std, noSB, vhot, h30, hz', eq_self, decide_true, hwi]
        exact ⟨i + 1, ⟨by simp [upd_some], by omega, dd, fu, s, w, ps, D.pushes K8, ok, by omega, by simp [upd_some, h8], C.keep K8 (by simp), O.keep K8.tk, hps, by omega, K.trans' K8.nils, I, hbk, by rw [hop, hdrop, openL, if_pos hz], rowOf_free hrow (fun x _ hx => by simp at hx) K8, hfree, fun x hx => by have := hlv x hx; have := K8.le; omega, hnx⟩, by omega⟩
      · have hz' : ¬ ((numW L[i] : Nat) : Int) = 0 := by omega
        have D8 := D.pushes K8
        have C8 := C.keep K8 (by simp)
        have f0 := cell_load C8.c0 GWp
        have f2 := cell_load C8.c2 G3
        have f3 : vload Tryd.prog s8.objs 3 (.optr (b + 4) 3) = some (.int .i64 (s.next : Nat)) := by rw [vload_obj C8.c4 G3]; rfl
        have mv : ∀ (s9 : St) (d9 : Dk) (fs9 : List Ent), DiskAt s9 r d9 rm fs9 → KS (foot r rm fu) s8 s9 → (∀ x ∈ foot r rm fs9, x ∈ foot r rm fu ∨ s8.objs.length ≤ x) → OC s9 b r per s w ∧ OwnB σ.toks.length s9 w ps ∧ KS (foot r rm fs) σ s9 ∧ (∀ y ∈ foot r rm fs9, y ∈ foot r rm fs ∨ σ.objs.length ≤ y) ∧ (∀ k, k < 5 → b + k ∉ foot r rm fs9) ∧ rowOf s9.objs v7 = some (o7, L.map V.str) ∧ Free o7 (foot r rm fs9) ∧ (∀ x ∈ o7.toList, x < s9.objs.length) := by
          intro s9 d9 fs9 D9 K9 I9
          refine ⟨C8.keep K9 (fun k hk hx => hbk k hk hx), (O.keep K8.tk).keep K9.tk, (K.trans' K8.nils).trans K9 (fun x hx => I x hx), fun y hy => ?_, fun k hk hx => ?_, rowOf_free (rowOf_free hrow (fun x _ hx => by simp at hx) K8) hfree K9, Free.step hfree (fun x hx => by have := hlv x hx; have := K8.le; omega) I9, fun x hx => by have := hlv x hx; have := K8.le; have := K9.le; omega⟩
          · rcases I9 y hy with h | h
            · exact I y h
            · have := K8.le; have := K.le; exact .inr (by omega)
          · rcases I9 _ hx with h | h
            · exact hbk k hk h
            · have := (List.getElem?_eq_some_iff.1 C8.c4).1; omega
        have l6 : b + 5 ≤ s6.objs.length := by
          have h5 : s5.objs.length = b + 5 := by rw [hs5]; simp [l4]
          have := x6.le
          omega
        have ho7 : ∀ k, k < 5 → b + k ∉ o7.toList := fun k hk hx => by have := I7 _ hx; omega
        have seg : ∀ (su : St) (f : Nat), f = (if s.first = 0 then numW L[i] else s.first) → DiskAt su r dd rm fu → KS [b + 2] s8 su → OC su b r per { s with first := f } w →
            ∃ q9 s9, Does Tryd.prog prims 58 [.optr r 0, .str L[i]] su q9 s9 ∧ (((segD L[i] dd).1.1 ≠ 0 ∧ q9 = .pan (stopV (segD L[i] dd).1.1) ∧ ∃ fs9, DiskAt s9 r (segD L[i] dd).2 rm fs9 ∧ KS (foot r rm fs) σ s9 ∧ (∀ y ∈ foot r rm fs9, y ∈ foot r rm fs ∨ σ.objs.length ≤ y) ∧ (∀ k, k < 5 → b + k ∉ foot r rm fs9) ∧ OC s9 b r per { s with first := f } w) ∨
              ((segD L[i] dd).1.1 = 0 ∧ ∃ (w2 w' : V) (t1 t2 t3 t4 : St) (len : Nat), q9 = .ret w2 ∧ vload Tryd.prog s9.objs 37 (.optr (b + 1) 0) = some w ∧ vappend Tryd.prog s9 37 37 w w2 = some (w', t1) ∧ vstore Tryd.prog t1 37 (.optr (b + 1) 0) w' = some t2 ∧ vload Tryd.prog t2.objs 50 (.optr b 0) = some (.optr (b + 4) 0) ∧ vlen Tryd.prog 37 w2 = some (.int .i64 (len : Nat)) ∧ IntKind.i64.wrap (((numW L[i] : Nat) : Int) + (len : Nat)) = ((numW L[i] + len : Nat) : Int) ∧
                vstore Tryd.prog t2 3 (.optr (b + 4) 2) (.int .i64 (numW L[i] : Nat)) = some t3 ∧ vload Tryd.prog t3.objs 50 (.optr b 0) = some (.optr (b + 4) 0) ∧ vstore Tryd.prog t3 3 (.optr (b + 4) 3) (.int .i64 ((numW L[i] + len : Nat) : Int)) = some t4 ∧
                ∃ (fs9 : List Ent) (ps9 : List BV), DiskAt t4 r (segD L[i] dd).2 rm fs9 ∧ OC t4 b r per (s.more (numW L[i]) (segD L[i] dd).1.2) w' ∧ OwnB σ.toks.length t4 w' ps9 ∧ ps9.map Prod.snd = (s.more (numW L[i]) (segD L[i] dd).1.2).recs ∧ ps9.length ≤ 1048576 * (i + 1) ∧ KS (foot r rm fs) σ t4 ∧ (∀ y ∈ foot r rm fs9, y ∈ foot r rm fs ∨ σ.objs.length ≤ y) ∧ (∀ k, k < 5 → b + k ∉ foot r rm fs9) ∧ rowOf t4.objs v7 = some (o7, L.map V.str) ∧ Free o7 (foot r rm fs9) ∧ (∀ x ∈ o7.toList, x < t4.objs.length) ∧ (s.more (numW L[i]) (segD L[i] dd).1.2).next ≤ 2000000000)) := by
          intro su f hfe Du ku Cu
          obtain ⟨q9, s9, c9, ⟨fs9, D9, K9, I9⟩, hres⟩ := segment_sees L[i] Du ok (by omega)
          have hnl := numW_le L[i]
          have hsl := seg_len (n := L[i]) ok
          have hkle := ku.le
          have hc4 := (List.getElem?_eq_some_iff.1 C8.c4).1
          have C9 : OC s9 b r per { s with first := f } w := Cu.keep K9 (fun k hk hx => hbk k hk hx)
          have Ku : KS (foot r rm fs) σ su := (K.trans' K8.nils).trans ku (fun x hx => by simp at hx; exact .inr (by omega))
          have K9' : KS (foot r rm fs) σ s9 := Ku.trans K9 (fun x hx => I x hx)
          have I9' : ∀ y ∈ foot r rm fs9, y ∈ foot r rm fs ∨ σ.objs.length ≤ y := fun y hy => by
            rcases I9 y hy with h | h
            · exact I y h
            · have := Ku.le; exact .inr (by omega)
          have hbk9 : ∀ k, k < 5 → b + k ∉ foot r rm fs9 := fun k hk hx => by
            rcases I9 _ hx with h | h
            · exact hbk k hk h
            · omega
          have hrow8 : rowOf s8.objs v7 = some (o7, L.map V.str) := rowOf_free hrow (fun x _ hx => by simp at hx) K8
          have hrowu : rowOf su.objs v7 = some (o7, L.map V.str) := rowOf_free hrow8 (fun x hx hx2 => by
            simp at hx2
            subst hx2
            exact ho7 2 (by omega) (by simpa using hx)) ku
          have hrow9 : rowOf s9.objs v7 = some (o7, L.map V.str) := rowOf_free hrowu hfree K9
          have hfree9 : Free o7 (foot r rm fs9) := Free.step hfree (fun x hx => by have := hlv x hx; have := K8.le; omega) I9
          refine ⟨q9, s9, c9, ?_⟩
          rcases hres with ⟨he, w2, qs, rfl, hq, hqb, hqs⟩ | ⟨he, rfl⟩
          · refine .inr ⟨he, ?_⟩
            have hql : qs.length = (segD L[i] dd).1.2.length := by rw [← hqs, List.length_map]
            have O9 : OwnB σ.toks.length s9 w ps := ((O.keep K8.tk).keep ku.tk).keep K9.tk
            obtain ⟨w', t1, p1, p2, p3, p4⟩ := O9.apps (σ := σ) ⟨fun _ _ _ h => h, Nat.le_refl _, K9'.tl, K9'.tk⟩ hq hqb (by have : 1048576 * i ≤ 1048576 * 16 := Nat.mul_le_mul_left _ (by omega); omega)
            have D1 : DiskAt t1 r (segD L[i] dd).2 rm fs9 := ⟨by rw [p4]; exact D9.hd, by rw [p4]; exact D9.hm, by rw [p4]; exact D9.hf, D9.nd, D9.pm⟩
            have K1 : KS (foot r rm fs) σ t1 := ⟨fun r o hr ho => by rw [p4]; exact K9'.ko r o hr ho, by rw [p4]; exact K9'.le, p3.tl, p3.tk⟩
            have C1 : OC t1 b r per { s with first := f } w := ⟨by rw [p4]; exact C9.c0, by rw [p4]; exact C9.c1, by rw [p4]; exact C9.c2, by rw [p4]; exact C9.c3, by rw [p4]; exact C9.c4⟩
            have hrow1 : rowOf t1.objs v7 = some (o7, L.map V.str) := by rw [p4]; exact hrow9
            obtain ⟨t2, y2, a2, x2⟩ := put_cell (u := w') C1.c1 SRs p2.o.row.one
            have z4 : t2.objs[b + 4]? = some (.cells (wcells r per s.wf s.next 0)) := x2.ko _ _ (by simp) C1.c4
            obtain ⟨t3, ht3⟩ : ∃ t3 : St, t3 = ⟨t2.objs.set (b + 4) (.cells (wcells r per (numW L[i]) s.next 0)), t2.toks⟩ := ⟨_, rfl⟩
            have y3 : vstore Tryd.prog t2 3 (.optr (b + 4) 2) (.int .i64 (numW L[i] : Nat)) = some t3 := by rw [vstore_obj z4 S3 rfl (by simp [wcells]), ht3]; rfl
            have z3 : t3.objs[b + 4]? = some (.cells (wcells r per (numW L[i]) s.next 0)) := by rw [ht3]; exact obj_set z4
            have x3 : KS [b + 4] t2 t3 := by rw [ht3]; exact KS.set (.inl (by simp)) _
            obtain ⟨t4, ht4⟩ : ∃ t4 : St, t4 = ⟨t3.objs.set (b + 4) (.cells (wcells r per (numW L[i]) (numW L[i] + qs.length) 0)), t3.toks⟩ := ⟨_, rfl⟩
            have y4 : vstore Tryd.prog t3 3 (.optr (b + 4) 3) (.int .i64 ((numW L[i] + qs.length : Nat) : Int)) = some t4 := by rw [vstore_obj z3 S3 rfl (by simp [wcells]), ht4]; rfl
            have z5 : t4.objs[b + 4]? = some (.cells (wcells r per (numW L[i]) (numW L[i] + qs.length) 0)) := by rw [ht4]; exact obj_set z3
            have x4 : KS [b + 4] t3 t4 := by rw [ht4]; exact KS.set (.inl (by simp)) _
            have KK : KS [b + 1, b + 4] t1 t4 := ((x2.over (by simp)).trans' (x3.over (by simp))).trans' (x4.over (by simp))
            have m0 := x2.ko _ _ (by simp) C1.c0
            refine ⟨w2, w', t1, t2, t3, t4, qs.length, rfl, cell_load C9.c1 GRs, p1, y2, cell_load m0 GWp, hq.len, by rw [wrap_i64 (by omega) (by omega)]; omega, y3, cell_load (x3.ko _ _ (by simp) m0) GWp, y4, fs9, ps ++ qs, ?_, ?_, p2.keep KK.tk, ?_, ?_, ?_, I9', hbk9, ?_, hfree9, ?_, ?_⟩
            · exact D1.keep KK (fun x hx hm => by
                simp at hm
                rcases hm with rfl | rfl
                · exact hbk9 1 (by omega) hx
                · exact hbk9 4 (by omega) hx)
            · exact ⟨KK.ko _ _ (by simp) C1.c0, x4.ko _ _ (by simp) (x3.ko _ _ (by simp) a2), by
                have := KK.ko _ _ (by simp) C1.c2
                rw [this]
                simp only [OpS.more, hfe], KK.ko _ _ (by simp) C1.c3, by rw [z5, hql]; rfl⟩
            · rw [List.map_append, hps, hqs]; rfl
            · rw [List.length_append]; omega
            · exact K1.trans KK (fun x hx => by simp at hx; exact .inr (by omega))
            · exact rowOf_free hrow1 (fun x hx hx2 => by
                simp at hx2
                rcases hx2 with rfl | rfl
                · exact ho7 1 (by omega) (by simpa using hx)
                · exact ho7 4 (by omega) (by simpa using hx)) KK
            · intro x hx
              have h1 := hlv x hx
              have h2 := K8.le
              have h3 := K9.le
              have h4 := KK.le
              rw [p4] at h4
              omega
            · simp only [OpS.more]; omega
          · exact .inl ⟨he, rfl, fs9, D9, K9', I9', hbk9, C9⟩
        by_cases hsk : s.skips (numW L[i])
        · obtain ⟨q9, s9, c9, rfl, fs9, D9, K9, I9⟩ := remove_sees (n := L[i]) D8 ok (by omega)
          obtain ⟨ok9, hw9⟩ := remove_ok (n := L[i]) ok
          obtain ⟨C9, O9, K9', I9', hbk9, hrow9, hfree9, hlv9⟩ := mv s9 _ fs9 D9 K9 I9
          have hfp : (0 : Int) < ((s.first : Nat) : Int) := by have := hsk.1; omega
          have hrest : ∀ (e9 : Nat → V), True := fun _ => trivial
          cases hbr : s.brk with
          | true =>
            rw [hbr] at h8
            simp only [k36_a, WD, WK, vop, evAll, evOpt, evParts, vbuiltin, vun, vextract, Nat.reduceLT, Nat.reduceEqDiff, ↓reduceIte, reduceCtorEq, Nat.reduceAdd, Int.reduceLT, Int.reduceNeg, valloc_std, noSB, vhot, h30, h8, g0, g4, g6', hz', hfp, f2, decide_true, decide_false]
            refine KD.ret c9 ?_
            simp only [k36_a, WD, WK, vop, evAll, evOpt, evParts, vbuiltin, vun, vextract, Nat.reduceLT, Nat.reduceEqDiff, ↓reduceIte, reduceCtorEq, Nat.reduceAdd, Int.reduceLT, Int.reduceNeg, valloc_std, noSB, vhot]
            by_cases e9 : (removeD L[i] dd).1 = 0
            · refine KD.ret (must_ok e9) ?_
              simp only [k36_a, WD, WK, vop, evAll, evOpt, evParts, vbuiltin, vun, vextract, Nat.reduceLT, Nat.reduceEqDiff, ↓reduceIte, reduceCtorEq, Nat.reduceAdd, Int.reduceLT, Int.reduceNeg, valloc_std, noSB, vhot, h30, hwi]
              exact ⟨i + 1, ⟨by simp [upd_some], by omega, (removeD L[i] dd).2, fs9, { s with brk := true }, w, ps, D9, ok9, by omega, by simp [upd_some], ⟨C9.c0, C9.c1, C9.c2, C9.c3, C9.c4⟩, O9, hps, by omega, K9', I9', hbk9, by rw [hop, hdrop, openL, if_neg hz, if_pos hsk, if_neg (by omega)], hrow9, hfree9, hlv9, hnx⟩, by omega⟩
            · refine KD.pan (must_pan e9) ?_
              simp only [k36_a, WD, WK, vop, evAll, evOpt, evParts, vbuiltin, vun, vextract, Nat.reduceLT, Nat.reduceEqDiff, ↓reduceIte, reduceCtorEq, Nat.reduceAdd, Int.reduceLT, Int.reduceNeg, valloc_std, noSB, vhot, List.nil_append, List.append_nil]
              exact fault s9 _ _ s s w _ fs9 e9 (by rw [hop, hdrop, openL, if_neg hz, if_pos hsk, if_pos e9]) D9 K9' I9' hbk9 C9 (by simp [upd_some, g4]) (by simp [upd_some, g5]) (by simp [upd_some, g6']) (by simp [upd_some, g7])
          | false =>
            rw [hbr] at h8
            have hnn : ¬ ((numW L[i] : Nat) : Int) = ((s.next : Nat) : Int) := by
              rcases hsk.2 with h | h
              · rw [hbr] at h; cases h
              · omega
            simp only [k36_a, WD, WK, vop, evAll, evOpt, evParts, vbuiltin, vun, vextract, Nat.reduceLT, Nat.reduceEqDiff, ↓reduceIte, reduceCtorEq, Nat.reduceAdd, Int.reduceLT, Int.reduceNeg, valloc_std, noSB, vhot, h30, h8, g0, g4, g6', hz', hfp, f0, f2, wFA (b + 4) 3 (by omega), f3, hnn, decide_true, decide_false, Bool.not_false]
            refine KD.ret c9 ?_
            simp only [k36_a, WD, WK, vop, evAll, evOpt, evParts, vbuiltin, vun, vextract, Nat.reduceLT, Nat.reduceEqDiff, ↓reduceIte, reduceCtorEq, Nat.reduceAdd, Int.reduceLT, Int.reduceNeg, valloc_std, noSB, vhot]
            by_cases e9 : (removeD L[i] dd).1 = 0
            · refine KD.ret (must_ok e9) ?_
              simp only [k36_a, WD, WK, vop, evAll, evOpt, evParts, vbuiltin, vun, vextract, Nat.reduceLT, Nat.reduceEqDiff, ↓reduceIte, reduceCtorEq, Nat.reduceAdd, Int.reduceLT, Int.reduceNeg, valloc_std, noSB, vhot, h30, hwi]
              exact ⟨i + 1, ⟨by simp [upd_some], by omega, (removeD L[i] dd).2, fs9, { s with brk := true }, w, ps, D9, ok9, by omega, by simp [upd_some], ⟨C9.c0, C9.c1, C9.c2, C9.c3, C9.c4⟩, O9, hps, by omega, K9', I9', hbk9, by rw [hop, hdrop, openL, if_neg hz, if_pos hsk, if_neg (by omega)], hrow9, hfree9, hlv9, hnx⟩, by omega⟩
            · refine KD.pan (must_pan e9) ?_
              simp only [k36_a, WD, WK, vop, evAll, evOpt, evParts, vbuiltin, vun, vextract, Nat.reduceLT, Nat.reduceEqDiff, ↓reduceIte, reduceCtorEq, Nat.reduceAdd, Int.reduceLT, Int.reduceNeg, valloc_std, noSB, vhot, List.nil_append, List.append_nil]
              exact fault s9 _ _ s s w _ fs9 e9 (by rw [hop, hdrop, openL, if_neg hz, if_pos hsk, if_pos e9]) D9 K9' I9' hbk9 C9 (by simp [upd_some, g4]) (by simp [upd_some, g5]) (by simp [upd_some, g6']) (by simp [upd_some, g7])
        · by_cases hf0 : s.first = 0
          · have hfp : ¬ (0 : Int) < ((s.first : Nat) : Int) := by omega
            have hf0' : ((s.first : Nat) : Int) = 0 := by omega
            obtain ⟨u9, y9, a9, x9⟩ := put_cell (u := .int .i64 (numW L[i] : Nat)) C8.c2 S3 rfl
            simp only [k36_a, WD, WK, vop, evAll, evOpt, evParts, vbuiltin, vun, vextract, Nat.reduceLT, Nat.reduceEqDiff, ↓reduceIte, reduceCtorEq, Nat.reduceAdd, Int.reduceLT, Int.reduceNeg, valloc_std, noSB, vhot, h30, h8, g0, g4, g6', hz', hfp, f0, f2, hf0', y9, eq_self, decide_true, decide_false]
            have hso := seg_ok (n := L[i]) ok
            obtain ⟨q9, s9, c9, hres⟩ := seg u9 (numW L[i]) (by rw [if_pos hf0]) (D8.keep x9 (fun x hx hm => by simp at hm; subst hm; exact hbk 2 (by omega) hx)) x9 ⟨x9.ko _ _ (by simp) C8.c0, x9.ko _ _ (by simp) C8.c1, a9, x9.ko _ _ (by simp) C8.c3, x9.ko _ _ (by simp) C8.c4⟩
            rcases hres with ⟨he, rfl, fs9, D9, K9', I9', hbk9, C9⟩ | ⟨he, w2, w', t1, t2, t3, t4, len, rfl, m1, m2, m3, m4, m5, m6, m7, m8, m9, fs9, ps9, D9, C9, O9, P9, L9, K9', I9', hbk9, hrow9, hfree9, hlv9, N9⟩
            · refine KD.pan c9 ?_
              simp only [k36_a, WD, WK, vop, evAll, evOpt, evParts, vbuiltin, vun, vextract, Nat.reduceLT, Nat.reduceEqDiff, ↓reduceIte, reduceCtorEq, Nat.reduceAdd, Int.reduceLT, Int.reduceNeg, valloc_std, noSB, vhot, List.nil_append, List.append_nil]
              exact fault s9 _ _ s _ w _ fs9 he (by rw [hop, hdrop, openL, if_neg hz, if_neg hsk, if_pos he]) D9 K9' I9' hbk9 C9 (by simp [upd_some, g4]) (by simp [upd_some, g5]) (by simp [upd_some, g6']) (by simp [upd_some, g7])
            · refine KD.ret c9 ?_
              simp only [k36_a, WD, WK, vop, evAll, evOpt, evParts, vbuiltin, vun, vextract, Nat.reduceLT, Nat.reduceEqDiff, ↓reduceIte, reduceCtorEq, Nat.reduceAdd, Int.reduceLT, Int.reduceNeg, valloc_std, noSB, vhot, h30, g4, g5, g6', g7, m1, m2, m3, m4, m5, m6, m7, m8, m9, wFA (b + 4) 2 (by omega), wFA (b + 4) 3 (by omega), hwi]
              exact ⟨i + 1, ⟨by simp [upd_some], by omega, (segD L[i] dd).2, fs9, s.more (numW L[i]) (segD L[i] dd).1.2, w', ps9, D9, hso.1, by have := hso.2; omega, by simp [upd_some, h8, OpS.more], C9, O9, P9, L9, K9', I9', hbk9, by rw [hop, hdrop, openL, if_neg hz, if_neg hsk, if_neg (by omega)], hrow9, hfree9, hlv9, N9⟩, by omega⟩
          · have hfp : (0 : Int) < ((s.first : Nat) : Int) := by omega
            have hf0' : ¬ ((s.first : Nat) : Int) = 0 := by omega
            have hbr : s.brk = false := by
              cases hb : s.brk with
              | false => rfl
              | true => exact absurd ⟨by omega, .inl hb⟩ hsk
            have hnn : ((numW L[i] : Nat) : Int) = ((s.next : Nat) : Int) := by
              have : numW L[i] = s.next := Classical.byContradiction fun h => hsk ⟨by omega, .inr h⟩
              omega
            rw [hbr] at h8
            have hnt : (((numW L[i] : Nat) : Int) = ((s.next : Nat) : Int)) = True := eq_true hnn
            clear hnn
            simp only [k36_a, WD, WK, vop, evAll, evOpt, evParts, vbuiltin, vun, vextract, Nat.reduceLT, Nat.reduceEqDiff, ↓reduceIte, reduceCtorEq, Nat.reduceAdd, Int.reduceLT, Int.reduceNeg, valloc_std, noSB, vhot, h30, h8, g0, g4, g6', hz', hfp, f0, f2, hf0', wFA (b + 4) 3 (by omega), f3, hnt, decide_true, decide_false, Bool.not_true]
            have hso := seg_ok (n := L[i]) ok
            obtain ⟨q9, s9, c9, hres⟩ := seg s8 s.first (by rw [if_neg hf0]) D8 (KS.refl _ _) ⟨C8.c0, C8.c1, C8.c2, C8.c3, C8.c4⟩
            rcases hres with ⟨he, rfl, fs9, D9, K9', I9', hbk9, C9⟩ | ⟨he, w2, w', t1, t2, t3, t4, len, rfl, m1, m2, m3, m4, m5, m6, m7, m8, m9, fs9, ps9, D9, C9, O9, P9, L9, K9', I9', hbk9, hrow9, hfree9, hlv9, N9⟩
            · refine KD.pan c9 ?_
              simp only [k36_a, WD, WK, vop, evAll, evOpt, evParts, vbuiltin, vun, vextract, Nat.reduceLT, Nat.reduceEqDiff, ↓reduceIte, reduceCtorEq, Nat.reduceAdd, Int.reduceLT, Int.reduceNeg, valloc_std, noSB, vhot, List.nil_append, List.append_nil]
              exact fault s9 _ _ s _ w _ fs9 he (by rw [hop, hdrop, openL, if_neg hz, if_neg hsk, if_pos he]) D9 K9' I9' hbk9 C9 (by simp [upd_some, g4]) (by simp [upd_some, g5]) (by simp [upd_some, g6']) (by simp [upd_some, g7])
            · refine KD.ret c9 ?_
              simp only [k36_a, WD, WK, vop, evAll, evOpt, evParts, vbuiltin, vun, vextract, Nat.reduceLT, Nat.reduceEqDiff, ↓reduceIte, reduceCtorEq, Nat.reduceAdd, Int.reduceLT, Int.reduceNeg, valloc_std, noSB, vhot, h30, g4, g5, g6', g7, m1, m2, m3, m4, m5, m6, m7, m8, m9, wFA (b + 4) 2 (by omega), wFA (b + 4) 3 (by omega), hwi]
              exact ⟨i + 1, ⟨by simp [upd_some], by omega, (segD L[i] dd).2, fs9, s.more (numW L[i]) (segD L[i] dd).1.2, w', ps9, D9, hso.1, by have := hso.2; omega, by simp [upd_some, h8, OpS.more, hbr], C9, O9, P9, L9, K9', I9', hbk9, by rw [hop, hdrop, openL, if_neg hz, if_neg hsk, if_neg (by omega)], hrow9, hfree9, hlv9, N9⟩, by omega⟩
    · have hlt' : ¬ (i : Int) < (L.length : Nat) := by omega
      have hdrop : L.drop i = [] := List.drop_of_length_le (by omega)
      rw [hdrop, openL] at hop
      have h1w : one w = true := O.o.row.one
      have last : ∀ (u1 : St) (f : Nat), KS (foot r rm fs) σ u1 → (∀ x, KS x u u1 → True) → u1.objs[b]? = some (.cells [.optr (b + 4) 0]) → u1.objs[b + 1]? = some (.cells [w]) → u1.objs[b + 2]? = some (.cells [.int .i64 (f : Nat)]) → u1.objs[b + 3]? = some (.cells [.int .i64 0]) → u1.objs[b + 4]? = some (.cells (wcells r per s.wf s.next 0)) → DiskAt u1 r dd rm fu → f = s.from →
          ∃ t1 t2 t3 t4, vstore Tryd.prog u1 50 (.optr b 0) (.optr (b + 4) 0) = some t1 ∧ vstore Tryd.prog t1 37 (.optr (b + 1) 0) w = some t2 ∧ vstore Tryd.prog t2 3 (.optr (b + 2) 0) (.int .i64 (f : Nat)) = some t3 ∧ vstore Tryd.prog t3 24 (.optr (b + 3) 0) (.int .i64 0) = some t4 ∧
            vload Tryd.prog t1.objs 37 (.optr (b + 1) 0) = some w ∧ vload Tryd.prog t1.objs 3 (.optr (b + 2) 0) = some (.int .i64 (f : Nat)) ∧ vload Tryd.prog t2.objs 3 (.optr (b + 2) 0) = some (.int .i64 (f : Nat)) ∧
            ∀ (e' : Nat → V), e' 4 = .optr b 0 → e' 5 = .optr (b + 1) 0 → e' 6 = .optr (b + 2) 0 → e' 7 = .optr (b + 3) 0 → fnDK Tryd.prog prims 84 [ResultVar.cell 4 50, ResultVar.cell 5 37, ResultVar.cell 6 3, ResultVar.cell 7 24] P .ret e' t4 [(54, [V.optr (b + 3) 0, V.optr b 0, V.optr (b + 1) 0, V.optr (b + 2) 0])] := by
        intro u1 f K1 _ c0 c1 c2 c3 c4 D1 hfr
        obtain ⟨t1, y1, a1, x1⟩ := put_cell (u := .optr (b + 4) 0) c0 SWp rfl
        obtain ⟨t2, y2, a2, x2⟩ := put_cell (u := w) (x1.ko _ _ (by simp) c1) SRs h1w
        obtain ⟨t3, y3, a3, x3⟩ := put_cell (u := .int .i64 (f : Nat)) (x2.ko _ _ (by simp) (x1.ko _ _ (by simp) c2)) S3 rfl
        obtain ⟨t4, y4, a4, x4⟩ := put_cell (u := .int .i64 0) (x3.ko _ _ (by simp) (x2.ko _ _ (by simp) (x1.ko _ _ (by simp) c3))) SEr rfl
        have KK : KS [b, b + 1, b + 2, b + 3] u1 t4 := (((x1.over (by simp)).trans' (x2.over (by simp))).trans' (x3.over (by simp))).trans' (x4.over (by simp))
        refine ⟨t1, t2, t3, t4, y1, y2, y3, y4, cell_load (x1.ko _ _ (by simp) c1) GRs, cell_load (x1.ko _ _ (by simp) c2) G3, cell_load (x2.ko _ _ (by simp) (x1.ko _ _ (by simp) c2)) G3, fun e' k4 k5 k6 k7 => ?_⟩
        have z0 := x4.ko _ _ (by simp) (x3.ko _ _ (by simp) (x2.ko _ _ (by simp) a1))
        have z1 := x4.ko _ _ (by simp) (x3.ko _ _ (by simp) a2)
        have z2 := x4.ko _ _ (by simp) a3
        have D4' : DiskAt t4 r dd rm fu := D1.keep KK (fun x hx => by
          intro hm
          simp at hm
          rcases hm with rfl | rfl | rfl | rfl
          · exact hbk 0 (by omega) hx
          · exact hbk 1 (by omega) hx
          · exact hbk 2 (by omega) hx
          · exact hbk 3 (by omega) hx)
        have K4' : KS (foot r rm fs) σ t4 := K1.trans KK (fun x hx => by simp at hx; exact .inr (by omega))
        refine ⟨t4, Leave.cons (wopen1_calm a4) Leave.nil, [.optr (b + 4) 0, w, .int .i64 (f : Nat), .int .i64 0], ?_, hP _ _ ?_⟩
        · rw [vresults_cell (by decide), k4, cell_load z0 GWp, vresults_cell (by decide), k5, cell_load z1 GRs, vresults_cell (by decide), k6, cell_load z2 G3, vresults_cell (by decide), k7, cell_load a4 GEr, vresults_nil]
        · rw [hop]
          exact ⟨fu, D4', K4', I, .inr ⟨rfl, b + 4, w, ps, by rw [hfr]; rfl, O.pts, O.b, hps, KK.ko _ _ (by simp) c4, by omega, hbk 4 (by omega)⟩⟩
      by_cases hf0 : s.first = 0
      · have hf0' : ((s.first : Nat) : Int) = 0 := by omega
        obtain ⟨u1, y0, a0, x0⟩ := put_cell (u := .int .i64 1) C.c2 S3 rfl
        have C0 := x0.ko _ _ (by simp) C.c0
        have C1 := x0.ko _ _ (by simp) C.c1
        have C3 := x0.ko _ _ (by simp) C.c3
        have C4 := x0.ko _ _ (by simp) C.c4
        obtain ⟨t1, t2, t3, t4, y1, y2, y3, y4, m1, m2, m3, fin⟩ := last u1 1 (K.trans x0 (fun x hx => by simp at hx; exact .inr (by omega))) (fun _ _ => trivial) C0 C1 a0 C3 C4 (D.keep x0 (fun x hx hm => by simp at hm; subst hm; exact hbk 2 (by omega) hx)) (by unfold OpS.from; rw [if_pos hf0])
        have y3 : vstore Tryd.prog t2 3 (.optr (b + 2) 0) (.int .i64 1) = some t3 := y3
        have m2 : vload Tryd.prog t1.objs 3 (.optr (b + 2) 0) = some (.int .i64 1) := m2
        have m3 : vload Tryd.prog t2.objs 3 (.optr (b + 2) 0) = some (.int .i64 1) := m3
        simp only [k36_a, WD, WK, vop, evAll, evOpt, evParts, vbuiltin, vun, vextract, Nat.reduceLT, Nat.reduceEqDiff, ↓reduceIte, reduceCtorEq, Nat.reduceAdd, Int.reduceLT, Int.reduceNeg, valloc_std, noSB, vhot, h30, g29, hlt', decide_false, decide_true, eq_self, g4, g5, g6', g7, ld2, hf0', y0, cell_load C0 GWp, cell_load C1 GRs, cell_load a0 G3, y1, y2, y3, y4, m1, m2, m3, List.nil_append, List.append_nil]
        exact fin _ (by simp [upd_some, g4]) (by simp [upd_some, g5]) (by simp [upd_some, g6']) (by simp [upd_some, g7])
      · have hf0' : ¬ ((s.first : Nat) : Int) = 0 := by omega
        obtain ⟨t1, t2, t3, t4, y1, y2, y3, y4, m1, m2, m3, fin⟩ := last u s.first K (fun _ _ => trivial) C.c0 C.c1 C.c2 C.c3 C.c4 D (by unfold OpS.from; rw [if_neg hf0])
        simp only [k36_a, WD, WK, vop, evAll, evOpt, evParts, vbuiltin, vun, vextract, Nat.reduceLT, Nat.reduceEqDiff, ↓reduceIte, reduceCtorEq, Nat.reduceAdd, Int.reduceLT, Int.reduceNeg, valloc_std, noSB, vhot, h30, g29, hlt', decide_false, g4, g5, g6', g7, ld0, ld1, ld2, hf0', y1, y2, y3, y4, m1, m2, m3, List.nil_append, List.append_nil]
        exact fin _ (by simp [upd_some, g4]) (by simp [upd_some, g5]) (by simp [upd_some, g6']) (by simp [upd_some, g7])
end Go.Proofs.YtnegdinonfjdfaaDoor.Q

