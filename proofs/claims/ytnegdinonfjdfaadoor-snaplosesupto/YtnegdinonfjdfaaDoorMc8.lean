/- A part of the proof: Kh, Ki, Kj, Kk, Rw, Kl, Sa, Sb, Sc, Sd, Se, Sf, Sg, Si, Sj, Ua, Ub, Uc, Ud, Ue. -/
import Derived.Test.YtnegdinonfjdfaaDoorMc7
import Derived.Test.YtnegdinonfjdfaaDoorMc5
/- Sync, Truncate, Rename, Remove. -/
set_option linter.unusedVariables false
set_option linter.unusedSimpArgs false
set_option maxRecDepth 100000
namespace Go.Proofs.YtnegdinonfjdfaaDoor.Q
open Go Go.RowKit Go.Proofs
theorem rowOf_news {objs : List Ob} {v : V} {q : Option Nat} {cs : List V} (h : rowOf objs v = some (q, cs)) : vnewsO Tryd.prog objs 22 v 1 = some (cs, cs.length) := by
  rcases rowOf_spec h with ⟨rfl, rfl, rfl⟩ | ⟨r, full, rfl, rfl, hr, hl, hc⟩
  · simp [vnewsO, vnews, pTB]
  · have h2 : List.take cs.length full = cs := hc.symm
    simp [vnewsO, vnews, pTB, hr, hl, h2]
theorem Has.facts {σ : St} {r rm : Nat} {d : Dk} {fs a b : List Ent} {p : Ent} {n : List UInt8} (h : DiskAt σ r d rm fs) (hok : d.Ok) (hA : Has d fs a b p n) :
    vload Tryd.prog σ.objs 22 (.optr p.2.rf 0) = some p.2.s ∧ vload Tryd.prog σ.objs 22 (.optr p.2.rf 1) = some p.2.w ∧ vlen Tryd.prog 22 p.2.s = some (.int .i64 (p.1.safe.length : Nat)) ∧ vlen Tryd.prog 22 p.2.w = some (.int .i64 (p.1.wait.length : Nat)) ∧
      p.1.safe.length + p.1.wait.length ≤ 1048576 ∧ namedD n = true ∧ (p.2.rs.toList ++ p.2.rw.toList).Nodup ∧ p.2.rf ∉ p.2.rs.toList ++ p.2.rw.toList := by
  obtain ⟨g1, g2, g3⟩ := hA.ids h
  have hgt := hok.get hA.g
  simp only [FO.ids, List.nodup_cons] at g2
  exact ⟨by rw [vload_obj g1.ob pGB]; rfl, by rw [vload_obj g1.ob pGB]; rfl, by rw [rowOf_len g1.s, List.length_map], by rw [rowOf_len g1.w, List.length_map], hgt.2.2.2, hgt.2.2.1, g2.2, g2.1⟩
theorem sync_sees {σ : St} {r rm : Nat} {d : Dk} {fs : List Ent} {n : List UInt8} (h : DiskAt σ r d rm fs) (hok : d.Ok) (hw : d.writes < 4611686018427387904) :
    ∃ q σ', Does Tryd.prog prims 48 [.optr r 0, .str n] σ q σ' ∧ (q = .ret (.int .i64 ((syncD n d).1 : Nat)) ∧ Next σ r rm fs σ' (syncD n d).2) := by
  apply k48_is.does (by simp)
  simp only [k48_a, WK, vop, evAll, evOpt, evParts, vbuiltin, vun, vextract, Nat.reduceLT, Nat.reduceEqDiff, ↓reduceIte, reduceCtorEq, Nat.reduceAdd, Int.reduceLT, Int.reduceNeg, valloc_std, noSB, vhot, List.getD_cons_zero, List.getD_cons_succ]
  by_cases hz : thereD d n = 0
  · obtain ⟨a, b, p, hA, hr⟩ := there_ok h hok hz
    refine KD.ret (there_yes h hr hA) ?_
    obtain ⟨σ1, r1, D1, r3, r4, σ2, r5, r6⟩ := rawNext h hok hw
    obtain ⟨f1, f2, f3, f4, f5⟩ := raw_files d
    simp only [k48_a, WK, vop, evAll, evOpt, evParts, vbuiltin, vun, vextract, Nat.reduceLT, Nat.reduceEqDiff, ↓reduceIte, reduceCtorEq, Nat.reduceAdd, Int.reduceLT, Int.reduceNeg, valloc_std, noSB, vhot]
    refine KD.ret r1 ?_
    have hz' : ¬ thereD d n ≠ 0 := fun h => h hz
    cases hgo : (rawD d).1 with
    | true =>
      have e : syncD n d = (20, offD d.keep (rawD d).2) := by unfold syncD; rw [if_neg hz', if_pos hgo]
      simp only [k48_a, WK, vop, evAll, evOpt, evParts, vbuiltin, vun, vextract, Nat.reduceLT, Nat.reduceEqDiff, ↓reduceIte, reduceCtorEq, Nat.reduceAdd, Int.reduceLT, Int.reduceNeg, valloc_std, noSB, vhot]
      refine KD.ret r5 ?_
      simp only [k48_a, WK, vop, evAll, evOpt, evParts, vbuiltin, vun, vextract, Nat.reduceLT, Nat.reduceEqDiff, ↓reduceIte, reduceCtorEq, Nat.reduceAdd, Int.reduceLT, Int.reduceNeg, valloc_std, noSB, vhot, e]
      exact ⟨rfl, r6⟩
    | false =>
      have A1 := hA.files (d2 := (rawD d).2) f1
      have e : syncD n d = (0, { (rawD d).2 with files := putF ⟨n, p.1.safe ++ p.1.wait, []⟩ d.files }) := by
        unfold syncD; rw [if_neg hz', if_neg (by rw [hgo]; simp), hA.g]; rfl
      obtain ⟨g1, g2, g3⟩ := A1.ids D1
      obtain ⟨l1, l2, v1, v2, hl, hn, hnd, hrf⟩ := A1.facts D1 hok.raw
      obtain ⟨s', qs, σa, ha, hsa, hka, hqa, h1a⟩ := rowApp g1.s (rowOf_news g1.w) (byteV_one _) (by simp; omega)
      obtain ⟨N1, hob⟩ := D1.upd hok.raw A1 (f' := ⟨n, p.1.safe ++ p.1.wait, []⟩) (s' := s') (w' := .nils) (qs := qs) (qw := none) (hka.mono fun x hx => .inl (List.mem_append_left _ hx)) (by rw [List.map_append]; exact hsa) rfl (fun x hx => by
        rcases List.mem_append.1 hx with h | h
        · rcases hqa x h with h | h
          · exact .inl (List.mem_append_left _ h)
          · exact .inr h
        · cases h) (by cases qs <;> simp) rfl
      obtain ⟨σb, hσb⟩ : ∃ σb : St, σb = ⟨σa.objs.set p.2.rf (.cells [s', p.2.w]), σa.toks⟩ := ⟨_, rfl⟩
      have st1 : vstore Tryd.prog σa 22 (.optr p.2.rf 0) s' = some σb := by rw [vstore_obj hob SBB h1a (by simp), hσb]; rfl
      have hobb : σb.objs[p.2.rf]? = some (.cells [s', p.2.w]) := by rw [hσb]; exact obj_set hob
      have st2 : vstore Tryd.prog σb 22 (.optr p.2.rf 1) .nils = some ⟨σa.objs.set p.2.rf (.cells [s', .nils]), σa.toks⟩ := by
        rw [vstore_obj hobb SBB rfl (by simp), hσb]; simp [List.set_set]
      simp only [k48_a, WK, vop, evAll, evOpt, evParts, vbuiltin, vun, vextract, Nat.reduceLT, Nat.reduceEqDiff, ↓reduceIte, reduceCtorEq, Nat.reduceAdd, Int.reduceLT, Int.reduceNeg, valloc_std, noSB, vhot, pFF0, pFF1, l1, l2, ha, st1, st2, nilEP, e]
      rw [f1] at N1
      exact ⟨rfl, Next.trans r3 (fun x hx => .inl hx) N1⟩
  · refine KD.ret (there_no h n hz) ?_
    have hz' : ¬ ((thereD d n : Nat) : Int) = 0 := by omega
    have e : syncD n d = (thereD d n, d) := by unfold syncD; rw [if_pos hz]
    simp only [k48_a, WK, vop, evAll, evOpt, evParts, vbuiltin, vun, vextract, Nat.reduceLT, Nat.reduceEqDiff, ↓reduceIte, reduceCtorEq, Nat.reduceAdd, Int.reduceLT, Int.reduceNeg, valloc_std, noSB, vhot, hz', e]
    exact Next.refl h
/-! ### Files leave the map, and come into it -/
theorem DiskAt.gone {σ : St} {r rm : Nat} {d : Dk} {fs a b : List Ent} {p : Ent} {n : List UInt8} (h : DiskAt σ r d rm fs) (hok : d.Ok) (hA : Has d fs a b p n) :
    ∃ σ', vmapDel Tryd.prog σ 68 (.omap rm) (.str n) = some σ' ∧ DiskAt σ' r { d with files := dropF n d.files } rm (a ++ b) ∧ KS [rm] σ σ' ∧ FAt σ'.objs p ∧ p.2.ids.Nodup ∧ (∀ x ∈ p.2.ids, x ∈ foot r rm fs ∧ x ∉ foot r rm (a ++ b)) ∧ ∀ x ∈ foot r rm (a ++ b), x ∈ foot r rm fs := by
  have hlt := h.lt
  have hN := h.nd
  obtain ⟨g1, g2, g3⟩ := hA.ids h
  have hfs := hA.e
  subst hfs
  have hpm := h.pm
  unfold foot at hN
  rw [List.nodup_cons, List.nodup_cons, flat_mid] at hN
  obtain ⟨n1, n2, n3⟩ := hN
  have hml := hlt rm (by simp [foot])
  have hv := find_yes (a := a) (b := b) (p := p) (by rw [hA.nm]; exact hA.a) 0
  rw [hA.nm] at hv
  have hne : ∀ x, x ∈ (a ++ p :: b).flatMap (fun p => p.2.ids) → rm ≠ x := fun x hx e => n2 (by rw [flat_mid] at hx; rw [e]; exact hx)
  have hkeep : ∀ q ∈ a ++ p :: b, FAt (σ.objs.set rm (.mp ((a ++ b).map fent))) q := fun q hq => (h.hf q hq).frame fun x hx o ho => by
    rw [List.getElem?_set_ne (hne x (List.mem_flatMap.2 ⟨q, hq, hx⟩))]; exact ho
  have hids : ∀ x ∈ foot r rm (a ++ b), x ∈ foot r rm (a ++ p :: b) := by
    intro x hx
    simp only [foot, List.mem_cons, List.flatMap_append, List.flatMap_cons, List.mem_append] at hx ⊢
    rcases hx with h | h | h | h
    · exact .inl h
    · exact .inr (.inl h)
    · exact .inr (.inr (.inl h))
    · exact .inr (.inr (.inr (.inr h)))
  have hsub : ((a ++ b).flatMap fun p => p.2.ids).Sublist ((a ++ p :: b).flatMap fun p => p.2.ids) := by
    rw [flat_mid, List.flatMap_append]
    exact (List.Sublist.refl _).append (List.sublist_append_right ..)
  refine ⟨⟨σ.objs.set rm (.mp ((a ++ b).map fent)), σ.toks⟩, ?_, ⟨?_, ?_, fun q hq => hkeep q ?_, ?_, ?_⟩, KS.set (.inl (by simp)) _, hkeep p (by simp), g2, fun x hx => ⟨?_, fun hx2 => ?_⟩, hids⟩
  · simp only [vmapDel, pTM, h.hm, keyD, hv]
    congr 3
    rw [List.map_append, List.map_cons, Nat.zero_add, ← List.length_map (f := fent), List.eraseIdx_append_of_length_le (Nat.le_refl _), Nat.sub_self, List.map_append]
    rfl
  · simp only
    rw [List.getElem?_set_ne (fun e => n1 (by rw [e]; exact List.mem_cons_self ..))]
    exact h.hd
  · simp only
    rw [List.getElem?_set_self hml]
  · rcases List.mem_append.1 hq with h | h <;> simp [h]
  · have := h.nd
    unfold foot at this ⊢
    exact (List.Sublist.cons_cons _ (List.Sublist.cons_cons _ hsub)).nodup this
  · simp only [List.map_append, List.map_cons] at hpm ⊢
    have e : (a.map (·.1) ++ b.map (·.1)) = dropF n (a.map (·.1) ++ p.1 :: b.map (·.1)) := by
      unfold dropF
      rw [List.filter_append, List.filter_cons]
      simp only [hA.nm, ne_eq, not_true_eq_false, decide_false, Bool.false_eq_true, ↓reduceIte]
      rw [List.filter_eq_self.2, List.filter_eq_self.2]
      · intro f hf
        obtain ⟨q, hq, rfl⟩ := List.mem_map.1 hf
        simp [hA.b q hq]
      · intro f hf
        obtain ⟨q, hq, rfl⟩ := List.mem_map.1 hf
        simp [hA.a q hq]
    rw [e]
    exact hpm.filter _
  · simp only [foot, List.mem_cons, List.mem_flatMap]
    exact .inr (.inr ⟨p, by simp, hx⟩)
  · simp only [foot, List.mem_cons, List.flatMap_append, List.mem_append] at hx2
    rw [List.nodup_append, List.nodup_append] at n3
    rcases hx2 with h | h | h | h
    · subst h; exact n1 (List.mem_cons_of_mem _ (by simp [hx]))
    · subst h; exact n2 (by simp [hx])
    · exact n3.2.2 x h x (List.mem_append_left _ hx) rfl
    · exact n3.2.1.2.2 x hx x h rfl
theorem putF_new {l : List Fl} {x : Fl} (hg : getF l x.name = none) : (putF x l).Perm (x :: l) := by
  unfold putF
  refine (List.perm_middle).trans (.cons _ ?_)
  have e : (l.filter fun f => decide (x.name < f.name)) = l.filter fun f => !decide (f.name < x.name) := by
    refine List.filter_congr fun f hf => ?_
    have hne := getF_none hg f hf
    rcases lt_or hne with h | h
    · have : ¬ x.name < f.name := fun h2 => lt_irrefl' _ (lt_trans' h h2)
      simp [h, this]
    · have : ¬ f.name < x.name := fun h2 => lt_irrefl' _ (lt_trans' h h2)
      simp [h, this]
  rw [e]
  exact List.filter_append_perm _ _
theorem DiskAt.come {σ : St} {r rm : Nat} {d : Dk} {fs : List Ent} {p : Ent} (h : DiskAt σ r d rm fs) (hok : d.Ok) (hF : FAt σ.objs p) (hnd : p.2.ids.Nodup) (hdj : ∀ x ∈ p.2.ids, x ∉ foot r rm fs) :
    ∃ σ' fs', vmapSet Tryd.prog σ 68 (.omap rm) (.str p.1.name) (.optr p.2.rf 0) = some σ' ∧ DiskAt σ' r { d with files := putF p.1 d.files } rm fs' ∧ KS [rm] σ σ' ∧ ∀ x ∈ foot r rm fs', x ∈ foot r rm fs ∨ x ∈ p.2.ids := by
  have hlt := h.lt
  have hN := h.nd
  have hN0 := hN
  have hml := hlt rm (by simp [foot])
  unfold foot at hN
  rw [List.nodup_cons, List.nodup_cons] at hN
  obtain ⟨n1, n2, n3⟩ := hN
  have hkeep : ∀ q ∈ fs, ∀ o, FAt (σ.objs.set rm o) q := fun q hq o => (h.hf q hq).frame fun x hx o ho => by
    rw [List.getElem?_set_ne (fun e => n2 (by rw [e]; exact List.mem_flatMap.2 ⟨q, hq, hx⟩))]; exact ho
  have hkp : ∀ o, FAt (σ.objs.set rm o) p := fun o => hF.frame fun x hx o ho => by
    rw [List.getElem?_set_ne (fun e => hdj x hx (by rw [← e]; simp [foot]))]; exact ho
  have hrm : rm ≠ r := fun e => n1 (by rw [← e]; exact List.mem_cons_self ..)
  cases hg : getF d.files p.1.name with
  | none =>
    have hno := h.get_no hg
    refine ⟨⟨σ.objs.set rm (.mp ((fs ++ [p]).map fent)), σ.toks⟩, fs ++ [p], ?_, ⟨?_, ?_, ?_, ?_, ?_⟩, KS.set (.inl (by simp)) _, ?_⟩
    · simp only [vmapSet, pTM, h.hm, keyD, find_no hno]
      rw [List.map_append]
      rfl
    · simp only; rw [List.getElem?_set_ne hrm]; exact h.hd
    · simp only; rw [List.getElem?_set_self hml]
    · intro q hq
      rcases List.mem_append.1 hq with hq | hq
      · exact hkeep q hq _
      · rw [List.mem_singleton] at hq; subst hq; exact hkp _
    · have e : foot r rm (fs ++ [p]) = foot r rm fs ++ p.2.ids := by simp [foot]
      rw [e, List.nodup_append]
      exact ⟨hN0, hnd, fun x hx y hy e => hdj y hy (by rw [← e]; exact hx)⟩
    · simp only [List.map_append, List.map_cons, List.map_nil]
      exact (List.perm_append_singleton ..).trans ((h.pm.cons _).trans (putF_new hg).symm)
    · intro x hx
      have e : foot r rm (fs ++ [p]) = foot r rm fs ++ p.2.ids := by simp [foot]
      rw [e, List.mem_append] at hx
      exact hx
  | some f =>
    obtain ⟨a, q, b, hA⟩ := h.get_yes hok hg
    have hfs := hA.e
    subst hfs
    have hpm := h.pm
    have hv := find_yes (a := a) (b := b) (p := q) (by rw [hA.nm]; exact hA.a) 0
    rw [hA.nm] at hv
    have hmem : ∀ x ∈ foot r rm (a ++ p :: b), x ∈ foot r rm (a ++ q :: b) ∨ x ∈ p.2.ids := by
      intro x hx
      simp only [foot, List.mem_cons, List.flatMap_append, List.flatMap_cons, List.mem_append] at hx ⊢
      rcases hx with h | h | h | h | h
      · exact .inl (.inl h)
      · exact .inl (.inr (.inl h))
      · exact .inl (.inr (.inr (.inl h)))
      · exact .inr h
      · exact .inl (.inr (.inr (.inr (.inr h))))
    refine ⟨⟨σ.objs.set rm (.mp ((a ++ p :: b).map fent)), σ.toks⟩, a ++ p :: b, ?_, ⟨?_, ?_, ?_, ?_, ?_⟩, KS.set (.inl (by simp)) _, hmem⟩
    · simp only [vmapSet, pTM, h.hm, keyD, hv]
      congr 3
      rw [List.map_append, List.map_cons, Nat.zero_add, ← List.length_map (f := fent), List.set_append_right _ _ (Nat.le_refl _), Nat.sub_self, List.map_append]
      rfl
    · simp only; rw [List.getElem?_set_ne hrm]; exact h.hd
    · simp only; rw [List.getElem?_set_self hml]
    · intro x hx
      simp only [List.mem_append, List.mem_cons] at hx
      rcases hx with hx | rfl | hx
      · exact hkeep x (by simp [hx]) _
      · exact hkp _
      · exact hkeep x (by simp [hx]) _
    · unfold foot at hN0 ⊢
      rw [flat_mid] at hN0 ⊢
      have hdj2 : ∀ x ∈ p.2.ids, x ∉ r :: rm :: ((a.flatMap fun p => p.2.ids) ++ (q.2.ids ++ b.flatMap fun p => p.2.ids)) := fun x hx hx2 => hdj x hx (by unfold foot; rw [flat_mid]; exact hx2)
      rw [← List.cons_append, ← List.cons_append] at hN0 ⊢
      rw [List.nodup_append, List.nodup_append] at hN0 ⊢
      obtain ⟨m1, ⟨m2, m3, m4⟩, m5⟩ := hN0
      refine ⟨m1, ⟨hnd, m3, fun x hx y hy e => hdj2 x hx (by rw [e]; simp [hy])⟩, fun x hx y hy e => ?_⟩
      rcases List.mem_append.1 hy with hy | hy
      · refine hdj2 y hy ?_
        rw [← e]
        rw [← List.cons_append, ← List.cons_append]
        exact List.mem_append_left _ hx
      · exact m5 x hx y (List.mem_append_right _ hy) e
    · simp only [List.map_append, List.map_cons] at hpm ⊢
      exact putF_perm hok.rise hpm hA.nm.symm
end Go.Proofs.YtnegdinonfjdfaaDoor.Q

/- Remove, Rename, and the small calls. -/
set_option linter.unusedVariables false
set_option linter.unusedSimpArgs false
set_option maxRecDepth 100000
namespace Go.Proofs.YtnegdinonfjdfaaDoor.Q
open Go Go.RowKit Go.Proofs
theorem remove_sees {σ : St} {r rm : Nat} {d : Dk} {fs : List Ent} {n : List UInt8} (h : DiskAt σ r d rm fs) (hok : d.Ok) (hw : d.writes < 4611686018427387904) :
    ∃ q σ', Does Tryd.prog prims 46 [.optr r 0, .str n] σ q σ' ∧ (q = .ret (.int .i64 ((removeD n d).1 : Nat)) ∧ Next σ r rm fs σ' (removeD n d).2) := by
  apply k46_is.does (by simp)
  simp only [k46_a, WK, vop, evAll, evOpt, evParts, vbuiltin, vun, vextract, Nat.reduceLT, Nat.reduceEqDiff, ↓reduceIte, reduceCtorEq, Nat.reduceAdd, Int.reduceLT, Int.reduceNeg, valloc_std, noSB, vhot, List.getD_cons_zero, List.getD_cons_succ]
  by_cases hz : thereD d n = 0
  · obtain ⟨a, b, p, hA, hr⟩ := there_ok h hok hz
    refine KD.ret (there_yes h hr hA) ?_
    obtain ⟨σ1, r1, D1, r3, r4, σ2, r5, r6⟩ := rawNext h hok hw
    obtain ⟨f1, f2, f3, f4, f5⟩ := raw_files d
    simp only [k46_a, WK, vop, evAll, evOpt, evParts, vbuiltin, vun, vextract, Nat.reduceLT, Nat.reduceEqDiff, ↓reduceIte, reduceCtorEq, Nat.reduceAdd, Int.reduceLT, Int.reduceNeg, valloc_std, noSB, vhot]
    refine KD.ret r1 ?_
    have hz' : ¬ thereD d n ≠ 0 := fun h => h hz
    cases hgo : (rawD d).1 with
    | true =>
      have e : removeD n d = (20, offD d.keep (rawD d).2) := by unfold removeD; rw [if_neg hz', if_pos hgo]
      simp only [k46_a, WK, vop, evAll, evOpt, evParts, vbuiltin, vun, vextract, Nat.reduceLT, Nat.reduceEqDiff, ↓reduceIte, reduceCtorEq, Nat.reduceAdd, Int.reduceLT, Int.reduceNeg, valloc_std, noSB, vhot]
      refine KD.ret r5 ?_
      simp only [k46_a, WK, vop, evAll, evOpt, evParts, vbuiltin, vun, vextract, Nat.reduceLT, Nat.reduceEqDiff, ↓reduceIte, reduceCtorEq, Nat.reduceAdd, Int.reduceLT, Int.reduceNeg, valloc_std, noSB, vhot, e]
      exact ⟨rfl, r6⟩
    | false =>
      have A1 := hA.files (d2 := (rawD d).2) f1
      have e : removeD n d = (0, { (rawD d).2 with files := dropF n d.files }) := by
        unfold removeD; rw [if_neg hz', if_neg (by rw [hgo]; simp)]
      have lm : vload Tryd.prog σ1.objs 68 (.optr r 0) = some (.omap rm) := by rw [vload_obj D1.hd pGM]; rfl
      obtain ⟨σb, hdl, N1, K1, _, _, _, I1⟩ := D1.gone hok.raw A1
      simp only [k46_a, WK, vop, evAll, evOpt, evParts, vbuiltin, vun, vextract, Nat.reduceLT, Nat.reduceEqDiff, ↓reduceIte, reduceCtorEq, Nat.reduceAdd, Int.reduceLT, Int.reduceNeg, valloc_std, noSB, vhot, pFA r 0 (by omega), lm, hdl, e]
      rw [f1] at N1
      exact ⟨rfl, Next.trans r3 (fun x hx => .inl hx) ⟨_, N1, K1.mono fun x hx => .inl (by rw [List.mem_singleton] at hx; subst hx; simp [foot]), fun x hx => .inl (I1 x hx)⟩⟩
  · refine KD.ret (there_no h n hz) ?_
    have hz' : ¬ ((thereD d n : Nat) : Int) = 0 := by omega
    have e : removeD n d = (thereD d n, d) := by unfold removeD; rw [if_pos hz]
    simp only [k46_a, WK, vop, evAll, evOpt, evParts, vbuiltin, vun, vextract, Nat.reduceLT, Nat.reduceEqDiff, ↓reduceIte, reduceCtorEq, Nat.reduceAdd, Int.reduceLT, Int.reduceNeg, valloc_std, noSB, vhot, hz', e]
    exact Next.refl h
theorem thereD_cases (d : Dk) (n : List UInt8) : (namedD n = false → thereD d n = 1) ∧ (namedD n = true → thereD d n = 0 ∨ thereD d n = 20 ∨ thereD d n = 21) := by
  unfold thereD readyD
  cases h1 : namedD n <;> cases h2 : d.on <;> cases h3 : (getF d.files n).isNone <;> simp
theorem rename_sees {σ : St} {r rm : Nat} {d : Dk} {fs : List Ent} {n m : List UInt8} (h : DiskAt σ r d rm fs) (hok : d.Ok) (hw : d.writes < 4611686018427387904) :
    ∃ q σ', Does Tryd.prog prims 49 [.optr r 0, .str n, .str m] σ q σ' ∧ (q = .ret (.int .i64 ((renameD n m d).1 : Nat)) ∧ Next σ r rm fs σ' (renameD n m d).2) := by
  apply k49_is.does (by simp)
  simp only [k49_a, WK, vop, evAll, evOpt, evParts, vbuiltin, vun, vextract, Nat.reduceLT, Nat.reduceEqDiff, ↓reduceIte, reduceCtorEq, Nat.reduceAdd, Int.reduceLT, Int.reduceNeg, valloc_std, noSB, vhot, List.getD_cons_zero, List.getD_cons_succ]
  obtain ⟨c1, c2⟩ := thereD_cases d n
  by_cases hz : thereD d n = 0
  · obtain ⟨a, b, p, hA, hr⟩ := there_ok h hok hz
    have hn := (readyD_named hr).1
    refine KD.ret (there_yes h hr hA) ?_
    have z2 : ¬ (0 : Int) = 2 := by decide
    have z1 : ¬ (0 : Int) = 1 := by decide
    simp only [k49_a, WK, vop, evAll, evOpt, evParts, vbuiltin, vun, vextract, Nat.reduceLT, Nat.reduceEqDiff, ↓reduceIte, reduceCtorEq, Nat.reduceAdd, Int.reduceLT, Int.reduceNeg, valloc_std, noSB, vhot, z2, z1, decide_false]
    refine KD.ret (named_does m σ) ?_
    have hz' : ¬ thereD d n ≠ 0 := fun h => h hz
    cases hm : namedD m with
    | false =>
      have e : renameD n m d = (1, d) := by unfold renameD; rw [if_pos (.inr hm)]
      simp only [k49_a, WK, vop, evAll, evOpt, evParts, vbuiltin, vun, vextract, Nat.reduceLT, Nat.reduceEqDiff, ↓reduceIte, reduceCtorEq, Nat.reduceAdd, Int.reduceLT, Int.reduceNeg, valloc_std, noSB, vhot, Bool.not_false, e]
      exact ⟨rfl, Next.refl h⟩
    | true =>
      have hnm : ¬ (namedD n = false ∨ namedD m = false) := by rw [hn, hm]; simp
      obtain ⟨σ1, r1, D1, r3, r4, σ2, r5, r6⟩ := rawNext h hok hw
      obtain ⟨f1, f2, f3, f4, f5⟩ := raw_files d
      simp only [k49_a, WK, vop, evAll, evOpt, evParts, vbuiltin, vun, vextract, Nat.reduceLT, Nat.reduceEqDiff, ↓reduceIte, reduceCtorEq, Nat.reduceAdd, Int.reduceLT, Int.reduceNeg, valloc_std, noSB, vhot, Bool.not_true]
      refine KD.ret r1 ?_
      cases hgo : (rawD d).1 with
      | true =>
        have e : renameD n m d = (20, offD d.keep (rawD d).2) := by unfold renameD; rw [if_neg hnm, if_neg hz', if_pos hgo]
        simp only [k49_a, WK, vop, evAll, evOpt, evParts, vbuiltin, vun, vextract, Nat.reduceLT, Nat.reduceEqDiff, ↓reduceIte, reduceCtorEq, Nat.reduceAdd, Int.reduceLT, Int.reduceNeg, valloc_std, noSB, vhot]
        refine KD.ret r5 ?_
        simp only [k49_a, WK, vop, evAll, evOpt, evParts, vbuiltin, vun, vextract, Nat.reduceLT, Nat.reduceEqDiff, ↓reduceIte, reduceCtorEq, Nat.reduceAdd, Int.reduceLT, Int.reduceNeg, valloc_std, noSB, vhot, e]
        exact ⟨rfl, r6⟩
      | false =>
        have A1 := hA.files (d2 := (rawD d).2) f1
        have e : renameD n m d = (0, { (rawD d).2 with files := putF ⟨m, p.1.safe, p.1.wait⟩ (dropF n d.files) }) := by
          unfold renameD; rw [if_neg hnm, if_neg hz', if_neg (by rw [hgo]; simp), hA.g]; rfl
        have lm : vload Tryd.prog σ1.objs 68 (.optr r 0) = some (.omap rm) := by rw [vload_obj D1.hd pGM]; rfl
        obtain ⟨σb, hdl, N1, K1, F1, Q1, J1, I1⟩ := D1.gone hok.raw A1
        have lm2 : vload Tryd.prog σb.objs 68 (.optr r 0) = some (.omap rm) := by rw [vload_obj N1.hd pGM]; rfl
        obtain ⟨σc, fs', hst, N2, K2, I2⟩ := N1.come (p := (⟨m, p.1.safe, p.1.wait⟩, p.2)) (hok.raw.drop n) ⟨F1.ob, F1.s, F1.w, F1.cs, F1.ds⟩ Q1 (fun x hx => (J1 x hx).2)
        simp only [k49_a, WK, vop, evAll, evOpt, evParts, vbuiltin, vun, vextract, Nat.reduceLT, Nat.reduceEqDiff, ↓reduceIte, reduceCtorEq, Nat.reduceAdd, Int.reduceLT, Int.reduceNeg, valloc_std, noSB, vhot, pFA r 0 (by omega), lm, hdl, lm2, hst, e]
        rw [f1] at N2
        have hrm : ∀ x ∈ [rm], x ∈ foot r rm fs ∨ σ1.objs.length ≤ x := fun x hx => .inl (by rw [List.mem_singleton] at hx; subst hx; simp [foot])
        refine ⟨rfl, Next.trans r3 (fun x hx => .inl hx) ⟨_, N2, (K1.mono hrm).trans K2 hrm, fun x hx => ?_⟩⟩
        rcases I2 x hx with h | h
        · exact .inl (I1 x h)
        · exact .inl (J1 x h).1
  · refine KD.ret (there_no h n hz) ?_
    have hz' : ¬ ((thereD d n : Nat) : Int) = 0 := by omega
    cases hn : namedD n with
    | false =>
      have ht := c1 hn
      have e : renameD n m d = (1, d) := by unfold renameD; rw [if_pos (.inl hn)]
      have z2 : ¬ (1 : Int) = 2 := by decide
      have ht' : ((thereD d n : Nat) : Int) = 1 := by omega
      rw [e]
      simp only [k49_a, WK, vop, evAll, evOpt, evParts, vbuiltin, vun, vextract, Nat.reduceLT, Nat.reduceEqDiff, ↓reduceIte, reduceCtorEq, Nat.reduceAdd, Int.reduceLT, Int.reduceNeg, valloc_std, noSB, vhot, ht', z2, decide_false, decide_true]
      exact ⟨rfl, Next.refl h⟩
    | true =>
      have h2 : ¬ ((thereD d n : Nat) : Int) = 2 := by have := c2 hn; omega
      have h1 : ¬ ((thereD d n : Nat) : Int) = 1 := by have := c2 hn; omega
      simp only [k49_a, WK, vop, evAll, evOpt, evParts, vbuiltin, vun, vextract, Nat.reduceLT, Nat.reduceEqDiff, ↓reduceIte, reduceCtorEq, Nat.reduceAdd, Int.reduceLT, Int.reduceNeg, valloc_std, noSB, vhot, h1, h2, decide_false]
      refine KD.ret (named_does m σ) ?_
      cases hm : namedD m with
      | false =>
        have e : renameD n m d = (1, d) := by unfold renameD; rw [if_pos (.inr hm)]
        simp only [k49_a, WK, vop, evAll, evOpt, evParts, vbuiltin, vun, vextract, Nat.reduceLT, Nat.reduceEqDiff, ↓reduceIte, reduceCtorEq, Nat.reduceAdd, Int.reduceLT, Int.reduceNeg, valloc_std, noSB, vhot, Bool.not_false, e]
        exact ⟨rfl, Next.refl h⟩
      | true =>
        have hnm : ¬ (namedD n = false ∨ namedD m = false) := by rw [hn, hm]; simp
        have e : renameD n m d = (thereD d n, d) := by unfold renameD; rw [if_neg hnm, if_pos hz]
        simp only [k49_a, WK, vop, evAll, evOpt, evParts, vbuiltin, vun, vextract, Nat.reduceLT, Nat.reduceEqDiff, ↓reduceIte, reduceCtorEq, Nat.reduceAdd, Int.reduceLT, Int.reduceNeg, valloc_std, noSB, vhot, Bool.not_true, hz', decide_false, e]
        exact Next.refl h
end Go.Proofs.YtnegdinonfjdfaaDoor.Q

/- Concat, Read and Names. -/
set_option linter.unusedVariables false
set_option linter.unusedSimpArgs false
set_option maxRecDepth 100000
namespace Go.Proofs.YtnegdinonfjdfaaDoor.Q
open Go Go.RowKit Go.Proofs
theorem TBB : Tryd.prog.underlying 37 = some (.slice 22) := by kernel_rfl
theorem grow_does {σ : St} {n : Nat} (hn : n ≤ 1000000000) : ∃ v q σ', Does Tryd.prog prims 75 [.nils, .int .i64 (n : Int)] σ (.ret v) σ' ∧ rowOf σ'.objs v = some (q, []) ∧ KS [] σ σ' ∧ ∀ x ∈ q.toList, σ.objs.length ≤ x := by
  have key : ∃ r σ', Does Tryd.prog prims 75 [.nils, .int .i64 (n : Int)] σ r σ' ∧ ∃ v q, r = .ret v ∧ rowOf σ'.objs v = some (q, []) ∧ KS [] σ σ' ∧ ∀ x ∈ q.toList, σ.objs.length ≤ x := by
    apply k75_is.does (by simp)
    have h0 : ¬ (n : Int) < 0 := by omega
    have hvc : vcap Tryd.prog 22 .nils = some (.int .i64 0) := by kernel_rfl
    have hvl : vlen Tryd.prog 22 .nils = some (.int .i64 0) := by kernel_rfl
    have hw0 : IntKind.i64.wrap ((0 : Int) - 0) = 0 := by decide
    have hwn : IntKind.i64.wrap ((n : Int) - 0) = n := by rw [wrap_i64 (by omega) (by omega)]; omega
    have hsl : vslice Tryd.prog 22 .nils none (some (.int .i64 0)) none = some .nils := by kernel_rfl
    by_cases hz : n = 0
    · have h1 : ¬ (0 : Int) < (n : Int) := by omega
      simp only [k75_a, WK, vop, evAll, evOpt, evParts, vbuiltin, vun, vextract, Nat.reduceLT, Nat.reduceEqDiff, ↓reduceIte, reduceCtorEq, Nat.reduceAdd, Int.reduceLT, Int.reduceNeg, valloc_std, noSB, vhot, List.getD_cons_zero, List.getD_cons_succ, h0, hvc, hvl, hw0, hwn, nilEP, h1, decide_false]
      exact ⟨.nils, none, rfl, rfl, KS.refl _ _, fun x hx => by cases hx⟩
    · have h1 : (0 : Int) < (n : Int) := by omega
      have hno : vappendRow Tryd.prog σ 22 3 .nils (.int .i64 (n : Int)) = none := by
        simp [vappendRow, pTB, bInfo, pS1, bZero, vnewsO, vnews, T3]
      have hmk : vappendMake Tryd.prog σ 22 3 .nils (.int .i64 (n : Int)) = some (.hslice σ.objs.length 0 1 n, ⟨σ.objs ++ [.cells []], σ.toks⟩) := by
        have : 0 < n := by omega
        have h9 : n ≤ 140737488355328 := by omega
        simp [vappendMake, pTB, bInfo, pS1, bZero, T3, vcells, this, h9]
      have hb := vbounds_hi (k := .i64) (n := 0) (len := n) (by omega) (by omega)
      have hs2 : vslice Tryd.prog 22 (.hslice σ.objs.length 0 1 n) none (some (.int .i64 0)) none = some (.hslice σ.objs.length 0 1 0) := by
        simp only [vslice, pTB, pS1, hb]
        simp
      simp only [k75_a, WK, vop, evAll, evOpt, evParts, vbuiltin, vun, vextract, Nat.reduceLT, Nat.reduceEqDiff, ↓reduceIte, reduceCtorEq, Nat.reduceAdd, Int.reduceLT, Int.reduceNeg, valloc_std, noSB, vhot, List.getD_cons_zero, List.getD_cons_succ, h0, hvc, hvl, hw0, hwn, nilEP, h1, decide_true, hsl, pTB, hno, hmk, hs2]
      refine ⟨_, some σ.objs.length, rfl, ?_, KS.push _ _ _, fun x hx => by simp at hx; omega⟩
      simp [rowOf]
  obtain ⟨r, σ', h1, v, q, rfl, h2⟩ := key
  exact ⟨v, q, σ', h1, h2⟩
/-- Rows put behind each other. -/
theorem concat_does {σ : St} {pm : Perm} {vs : List V} {bss : List (List UInt8)} (hl : vs.length = bss.length) (hb : ∀ (i : Nat) (h : i < vs.length) (h' : i < bss.length), RB σ vs[i] bss[i]) (hlen : bss.flatten.length ≤ 1000000000) (hcl : bss.length ≤ 1000000000) :
    ∃ v q σ', Does Tryd.prog prims 63 [.slice pm 1 vs vs.length] σ (.ret v) σ' ∧ rowOf σ'.objs v = some (q, bss.flatten.map byteV) ∧ KS [] σ σ' ∧ ∀ x ∈ q.toList, σ.objs.length ≤ x := by
  have key : ∃ r σ', Does Tryd.prog prims 63 [.slice pm 1 vs vs.length] σ r σ' ∧ ∃ v q, r = .ret v ∧ rowOf σ'.objs v = some (q, bss.flatten.map byteV) ∧ KS [] σ σ' ∧ ∀ x ∈ q.toList, σ.objs.length ≤ x := by
    apply k63_is.does (by simp)
    have hvl : vlen Tryd.prog 37 (.slice pm 1 vs vs.length) = some (.int .i64 (vs.length : Nat)) := by simp [vlen, TBB]
    have haddr : ∀ i : Nat, i < vs.length → vindexAddr Tryd.prog 37 (.slice pm 1 vs vs.length) (.int .i64 (i : Int)) = some (.eptr vs i) := by
      intro i hi
      have h1 : vs.isEmpty = false := by cases vs with | nil => simp at hi | cons => rfl
      have h2 : (i : Int) < vs.length := by omega
      simp [vindexAddr, TBB, SBB, h1, h2]
    have hload : ∀ (s : St) (i : Nat) (hi : i < vs.length), vload Tryd.prog s.objs 22 (.eptr vs i) = some vs[i] := by
      intro s i hi
      simp [vload, vcellsAt, vpart, pGB, hi]
    have hsum : ∀ i, i ≤ bss.length → (bss.take i).flatten.length ≤ bss.flatten.length := by
      intro i hi
      have := congrArg List.length (congrArg List.flatten (List.take_append_drop i bss))
      rw [List.flatten_append, List.length_append] at this
      omega
    have hstep : ∀ i (h : i < bss.length), (bss.take (i + 1)).flatten = (bss.take i).flatten ++ bss[i] := by
      intro i h
      rw [List.take_succ_eq_append_getElem h, List.flatten_append]
      simp
    simp only [k63_a, WK, vop, evAll, evOpt, evParts, vbuiltin, vun, vextract, Nat.reduceLT, Nat.reduceEqDiff, ↓reduceIte, reduceCtorEq, Nat.reduceAdd, Int.reduceLT, Int.reduceNeg, valloc_std, noSB, vhot, List.getD_cons_zero, List.getD_cons_succ, hvl, nilEP]
    refine Ev.loopF (fun (i : Nat) e σ' => σ' = σ ∧ e 11 = .int .i64 (i : Nat) ∧ i ≤ vs.length ∧ e 3 = .int .i64 ((bss.take i).flatten.length : Nat)) (fun i => vs.length - i) 0 ⟨rfl, by simp [upd_some], Nat.zero_le _, by simp [upd_some]⟩ ?_
    rintro i e σ' ⟨rfl, h11, hi, h3⟩ hf
    have h0 : e 0 = .slice pm 1 vs vs.length := (hf 0 (by decide)).trans (by simp [upd_some])
    have h9 : e 9 = .slice pm 1 vs vs.length := (hf 9 (by decide)).trans (by simp [upd_some])
    have h10 : e 10 = .int .i64 (vs.length : Nat) := (hf 10 (by decide)).trans (by simp [upd_some])
    clear hf
    by_cases hlt : i < vs.length
    · have hlt' : (i : Int) < vs.length := by omega
      have hlb : i < bss.length := by omega
      have hwi : IntKind.i64.wrap ((i : Int) + 1) = ((i + 1 : Nat) : Int) := by rw [show ((i : Int) + 1) = ((i + 1 : Nat) : Int) from by omega]; exact wrap_nat (by omega)
      have hle := hsum (i + 1) (by omega)
      have hst := hstep i hlb
      have hws : IntKind.i64.wrap (((bss.take i).flatten.length : Nat) + (bss[i].length : Nat) : Int) = (((bss.take (i + 1)).flatten.length : Nat) : Int) := by
        rw [hst, List.length_append] at hle ⊢
        rw [wrap_i64 (by omega) (by omega)]; omega
      have hn0 : ¬ (((bss.take (i + 1)).flatten.length : Nat) : Int) < 0 := by omega
      simp only [k63_a, WK, vop, evAll, evOpt, evParts, vbuiltin, vun, vextract, Nat.reduceLT, Nat.reduceEqDiff, ↓reduceIte, reduceCtorEq, Nat.reduceAdd, Int.reduceLT, Int.reduceNeg, valloc_std, noSB, vhot, h9, h10, h11, h3, hlt', haddr i hlt, hload _ i hlt, (hb i hlt hlb).len, hws, hn0, hwi, decide_true, decide_false]
      exact ⟨i + 1, ⟨by simp [upd_some], by omega, by simp [upd_some]⟩, by omega⟩
    · have hlt' : ¬ (i : Int) < vs.length := by omega
      have hall : bss.take i = bss := List.take_of_length_le (by omega)
      rw [hall] at h3
      obtain ⟨v1, q1, s1, g1, g2, g3, g4⟩ := grow_does (σ := σ') hlen
      simp only [k63_a, WK, vop, evAll, evOpt, evParts, vbuiltin, vun, vextract, Nat.reduceLT, Nat.reduceEqDiff, ↓reduceIte, reduceCtorEq, Nat.reduceAdd, Int.reduceLT, Int.reduceNeg, valloc_std, noSB, vhot, h9, h10, h11, h3, hlt', decide_false, nilEP]
      refine KD.ret g1 ?_
      simp only [k63_a, WK, vop, evAll, evOpt, evParts, vbuiltin, vun, vextract, Nat.reduceLT, Nat.reduceEqDiff, ↓reduceIte, reduceCtorEq, Nat.reduceAdd, Int.reduceLT, Int.reduceNeg, valloc_std, noSB, vhot, h0, hvl]
      refine Ev.loopF (fun (j : Nat) e s => ∃ q, e 27 = .int .i64 (j : Nat) ∧ j ≤ vs.length ∧ rowOf s.objs (e 6) = some (q, (bss.take j).flatten.map byteV) ∧ KS [] σ' s ∧ ∀ x ∈ q.toList, σ'.objs.length ≤ x) (fun i => vs.length - i) 0 ⟨q1, by simp [upd_some], Nat.zero_le _, by simpa [upd_some] using g2, g3, g4⟩ ?_
      rintro j e2 s ⟨q, k27, hj, k6, kk, kq⟩ hf2
      have k25 : e2 25 = .slice pm 1 vs vs.length := (hf2 25 (by decide)).trans (by simp [upd_some])
      have k26 : e2 26 = .int .i64 (vs.length : Nat) := (hf2 26 (by decide)).trans (by simp [upd_some])
      clear hf2
      by_cases hlt2 : j < vs.length
      · have hlt2' : (j : Int) < vs.length := by omega
        have hlb : j < bss.length := by omega
        have hwi : IntKind.i64.wrap ((j : Int) + 1) = ((j + 1 : Nat) : Int) := by rw [show ((j : Int) + 1) = ((j + 1 : Nat) : Int) from by omega]; exact wrap_nat (by omega)
        have hR := (hb j hlt2 hlb).ks kk (fun q hq => by cases hq)
        have hle := hsum (j + 1) (by omega)
        rw [hstep j hlb, List.length_append] at hle
        have hbn := hR.news
        rw [← List.length_map (f := byteV)] at hbn
        obtain ⟨v', q', s2, a1, a2, a3, a4, a5⟩ := rowApp k6 hbn (byteV_one _) (by rw [List.length_map, List.length_map]; omega)
        simp only [k63_a, WK, vop, evAll, evOpt, evParts, vbuiltin, vun, vextract, Nat.reduceLT, Nat.reduceEqDiff, ↓reduceIte, reduceCtorEq, Nat.reduceAdd, Int.reduceLT, Int.reduceNeg, valloc_std, noSB, vhot, k25, k26, k27, hlt2', haddr j hlt2, hload _ j hlt2, hwi, a1, decide_true]
        refine ⟨j + 1, ⟨q', by simp [upd_some], by omega, ?_, kk.trans a3 fun x hx => .inr (kq x hx), fun x hx => ?_⟩, by omega⟩
        · rw [hstep j hlb, List.map_append]; simpa [upd_some] using a2
        · rcases a4 x hx with h | h
          · exact kq x h
          · have := kk.le; omega
      · have hlt2' : ¬ (j : Int) < vs.length := by omega
        have hall2 : bss.take j = bss := List.take_of_length_le (by omega)
        rw [hall2] at k6
        simp only [k63_a, WK, vop, evAll, evOpt, evParts, vbuiltin, vun, vextract, Nat.reduceLT, Nat.reduceEqDiff, ↓reduceIte, reduceCtorEq, Nat.reduceAdd, Int.reduceLT, Int.reduceNeg, valloc_std, noSB, vhot, k25, k26, k27, hlt2', decide_false]
        exact ⟨_, q, rfl, k6, kk, kq⟩
  obtain ⟨r, σ', h1, v, q, rfl, h2⟩ := key
  exact ⟨v, q, σ', h1, h2⟩
theorem mkRows2 (a b : V) (h1 : one a = true) (h2 : one b = true) : vbuildSlice Tryd.prog 37 2 [(0, a), (1, b)] = some (.slice .exact 1 [a, b] 2) := by
  have hz : zeroT Tryd.prog 22 = some .nils := by kernel_rfl
  have e : List.range 2 = [0, 1] := by decide
  have hn : vcells V.nils = [V.nils] := rfl
  simp [vbuildSlice, TBB, SBB, hz, hn, zeroCellsV, vfill, setAll, e, vcells_one h1, vcells_one h2, h1, h2]
theorem read_sees {σ : St} {r rm : Nat} {d : Dk} {fs : List Ent} {n : List UInt8} (h : DiskAt σ r d rm fs) (hok : d.Ok) :
    ∃ p σ', Does Tryd.prog prims 45 [.optr r 0, .str n] σ p σ' ∧ ∃ v q, p = .ret (.tuple [v, .int .i64 ((readD n d).1 : Nat)]) ∧ rowOf σ'.objs v = some (q, (readD n d).2.map byteV) ∧ KS [] σ σ' ∧ ∀ x ∈ q.toList, σ.objs.length ≤ x := by
  apply k45_is.does (by simp)
  simp only [k45_a, WK, vop, evAll, evOpt, evParts, vbuiltin, vun, vextract, Nat.reduceLT, Nat.reduceEqDiff, ↓reduceIte, reduceCtorEq, Nat.reduceAdd, Int.reduceLT, Int.reduceNeg, valloc_std, noSB, vhot, List.getD_cons_zero, List.getD_cons_succ, nilEP]
  by_cases hz : thereD d n = 0
  · obtain ⟨a, b, p, hA, hr⟩ := there_ok h hok hz
    have hz' : ¬ thereD d n ≠ 0 := fun h => h hz
    have e : readD n d = (0, p.1.safe ++ p.1.wait) := by unfold readD; rw [if_neg hz', hA.g]; rfl
    obtain ⟨g1, g2, g3⟩ := hA.ids h
    obtain ⟨l1, l2, v1, v2, hl, hn, hnd, hrf⟩ := hA.facts h hok
    obtain ⟨v, q, σ', c1, c2, c3, c4⟩ := concat_does (σ := σ) (pm := .exact) (vs := [p.2.s, p.2.w]) (bss := [p.1.safe, p.1.wait]) rfl (fun i h h' => by
      match i, h with
      | 0, _ => exact rowOf_rb g1.s
      | 1, _ => exact rowOf_rb g1.w) (by simp; omega) (by simp)
    refine KD.ret (there_yes h hr hA) ?_
    simp only [k45_a, WK, vop, evAll, evOpt, evParts, vbuiltin, vun, vextract, Nat.reduceLT, Nat.reduceEqDiff, ↓reduceIte, reduceCtorEq, Nat.reduceAdd, Int.reduceLT, Int.reduceNeg, valloc_std, noSB, vhot, pFF0, pFF1, l1, l2, mkRows2 p.2.s p.2.w (rowOf_one g1.s) (rowOf_one g1.w), nilEP]
    refine KD.ret c1 ?_
    simp only [k45_a, WK, vop, evAll, evOpt, evParts, vbuiltin, vun, vextract, Nat.reduceLT, Nat.reduceEqDiff, ↓reduceIte, reduceCtorEq, Nat.reduceAdd, Int.reduceLT, Int.reduceNeg, valloc_std, noSB, vhot, pFF0, pFF1, l1, l2, e]
    refine ⟨v, q, rfl, ?_, c3, c4⟩
    simpa using c2
  · refine KD.ret (there_no h n hz) ?_
    have hz' : ¬ ((thereD d n : Nat) : Int) = 0 := by omega
    have e : readD n d = (thereD d n, []) := by unfold readD; rw [if_pos hz]
    simp only [k45_a, WK, vop, evAll, evOpt, evParts, vbuiltin, vun, vextract, Nat.reduceLT, Nat.reduceEqDiff, ↓reduceIte, reduceCtorEq, Nat.reduceAdd, Int.reduceLT, Int.reduceNeg, valloc_std, noSB, vhot, hz', e, nilEP]
    exact ⟨.nils, none, rfl, rfl, KS.refl _ _, fun x hx => by cases hx⟩
end Go.Proofs.YtnegdinonfjdfaaDoor.Q

/- Names, and the small calls. -/
set_option linter.unusedVariables false
set_option linter.unusedSimpArgs false
set_option maxRecDepth 100000
namespace Go.Proofs.YtnegdinonfjdfaaDoor.Q
open Go Go.RowKit Go.Proofs
theorem keys_does {σ : St} {rm : Nat} : ∃ t, Does Tryd.prog prims 52 [.omap rm] σ (.ret (.func 72 [.optr σ.objs.length 0])) ⟨σ.objs ++ [.tcells t [.omap rm]], σ.toks⟩ := by
  have key : ∃ r σ', Does Tryd.prog prims 52 [.omap rm] σ r σ' ∧ (r = .ret (.func 72 [.optr σ.objs.length 0]) ∧ ∃ t, σ' = ⟨σ.objs ++ [.tcells t [.omap rm]], σ.toks⟩) := by
    apply k52_is.does (by simp)
    have hn : ofVal .nilFunc = some .nilf := by kernel_rfl
    have hc : vcells (.omap rm) = [.omap rm] := rfl
    simp only [k52_a, WK, vop, evAll, evOpt, evParts, vbuiltin, vun, vextract, Nat.reduceLT, Nat.reduceEqDiff, ↓reduceIte, reduceCtorEq, Nat.reduceAdd, Int.reduceLT, Int.reduceNeg, valloc_std, noSB, vhot, List.getD_cons_zero, List.getD_cons_succ, hn, vboxT, hc]
    exact ⟨_, rfl⟩
  obtain ⟨r, σ', h, rfl, t, rfl⟩ := key
  exact ⟨t, h⟩
theorem strs_ents {fs : List Ent} : strsOf (fs.map fent) = some (fs.map fun p => p.1.name) := by
  induction fs with
  | nil => rfl
  | cons p fs ih => simp only [List.map_cons, fent, strsOf] at ih ⊢; rw [ih]; rfl
theorem leS_trans (a b c : List UInt8) : leS a b = true → leS b c = true → leS a c = true := by
  simp only [leS, decide_eq_true_eq]; exact List.le_trans
theorem leS_total (a b : List UInt8) : (leS a b || leS b a) = true := by
  simp only [leS, Bool.or_eq_true, decide_eq_true_eq]; exact List.le_total a b
theorem sort_names {d : Dk} (hok : d.Ok) {ks : List (List UInt8)} (h : ks.Perm (d.files.map Fl.name)) : ks.mergeSort leS = d.files.map Fl.name := by
  have h1 : (d.files.map Fl.name).Pairwise fun a b => a ≤ b := by
    rw [List.pairwise_map]
    exact hok.rise.imp fun {f g} hlt => List.le_of_lt hlt
  have h2 := (List.mergeSort_perm ks leS).trans h
  have h3 : (ks.mergeSort leS).Pairwise fun a b => a ≤ b := (List.pairwise_mergeSort leS_trans leS_total ks).imp fun {a b} hab => by simpa [leS] using hab
  exact h2.eq_of_pairwise (le := fun a b => a ≤ b) (fun a b _ _ hab hba => List.le_antisymm hab hba) h3 h1
theorem names_sees {σ : St} {r rm : Nat} {d : Dk} {fs : List Ent} (h : DiskAt σ r d rm fs) (hok : d.Ok) :
    ∃ p σ', Does Tryd.prog prims 26 [.optr r 0] σ p σ' ∧ ∃ v q, p = .ret v ∧ rowOf σ'.objs v = some (q, (namesD d).map V.str) ∧ KS [] σ σ' ∧ ∀ x ∈ q.toList, σ.objs.length ≤ x := by
  apply k26_is.does (by simp)
  have lo : vload Tryd.prog σ.objs 4 (.optr r 2) = some (.bool (!d.on)) := by rw [vload_obj h.hd G4]; rfl
  have lm : vload Tryd.prog σ.objs 68 (.optr r 0) = some (.omap rm) := by rw [vload_obj h.hd pGM]; rfl
  cases hon : d.on with
  | false =>
    rw [hon] at lo
    have e : namesD d = [] := by simp [namesD, hon]
    simp only [k26_a, WK, vop, evAll, evOpt, evParts, vbuiltin, vun, vextract, Nat.reduceLT, Nat.reduceEqDiff, ↓reduceIte, reduceCtorEq, Nat.reduceAdd, Int.reduceLT, Int.reduceNeg, valloc_std, noSB, vhot, List.getD_cons_zero, List.getD_cons_succ, nilEP, ofNilP, eql_optr pTD, pFA r 2 (by omega), lo, Bool.not_false, e]
    exact ⟨.nils, none, rfl, rfl, KS.refl _ _, fun x hx => by cases hx⟩
  | true =>
    rw [hon] at lo
    have e : namesD d = d.files.map Fl.name := by simp [namesD, hon]
    obtain ⟨t, hk⟩ := keys_does (σ := σ) (rm := rm)
    obtain ⟨s1, hs1⟩ : ∃ s1 : St, s1 = ⟨σ.objs ++ [.tcells t [.omap rm]], σ.toks⟩ := ⟨_, rfl⟩
    rw [← hs1] at hk
    have K1 : KS [] σ s1 := by rw [hs1]; exact KS.push _ _ _
    have D1 : DiskAt s1 r d rm fs := by rw [hs1]; exact h.pushed _
    have L1 : s1.objs.length = σ.objs.length + 1 := by rw [hs1]; simp
    have hb : s1.objs[σ.objs.length]? = some (.tcells t [.omap rm]) := by rw [hs1]; exact push_new _ _
    have hperm : (fs.map fun p => p.1.name).Perm (d.files.map Fl.name) := by
      have := h.pm.map Fl.name
      rw [List.map_map] at this
      exact this
    have hsort := sort_names hok hperm
    have hnd := h.names hok
    have hlen : (fs.map fun p => p.1.name).length ≤ 16 := by rw [hperm.length_eq, List.length_map]; exact hok.few
    have hsm : ((fs.map fun p => p.1.name).all fun s => decide (s.length ≤ 140737488355328)) = true := by
      rw [List.all_eq_true]
      intro s hs
      obtain ⟨f, hf, rfl⟩ := List.mem_map.1 (hperm.mem_iff.1 hs)
      have := hok.nm f hf
      simp only [namedD, decide_eq_true_eq] at this ⊢
      omega
    have hp : ∃ v s2 q, Does Tryd.prog prims 51 [.func 72 [.optr σ.objs.length 0]] s1 (.ret v) s2 ∧ rowOf s2.objs v = some (q, (namesD d).map V.str) ∧ KS [] s1 s2 ∧ ∀ x ∈ q.toList, s1.objs.length ≤ x := by
      by_cases h0 : (fs.map fun p => p.1.name) = []
      · refine ⟨.nils, s1, none, Does.prim (by kernel_rfl) ?_, ?_, KS.refl _ _, fun x hx => by cases hx⟩
        · simp only [prims]
          rw [if_neg (by decide +kernel), if_neg (by decide +kernel), if_pos trivial]
          simp only [sortedP, hb, D1.hm, strs_ents, ↓reduceIte]
          rw [if_pos ⟨hnd, by omega, hsm⟩, if_pos h0]
        · rw [e, ← hsort, h0, List.mergeSort_nil]; rfl
      · refine ⟨.hslice s1.objs.length 0 1 (fs.map fun p => p.1.name).length, ⟨s1.objs ++ [.cells (((fs.map fun p => p.1.name).mergeSort leS).map V.str)], s1.toks⟩, some s1.objs.length, Does.prim (by kernel_rfl) ?_, ?_, KS.push _ _ _, fun x hx => by simp at hx; omega⟩
        · simp only [prims]
          rw [if_neg (by decide +kernel), if_neg (by decide +kernel), if_pos trivial]
          simp only [sortedP, hb, D1.hm, strs_ents, ↓reduceIte]
          rw [if_pos ⟨hnd, by omega, hsm⟩, if_neg h0]
        · have hl : (fs.map fun p => p.1.name).length = (((fs.map fun p => p.1.name).mergeSort leS).map V.str).length := by simp [List.length_mergeSort]
          have hpn := push_new s1.objs (.cells (((fs.map fun p => p.1.name).mergeSort leS).map V.str))
          simp only [rowOf, hpn]
          rw [if_pos (by rw [← hl]; exact Nat.le_refl _), hl, List.take_of_length_le (Nat.le_refl _), hsort, e]
    obtain ⟨v, s2, q, h1, h2, h3, h4⟩ := hp
    simp only [k26_a, WK, vop, evAll, evOpt, evParts, vbuiltin, vun, vextract, Nat.reduceLT, Nat.reduceEqDiff, ↓reduceIte, reduceCtorEq, Nat.reduceAdd, Int.reduceLT, Int.reduceNeg, valloc_std, noSB, vhot, List.getD_cons_zero, List.getD_cons_succ, nilEP, ofNilP, eql_optr pTD, pFA r 2 (by omega), pFA r 0 (by omega), lo, lm, Bool.not_true]
    refine KD.ret hk ?_
    simp only [k26_a, WK, vop, evAll, evOpt, evParts, vbuiltin, vun, vextract, Nat.reduceLT, Nat.reduceEqDiff, ↓reduceIte, reduceCtorEq, Nat.reduceAdd, Int.reduceLT, Int.reduceNeg, valloc_std, noSB, vhot]
    refine KD.ret h1 ?_
    simp only [k26_a, WK, vop, evAll, evOpt, evParts, vbuiltin, vun, vextract, Nat.reduceLT, Nat.reduceEqDiff, ↓reduceIte, reduceCtorEq, Nat.reduceAdd, Int.reduceLT, Int.reduceNeg, valloc_std, noSB, vhot]
    exact ⟨v, q, rfl, h2, K1.trans' h3, fun x hx => by have := h4 x hx; omega⟩
/-! ### The small calls -/
theorem on_does {σ : St} {r rm : Nat} {d : Dk} {fs : List Ent} (h : DiskAt σ r d rm fs) : ∃ σ', Does Tryd.prog prims 25 [.optr r 0] σ (.ret (.tuple [])) σ' ∧ Next σ r rm fs σ' { d with on := true } := by
  have key : ∃ p σ', Does Tryd.prog prims 25 [.optr r 0] σ p σ' ∧ (p = .ret (.tuple []) ∧ Next σ r rm fs σ' { d with on := true }) := by
    apply k25_is.does (by simp)
    obtain ⟨s1, hs1⟩ : ∃ s1 : St, s1 = ⟨σ.objs.set r (.cells (dcells rm { d with on := true })), σ.toks⟩ := ⟨_, rfl⟩
    have st1 : vstore Tryd.prog σ 4 (.optr r 2) (.bool false) = some s1 := by rw [vstore_obj h.hd S4 rfl (by simp [dcells]), hs1]; rfl
    obtain ⟨D1, K1⟩ := h.head (d2 := { d with on := true }) rfl hs1
    simp only [k25_a, WK, vop, evAll, evOpt, evParts, vbuiltin, vun, vextract, Nat.reduceLT, Nat.reduceEqDiff, ↓reduceIte, reduceCtorEq, Nat.reduceAdd, Int.reduceLT, Int.reduceNeg, valloc_std, noSB, vhot, List.getD_cons_zero, List.getD_cons_succ, ofNilP, neq_optr pTD, pFA r 2 (by omega), st1]
    exact ⟨fs, D1, K1, fun x hx => .inl hx⟩
  obtain ⟨p, σ', h1, rfl, h2⟩ := key
  exact ⟨σ', h1, h2⟩
theorem arm_does {σ : St} {r rm : Nat} {d : Dk} {fs : List Ent} (h : DiskAt σ r d rm fs) (n k : Int) : ∃ σ', Does Tryd.prog prims 22 [.optr r 0, .int .i64 n, .int .i64 k] σ (.ret (.tuple [])) σ' ∧ Next σ r rm fs σ' (armD n k d) := by
  have key : ∃ p σ', Does Tryd.prog prims 22 [.optr r 0, .int .i64 n, .int .i64 k] σ p σ' ∧ (p = .ret (.tuple []) ∧ Next σ r rm fs σ' (armD n k d)) := by
    apply k22_is.does (by simp)
    have hmx : vmm true (.int .i64 n) (.int .i64 0) = some (.int .i64 (n.toNat : Nat)) := by
      simp only [vmm, ↓reduceIte]
      congr 2
      split <;> omega
    obtain ⟨s1, hs1⟩ : ∃ s1 : St, s1 = ⟨σ.objs.set r (.cells (dcells rm { d with armed := n.toNat })), σ.toks⟩ := ⟨_, rfl⟩
    have st1 : vstore Tryd.prog σ 3 (.optr r 4) (.int .i64 (n.toNat : Nat)) = some s1 := by rw [vstore_obj h.hd S3 rfl (by simp [dcells]), hs1]; rfl
    obtain ⟨D1, K1⟩ := h.head (d2 := { d with armed := n.toNat }) rfl hs1
    obtain ⟨s2, hs2⟩ : ∃ s2 : St, s2 = ⟨s1.objs.set r (.cells (dcells rm (armD n k d))), s1.toks⟩ := ⟨_, rfl⟩
    have st2 : vstore Tryd.prog s1 3 (.optr r 5) (.int .i64 k) = some s2 := by rw [vstore_obj D1.hd S3 rfl (by simp [dcells]), hs2]; rfl
    obtain ⟨D2, K2⟩ := D1.head (d2 := armD n k d) rfl hs2
    simp only [k22_a, WK, vop, evAll, evOpt, evParts, vbuiltin, vun, vextract, Nat.reduceLT, Nat.reduceEqDiff, ↓reduceIte, reduceCtorEq, Nat.reduceAdd, Int.reduceLT, Int.reduceNeg, valloc_std, noSB, vhot, List.getD_cons_zero, List.getD_cons_succ, ofNilP, neq_optr pTD, pFA r 4 (by omega), pFA r 5 (by omega), hmx, st1, st2]
    exact ⟨fs, D2, K1.trans' K2, fun x hx => .inl hx⟩
  obtain ⟨p, σ', h1, rfl, h2⟩ := key
  exact ⟨σ', h1, h2⟩
theorem down_does {σ : St} {r rm : Nat} {d : Dk} {fs : List Ent} (h : DiskAt σ r d rm fs) : Does Tryd.prog prims 23 [.optr r 0] σ (.ret (.bool (!d.on))) σ := by
  apply k23_is.ret (by simp)
  have lo : vload Tryd.prog σ.objs 4 (.optr r 2) = some (.bool (!d.on)) := by rw [vload_obj h.hd G4]; rfl
  simp only [k23_a, WK, vop, evAll, evOpt, evParts, vbuiltin, vun, vextract, Nat.reduceLT, Nat.reduceEqDiff, ↓reduceIte, reduceCtorEq, Nat.reduceAdd, Int.reduceLT, Int.reduceNeg, valloc_std, noSB, vhot, List.getD_cons_zero, List.getD_cons_succ, ofNilP, neq_optr pTD, pFA r 2 (by omega), lo]
def newD (n : Int) : Dk := ⟨[], n, true, 0, 0, 0⟩
theorem newdisk_does (σ : St) (n : Int) : ∃ σ' r rm, Does Tryd.prog prims 19 [.int .i64 n] σ (.ret (.optr r 0)) σ' ∧ DiskAt σ' r (newD n) rm [] ∧ KS [] σ σ' ∧ ∀ x ∈ foot r rm [], σ.objs.length ≤ x := by
  have key : ∃ p σ', Does Tryd.prog prims 19 [.int .i64 n] σ p σ' ∧ ∃ r rm, p = .ret (.optr r 0) ∧ DiskAt σ' r (newD n) rm [] ∧ KS [] σ σ' ∧ ∀ x ∈ foot r rm [], σ.objs.length ≤ x := by
    apply k19_is.does (by simp)
    have hb : ∀ m : Nat, vbuild Tryd.prog 70 [(0, .omap m), (1, .int .i64 n)] = some (.agg [.omap m, .int .i64 n, .bool false, .int .i64 0, .int .i64 0, .int .i64 0]) := fun m => by kernel_rfl
    simp only [k19_a, WK, vop, evAll, evOpt, evParts, vbuiltin, vun, vextract, Nat.reduceLT, Nat.reduceEqDiff, ↓reduceIte, reduceCtorEq, Nat.reduceAdd, Int.reduceLT, Int.reduceNeg, valloc_std, noSB, vhot, List.getD_cons_zero, List.getD_cons_succ, ofNilP, vmakeMap, hb, vbox, vcells]
    refine ⟨σ.objs.length + 1, σ.objs.length, by simp, ⟨?_, ?_, fun p hp => (by cases hp), by simp [foot], by simp [newD]⟩, (KS.push [] σ (.mp [])).trans' (KS.push [] ⟨σ.objs ++ [.mp []], σ.toks⟩ _), fun x hx => by simp [foot] at hx; omega⟩
    · have := push_new (σ.objs ++ [Ob.mp []]) (.cells (dcells σ.objs.length (newD n)))
      simp only [List.length_append, List.length_cons, List.length_nil, Nat.zero_add] at this
      exact this
    · simp only
      rw [List.getElem?_append_left (by simp)]
      exact push_new _ _
  obtain ⟨p, σ', h1, r, rm, rfl, h2⟩ := key
  exact ⟨σ', r, rm, h1, h2⟩
theorem newD_ok {n : Int} (h : InI64 n) : (newD n).Ok := ⟨by simp [newD], fun f hf => (by cases hf), by simp [newD], fun f hf => (by cases hf), by simp [newD], h, by unfold InI64; simp [newD]⟩
end Go.Proofs.YtnegdinonfjdfaaDoor.Q

/- Rows, written or not. -/
set_option linter.unusedVariables false
set_option linter.unusedSimpArgs false
set_option maxRecDepth 100000
namespace Go.Proofs.YtnegdinonfjdfaaDoor.Q
open Go Go.RowKit Go.Proofs
/-- w is a row of n elements of k cells each; it may be a part of an object. -/
def RowS (σ : St) (k : Nat) (w : V) (cs : List V) (n : Nat) : Prop := RowV k w cs n ∨ (cs.length = n * k ∧ ∃ r off c, w = .hslice r off k n ∧ σ.objs[r]? = some (.cells c) ∧ off + n * k ≤ c.length ∧ (c.drop off).take (n * k) = cs)
section
variable {σ : St} {k n : Nat} {w : V} {cs : List V}
theorem RowS.keep {σ' : St} (h : RowS σ k w cs n) (hk : Keep σ σ') : RowS σ' k w cs n := by
  rcases h with h | ⟨h0, r, off, c, h1, h2, h3⟩
  · exact .inl h
  · exact .inr ⟨h0, r, off, c, h1, hk.1 _ _ h2, h3⟩
theorem RowS.size (h : RowS σ k w cs n) : cs.length = n * k := by
  rcases h with h | ⟨h0, _⟩
  · exact h.1
  · exact h0
theorem RowS.one (h : RowS σ k w cs n) : one w = true := by
  rcases h with h | ⟨h0, r, off, c, rfl, _⟩
  · exact h.one
  · rfl
theorem RowS.len (h : RowS σ k w cs n) {t e : TypeId} (ht : Tryd.prog.underlying t = some (.slice e)) : vlen Tryd.prog t w = some (.int .i64 (n : Nat)) := by
  rcases h with h | ⟨h0, r, off, c, rfl, _⟩
  · exact h.len ht
  · simp [vlen, ht]
/-- The place of an element: what may be read there. -/
def At (σ : St) (p : V) (c : List V) : Prop := (∃ cs o, p = .eptr cs o ∧ o + c.length ≤ cs.length ∧ (cs.drop o).take c.length = c) ∨ ∃ r o cs, p = .optr r o ∧ σ.objs[r]? = some (.cells cs) ∧ o + c.length ≤ cs.length ∧ (cs.drop o).take c.length = c
theorem RowS.at (h : RowS σ k w cs n) {t e : TypeId} (ht : Tryd.prog.underlying t = some (.slice e)) (hs : sizeT Tryd.prog e = some k) (hk : 0 < k) {i : Nat} (hi : i < n) {kk : IntKind} :
    ∃ p, vindexAddr Tryd.prog t w (.int kk (i : Int)) = some p ∧ At σ p ((cs.drop (i * k)).take k) := by
  have hsz := h.size
  have hle : i * k + k ≤ n * k := by
    have : (i + 1) * k ≤ n * k := Nat.mul_le_mul_right k hi
    rwa [Nat.add_mul, Nat.one_mul] at this
  have hpl : ((cs.drop (i * k)).take k).length = k := by rw [List.length_take, List.length_drop]; omega
  rcases h with h | ⟨h0, r, off, c, rfl, h2, h3, h4⟩
  · refine ⟨_, RowV.addr h ht hs hk (kk := kk) (i := (i : Int)) (by omega) (by omega), .inl ⟨cs, i * k, by rw [Int.toNat_natCast], by rw [hpl]; omega, by rw [hpl]⟩⟩
  · have hi' : (i : Int) < n := by omega
    refine ⟨.optr r (off + i * k), by simp [vindexAddr, ht, hs, hi'], .inr ⟨r, _, c, rfl, h2, by rw [hpl]; omega, ?_⟩⟩
    rw [hpl, ← h4, List.drop_take, List.drop_drop, List.take_take]
    congr 1
    omega
theorem At.keep {σ' : St} {p : V} {c : List V} (h : At σ p c) (hk : Keep σ σ') : At σ' p c := by
  rcases h with h | ⟨r, o, cs, h1, h2, h3⟩
  · exact .inl h
  · exact .inr ⟨r, o, cs, h1, hk.1 _ _ h2, h3⟩
theorem At.load {p : V} {c : List V} (h : At σ p c) {e : TypeId} (ha : isAggT Tryd.prog e = some true) (hs : sizeT Tryd.prog e = some c.length) : vload Tryd.prog σ.objs e p = some (.agg c) := by
  rcases h with ⟨cs, o, rfl, h1, h2⟩ | ⟨r, o, cs, rfl, hr, h1, h2⟩
  · simp only [vload, vcellsAt, vpart, ha, hs, if_pos h1, h2]
  · simp only [vload, vcellsAt, hr, vpart, ha, hs, if_pos h1, h2]
theorem At.load1 {p : V} {v : V} (h : At σ p [v]) {e : TypeId} (ha : isAggT Tryd.prog e = some false) : vload Tryd.prog σ.objs e p = some v := by
  have key : ∀ (cs : List V) (o : Nat), o + 1 ≤ cs.length → (cs.drop o).take 1 = [v] → cs[o]? = some v := by
    intro cs o h1 h2
    have := congrArg (·[0]?) h2
    simpa using this
  rcases h with ⟨cs, o, rfl, h1, h2⟩ | ⟨r, o, cs, rfl, hr, h1, h2⟩
  · simp only [vload, vcellsAt, vpart, ha]; exact key cs o h1 h2
  · simp only [vload, vcellsAt, hr, vpart, ha]; exact key cs o h1 h2
/-- A cell of what lies there. -/
theorem At.part {p : V} {c : List V} (h : At σ p c) {j m : Nat} (hj : j + m ≤ c.length) : ∃ p', (∀ (e : TypeId) (f : Nat), (∀ q o, vfieldAddr Tryd.prog e (.optr q o) f = some (.optr q (o + j))) → (∀ cs o, vfieldAddr Tryd.prog e (.eptr cs o) f = some (.eptr cs (o + j))) → vfieldAddr Tryd.prog e p f = some p') ∧ At σ p' ((c.drop j).take m) := by
  have hpl : ((c.drop j).take m).length = m := by rw [List.length_take, List.length_drop]; omega
  have cut : ∀ (cs : List V) (o : Nat), o + c.length ≤ cs.length → (cs.drop o).take c.length = c → (cs.drop (o + j)).take m = (c.drop j).take m := by
    intro cs o h1 h2
    have h3 : c.drop j = ((cs.drop o).take c.length).drop j := by rw [h2]
    rw [h3, List.drop_take, List.drop_drop, List.take_take]
    congr 1
    omega
  rcases h with ⟨cs, o, rfl, h1, h2⟩ | ⟨r, o, cs, rfl, hr, h1, h2⟩
  · exact ⟨.eptr cs (o + j), fun e f _ h => h cs o, .inl ⟨cs, o + j, rfl, by rw [hpl]; omega, by rw [hpl]; exact cut cs o h1 h2⟩⟩
  · exact ⟨.optr r (o + j), fun e f h _ => h r o, .inr ⟨r, o + j, cs, rfl, hr, by rw [hpl]; omega, by rw [hpl]; exact cut cs o h1 h2⟩⟩
end
end Go.Proofs.YtnegdinonfjdfaaDoor.Q

/- The disk's plain facts, for other laws. -/
set_option linter.unusedVariables false
set_option linter.unusedSimpArgs false
set_option maxRecDepth 100000
namespace Go.Proofs.YtnegdinonfjdfaaDoor.Q
open Go Go.RowKit Go.Proofs
theorem off_writes (k : Int) (d : Dk) : (offD k d).writes = d.writes := by unfold offD; split <;> rfl
theorem goes_ok {d : Dk} (h : d.Ok) (k : Int) : (offD k (rawD d).2).Ok := h.raw.off k
theorem append_ok {n b : List UInt8} {d : Dk} (h : d.Ok) : (appendD n b d).2.Ok ∧ (appendD n b d).2.writes ≤ d.writes + 1 := by
  unfold appendD
  split
  · exact ⟨h, by simp⟩
  · rename_i hr
    have hr0 : readyD d n = 0 := Classical.byContradiction hr
    have hn := (readyD_named hr0).1
    simp only
    split
    · exact ⟨h, by simp⟩
    · rename_i hl
      split
      · exact ⟨h, by simp⟩
      · rename_i hf
        have ok2 : ({ d with files := putF ⟨n, ((getF d.files n).getD ⟨n, [], []⟩).safe, ((getF d.files n).getD ⟨n, [], []⟩).wait ++ b⟩ d.files } : Dk).Ok := by
          refine h.put hn ?_ fun hno => ?_
          · simp only [Fl.len, List.length_append] at hl ⊢; omega
          · have : ¬ 16 ≤ d.files.length := fun h1 => hf (.inl ⟨hno, h1⟩)
            omega
        have rf := raw_files { d with files := putF ⟨n, ((getF d.files n).getD ⟨n, [], []⟩).safe, ((getF d.files n).getD ⟨n, [], []⟩).wait ++ b⟩ d.files }
        split
        · exact ⟨goes_ok ok2 _, by rw [off_writes, rf.2.2.2.2]; simp⟩
        · exact ⟨ok2.raw, by rw [rf.2.2.2.2]; simp⟩
theorem put_same {d : Dk} (h : d.Ok) {n : List UInt8} (ht : thereD d n = 0) {s w : List UInt8} (hl : s.length + w.length ≤ 1048576) : ({ (rawD d).2 with files := putF ⟨n, s, w⟩ d.files } : Dk).Ok := by
  obtain ⟨hr, f, hg⟩ := thereD_zero ht
  have h1 : ({ (rawD d).2 with files := putF ⟨n, s, w⟩ (rawD d).2.files } : Dk).Ok := h.raw.put (readyD_named hr).1 (by simp only [Fl.len]; omega) fun hno => by
    rw [(raw_files d).1, hg] at hno; cases hno
  rw [(raw_files d).1] at h1
  exact h1
theorem raw_w (d : Dk) : (rawD d).2.writes = d.writes + 1 := (raw_files d).2.2.2.2
theorem sync_ok {n : List UInt8} {d : Dk} (h : d.Ok) : (syncD n d).2.Ok ∧ (syncD n d).2.writes ≤ d.writes + 1 := by
  unfold syncD
  split
  · exact ⟨h, by simp⟩
  · rename_i ht
    have ht0 : thereD d n = 0 := Classical.byContradiction ht
    obtain ⟨hr, f, hg⟩ := thereD_zero ht0
    have hl := (h.get hg).2.2.2
    split
    · exact ⟨goes_ok h _, by rw [off_writes, raw_w]; simp⟩
    · simp only [hg, Option.getD_some]
      exact ⟨put_same h ht0 (by simpa [Fl.len] using hl), by rw [raw_w]; simp⟩
theorem rename_ok {n m : List UInt8} {d : Dk} (h : d.Ok) : (renameD n m d).2.Ok ∧ (renameD n m d).2.writes ≤ d.writes + 1 := by
  unfold renameD
  split
  · exact ⟨h, by simp⟩
  · rename_i hnm
    split
    · exact ⟨h, by simp⟩
    · rename_i ht
      have ht0 : thereD d n = 0 := Classical.byContradiction ht
      obtain ⟨hr, f, hg⟩ := thereD_zero ht0
      have hl := (h.get hg).2.2.2
      split
      · exact ⟨goes_ok h _, by rw [off_writes, raw_w]; simp⟩
      · simp only [hg, Option.getD_some]
        have hm : namedD m = true := by
          cases hm : namedD m with
          | true => rfl
          | false => exact absurd (.inr hm) hnm
        have ok1 : ({ (rawD d).2 with files := dropF n d.files } : Dk).Ok := by
          have := h.raw.drop n
          rw [(raw_files d).1] at this
          exact this
        have hlen : (dropF n d.files).length < 16 := by
          have hf := h.few
          have hmem := (getF_some hg)
          have : (dropF n d.files).length < d.files.length := by
            unfold dropF
            exact List.length_filter_lt_length_iff_exists.2 ⟨f, hmem.1, by simp [hmem.2]⟩
          omega
        exact ⟨ok1.put hm (by simpa [Fl.len] using hl) fun _ => hlen, by rw [raw_w]; simp⟩
theorem remove_ok {n : List UInt8} {d : Dk} (h : d.Ok) : (removeD n d).2.Ok ∧ (removeD n d).2.writes ≤ d.writes + 1 := by
  unfold removeD
  split
  · exact ⟨h, by simp⟩
  · split
    · exact ⟨goes_ok h _, by rw [off_writes, raw_w]; simp⟩
    · have := h.raw.drop n
      rw [(raw_files d).1] at this
      exact ⟨this, by rw [raw_w]; simp⟩
theorem KS.nils {S : List Nat} {σ σ' : St} (h : KS [] σ σ') : KS S σ σ' := h.mono fun x hx => by cases hx
theorem DiskAt.pushes {σ σ' : St} {r rm : Nat} {d : Dk} {fs : List Ent} (h : DiskAt σ r d rm fs) (hk : KS [] σ σ') : DiskAt σ' r d rm fs := h.keep hk fun x _ => by simp
theorem readD_len {d : Dk} (hok : d.Ok) (n : List UInt8) : (readD n d).2.length ≤ 1048576 := by
  unfold readD
  split
  · simp
  · rename_i ht
    have ht0 : thereD d n = 0 := Classical.byContradiction ht
    obtain ⟨hr, f, hg⟩ := thereD_zero ht0
    have := (hok.get hg).2.2.2
    simp only [hg, Option.getD_some, List.length_append, Fl.len] at this ⊢
    exact this
theorem namesD_len {d : Dk} (hok : d.Ok) : (namesD d).length ≤ 16 := by
  have := hok.few
  unfold namesD
  split <;> simp
  omega
theorem TSS : Tryd.prog.underlying 43 = some (.slice 9) := by kernel_rfl
theorem SS9 : sizeT Tryd.prog 9 = some 1 := by kernel_rfl
theorem row_strs {σ : St} {v : V} {q : Option Nat} {l : List (List UInt8)} (h : rowOf σ.objs v = some (q, l.map V.str)) : RowS σ 1 v (l.map V.str) l.length := by
  rcases rowOf_spec h with ⟨rfl, rfl, h0⟩ | ⟨r, full, rfl, rfl, hr, hl, hc⟩
  · refine .inl ⟨by simp, .inl ⟨rfl, ?_⟩⟩
    have := congrArg List.length h0
    simpa using this
  · simp only [List.length_map] at hl hc ⊢
    exact .inr ⟨by simp, r, 0, full, rfl, hr, by omega, by rw [List.drop_zero, Nat.mul_one]; exact hc.symm⟩
theorem RowS.strAt {σ : St} {v : V} {l : List (List UInt8)} (h : RowS σ 1 v (l.map V.str) l.length) {i : Nat} (hi : i < l.length) : ∃ p, vindexAddr Tryd.prog 43 v (.int .i64 (i : Int)) = some p ∧ ∀ σ', KS [] σ σ' → vload Tryd.prog σ'.objs 9 p = some (.str l[i]) := by
  obtain ⟨p, h1, h2⟩ := h.at TSS SS9 (by omega) (i := i) (by simpa using hi) (kk := .i64)
  refine ⟨p, h1, fun σ' hk => ?_⟩
  have e : ((l.map V.str).drop (i * 1)).take 1 = [V.str l[i]] := by
    rw [Nat.mul_one, List.drop_eq_getElem_cons (by simpa using hi)]
    simp
  rw [e] at h2
  exact (h2.keep hk.keep).load1 G9
theorem sizeD_cons (f : Fl) (l : List Fl) : sizeD (f :: l) = f.len + sizeD l := by simp [sizeD]
theorem readyD_yes {d : Dk} {n : List UInt8} (h : namedD n = true) (ho : d.on = true) : readyD d n = 0 := by
  unfold readyD; rw [if_neg (by simp [h]), if_neg (by simp [ho])]
theorem DiskAt.objs {σ σ' : St} {r rm : Nat} {d : Dk} {fs : List Ent} (h : DiskAt σ r d rm fs) (e : σ'.objs = σ.objs) : DiskAt σ' r d rm fs := ⟨by rw [e]; exact h.hd, by rw [e]; exact h.hm, by rw [e]; exact h.hf, h.nd, h.pm⟩
theorem OwnV.toks {e m : Nat} {σ σ' : St} {v : V} {bs : List UInt8} (h : OwnV e m σ v bs) (hk : ∀ k, tokLive σ.toks k = true → tokLive σ'.toks k = true) : OwnV e m σ' v bs := (h.toR.keep hk).toV
def Free (q : Option Nat) (F : List Nat) : Prop := ∀ x ∈ q.toList, x ∉ F
theorem Free.step {q : Option Nat} {F F' : List Nat} {n : Nat} (h : Free q F) (hl : ∀ x ∈ q.toList, x < n) (hF : ∀ x ∈ F', x ∈ F ∨ n ≤ x) : Free q F' := fun x hx hx2 => by
  rcases hF x hx2 with h1 | h1
  · exact h x hx h1
  · have := hl x hx; omega
theorem Free.low {q : Option Nat} {F : List Nat} {n : Nat} (hl : ∀ x ∈ q.toList, x < n) (hF : ∀ x ∈ F, n ≤ x) : Free q F := fun x hx hx2 => by
  have := hl x hx; have := hF x hx2; omega
theorem Free.high {q : Option Nat} {F : List Nat} {n : Nat} (hl : ∀ x ∈ q.toList, n ≤ x) (hF : ∀ x ∈ F, x < n) : Free q F := fun x hx hx2 => by
  have := hl x hx; have := hF x hx2; omega
theorem rowOf_free {σ σ' : St} {v : V} {q : Option Nat} {cs : List V} {F : List Nat} (h : rowOf σ.objs v = some (q, cs)) (hf : Free q F) (hk : KS F σ σ') : rowOf σ'.objs v = some (q, cs) := rowOf_frame h fun x hx o ho => hk.ko _ _ (hf x hx) ho
theorem bts_VT {k : Nat} {cs : List V} (h : VT Tryd.prog k 22 cs) : ∃ w bs, cs = [w] ∧ BtsV w bs := by
  obtain ⟨k', hc⟩ := VT_slice T22 h
  rcases hc with rfl | ⟨vs, len, rfl, h1, h2, h3⟩
  · exact ⟨.nils, [], rfl, .inl ⟨rfl, rfl⟩⟩
  · rw [C5] at h1 h3
    obtain ⟨l, rfl, hl, _⟩ := rows_of (f := fun b : UInt8 => [byteV b]) (R := fun _ => True) len vs h1 fun i hi => by
      obtain ⟨n, e, hw⟩ := VT_int T5 (h3 i hi)
      exact ⟨_, by rw [e, byteV_of hw], trivial⟩
    subst hl
    have e : l.flatMap (fun b : UInt8 => [byteV b]) = l.map byteV := by rw [List.map_eq_flatMap]
    refine ⟨_, l, rfl, .inr ⟨.ro, ?_⟩⟩
    rw [C5, e]
theorem bts_bulk {v : V} {bs : List UInt8} (h : BtsV v bs) : bs.length ≤ vbulk v := by
  rcases h with ⟨rfl, rfl⟩ | ⟨p, rfl⟩
  · simp
  · have := vbulks_len (bs.map byteV)
    simp only [vbulk, List.length_map] at this ⊢
    omega
abbrev BV := V × List UInt8
theorem CBB : Tryd.prog.cellsOf 22 = 1 := by kernel_rfl
theorem SBs : sizeT Tryd.prog 22 = some 1 := pSB
/-- A row of rows of bytes. -/
def PtsV (w : V) (l : List BV) : Prop := RowV 1 w (l.map Prod.fst) l.length
theorem pts_arg {x : V} (h : ArgT Tryd.prog 37 x) : ∃ l : List BV, PtsV x l ∧ (∀ p ∈ l, BtsV p.1 p.2 ∧ p.2.length ≤ vbulk x) ∧ l.length ≤ vbulk x := by
  obtain ⟨k, hv⟩ : ∃ k, VT Tryd.prog k 37 [x] := by
    unfold ArgT at h
    rw [TBB] at h
    exact h
  obtain ⟨k', hc⟩ := VT_slice TBB hv
  rcases hc with hc | ⟨vs, len, hc, h1, h2, h3⟩
  · injection hc with hc
    subst hc
    exact ⟨[], ⟨rfl, .inl ⟨rfl, rfl⟩⟩, fun o ho => (by cases ho), by simp⟩
  · injection hc with hc
    subst hc
    rw [CBB] at h1 h3 ⊢
    obtain ⟨l, rfl, hl, hR⟩ := rows_of (f := fun p : BV => [p.1]) (R := fun p : BV => BtsV p.1 p.2) len vs h1 fun i hi => by
      obtain ⟨w, bs, e, hb⟩ := bts_VT (h3 i hi)
      exact ⟨(w, bs), e, hb⟩
    subst hl
    have e : l.flatMap (fun p : BV => [p.1]) = l.map Prod.fst := by rw [List.map_eq_flatMap]
    have hbl := bulk_len (f := fun p : BV => [p.1]) (k := 1) (fun _ => rfl) (by omega) l
    refine ⟨l, ⟨by simp, .inr ⟨.ro, by rw [e]⟩⟩, fun p hp => ⟨hR p hp, ?_⟩, ?_⟩
    · have h4 := bulk_mem (f := fun p : BV => [p.1]) hp
      have h5 := bts_bulk (hR p hp)
      simp only [vbulks] at h4
      simp only [vbulk]
      omega
    · simp only [vbulk]; omega
theorem PtsV.len {v : V} {l : List BV} (h : PtsV v l) : vlen Tryd.prog 37 v = some (.int .i64 l.length) := RowV.len h TBB
theorem PtsV.addr {v : V} {l : List BV} (h : PtsV v l) {i : Nat} (hi : i < l.length) : vindexAddr Tryd.prog 37 v (.int .i64 i) = some (.eptr (l.map Prod.fst) i) := by
  have := RowV.addr h TBB SBs (by omega) (kk := .i64) (i := i) (by omega) (by omega)
  rwa [Int.toNat_natCast, Nat.mul_one] at this
theorem PtsV.load {l : List BV} {i : Nat} (hi : i < l.length) {objs : List Ob} : vload Tryd.prog objs 22 (.eptr (l.map Prod.fst) i) = some l[i].1 := by
  simp [vload, vcellsAt, vpart, pGB, hi]
end Go.Proofs.YtnegdinonfjdfaaDoor.Q

/- The sum, and names with numbers: of the program and of the document. -/
set_option linter.unusedVariables false
set_option linter.unusedSimpArgs false
set_option maxRecDepth 100000
namespace Go.Proofs.YtnegdinonfjdfaaDoor.Q
open Go Go.RowKit Go.Proofs
/-! ### The sum -/
theorem crcadd_does {σ : St} {v : V} {bs : List UInt8} (r : BitVec 32) (h : BtsV v bs) (hl : bs.length ≤ 1000000000) : Does Tryd.prog prims 59 [.int .u32 ((r.toNat : Nat) : Int), v] σ (.ret (uV (crcAdd r bs))) σ := by
  refine Does.prim (by kernel_rfl) ?_
  simp only [prims]
  rw [if_neg (by decide +kernel), if_neg (by decide +kernel), if_neg (by decide +kernel), if_pos trivial]
  simp only [crcP', bts_vbytesC h, ofInt_toNat]
  rw [if_pos ⟨trivial, hl⟩]
theorem crcsum_does {σ : St} {v : V} {bs : List UInt8} (h : BtsV v bs) (hl : bs.length ≤ 1000000000) : Does Tryd.prog prims 41 [v] σ (.ret (uV (crcSum bs))) σ := by
  apply k41_is.ret (by simp)
  simp only [k41_a, WK, vop, evAll, evOpt, evParts, vbuiltin, vun, vextract, Nat.reduceLT, Nat.reduceEqDiff, ↓reduceIte, reduceCtorEq, Nat.reduceAdd, Int.reduceLT, Int.reduceNeg, valloc_std, noSB, vhot, List.getD_cons_zero]
  refine KD.ret (crcadd_does 0#32 h hl) ?_
  simp only [k41_a, WK, vop, evAll, evOpt, evParts, vbuiltin, vun, vextract, Nat.reduceLT, Nat.reduceEqDiff, ↓reduceIte, reduceCtorEq, Nat.reduceAdd, Int.reduceLT, Int.reduceNeg, valloc_std, noSB, vhot]
  rfl
def steps : Nat → BitVec 32 → BitVec 32
  | 0, r => r
  | k + 1, r => step1 (steps k r)
end Go.Proofs.YtnegdinonfjdfaaDoor.Q

/- Names with numbers: of the program and of the document (printed by snname.py). -/
set_option linter.unusedVariables false
set_option linter.unusedSimpArgs false
set_option maxRecDepth 100000
namespace Go.Proofs.YtnegdinonfjdfaaDoor.Q
open Go Go.RowKit Go.Proofs
theorem sbA {a b : List UInt8} (h : a.length + b.length ≤ 9223372036854775807) : strBin .add a b = some (.str (a ++ b)) := by simp only [strBin]; rw [if_pos h]
theorem vlenS (l : List UInt8) : vlen Tryd.prog 9 (.str l) = some (.int .i64 (l.length : Nat)) := by simp [vlen, T9]
theorem conv_str {v : V} {bs : List UInt8} (h : BtsV v bs) : vconv Tryd.prog 22 9 v = some (.str bs) := by
  have hu : isU8 Tryd.prog 5 = true := by kernel_rfl
  have hb : ∀ l : List UInt8, bytesOf' (l.map byteV) = some l := by
    intro l
    induction l with
    | nil => rfl
    | cons b l ih =>
      have : byteOf1 (byteV b) = some b := by simp [byteOf1, byteV]
      simp only [List.map_cons, bytesOf', this, ih]
  rcases h with ⟨rfl, rfl⟩ | ⟨p, rfl⟩
  · simp [vconv, T22, T9, hu]
  · simp [vconv, T22, T9, hu, hb]
theorem itoa_does {σ : St} {m : Nat} (h : m ≤ 999999999) : Does Tryd.prog prims 43 [.int .i64 (m : Nat)] σ (.ret (.str (digK (wid m) m))) σ := by
  refine Does.prim (by kernel_rfl) ?_
  simp only [prims]
  rw [if_neg (by decide +kernel), if_neg (by decide +kernel), if_neg (by decide +kernel), if_neg (by decide +kernel), if_pos trivial]
  simp only [itoaP, Int.toNat_natCast]
  rw [if_pos (by omega)]
theorem atoi_none {σ : St} {s : List UInt8} (hl : s.length ≤ 18) (h : Lib.atoi s = none) : Does Tryd.prog prims 69 [.str s] σ (.ret (.tuple [.int .i64 0, .iface 119 (.optr σ.objs.length 0)])) ⟨σ.objs ++ [.cells []], σ.toks⟩ := by
  refine Does.prim (by kernel_rfl) ?_
  simp only [prims]
  rw [if_neg (by decide +kernel), if_neg (by decide +kernel), if_neg (by decide +kernel), if_neg (by decide +kernel), if_neg (by decide +kernel), if_pos trivial]
  simp only [atoiP]
  rw [if_pos hl, h]
theorem atoi_some {σ : St} {s : List UInt8} {n : Int} (hl : s.length ≤ 18) (h : Lib.atoi s = some n) : Does Tryd.prog prims 69 [.str s] σ (.ret (.tuple [.int .i64 n, .nili])) σ := by
  refine Does.prim (by kernel_rfl) ?_
  simp only [prims]
  rw [if_neg (by decide +kernel), if_neg (by decide +kernel), if_neg (by decide +kernel), if_neg (by decide +kernel), if_neg (by decide +kernel), if_pos trivial]
  simp only [atoiP]
  rw [if_pos hl, h]
theorem sname_does {σ : St} (n : Int) : Does Tryd.prog prims 14 [.int .i64 n] σ (.ret (.str (nameP 115 0 n))) σ := by
  apply k14_is.ret (by simp)
  have oe : ofVal (Value.string { data := #[] }) = some (.str []) := rfl
  have o0 : ofVal (Value.string { data := #[48] }) = some (.str [48]) := rfl
  have oc : ofVal (Value.string { data := #[115] }) = some (.str [115]) := rfl
  by_cases h0 : n < 0
  · simp only [k14_a, WK, vop, evAll, evOpt, evParts, vbuiltin, vun, vextract, Nat.reduceLT, Nat.reduceEqDiff, ↓reduceIte, reduceCtorEq, Nat.reduceAdd, Int.reduceLT, Int.reduceNeg, valloc_std, noSB, vhot, List.getD_cons_zero, h0, decide_true, oe]
    unfold nameP
    rw [if_pos (.inl h0)]
  by_cases h1 : 999999999 < n
  · simp only [k14_a, WK, vop, evAll, evOpt, evParts, vbuiltin, vun, vextract, Nat.reduceLT, Nat.reduceEqDiff, ↓reduceIte, reduceCtorEq, Nat.reduceAdd, Int.reduceLT, Int.reduceNeg, valloc_std, noSB, vhot, List.getD_cons_zero, h0, h1, decide_true, decide_false, oe]
    unfold nameP
    rw [if_pos (.inr h1)]
  obtain ⟨m, rfl⟩ : ∃ m : Nat, n = (m : Int) := ⟨n.toNat, by omega⟩
  obtain ⟨w1, w2, w3, w4⟩ := wid_ok (n := m) (by omega)
  have hnm : nameP 115 0 (m : Int) = 115 :: digK 9 m := by
    unfold nameP
    rw [if_neg (by omega), Int.toNat_natCast]
  simp only [k14_a, WK, vop, evAll, evOpt, evParts, vbuiltin, vun, vextract, Nat.reduceLT, Nat.reduceEqDiff, ↓reduceIte, reduceCtorEq, Nat.reduceAdd, Int.reduceLT, Int.reduceNeg, valloc_std, noSB, vhot, List.getD_cons_zero, h0, h1, decide_false, oe]
  refine KD.ret (itoa_does (by omega)) ?_
  simp only [k14_a, WK, vop, evAll, evOpt, evParts, vbuiltin, vun, vextract, Nat.reduceLT, Nat.reduceEqDiff, ↓reduceIte, reduceCtorEq, Nat.reduceAdd, Int.reduceLT, Int.reduceNeg, valloc_std, noSB, vhot]
  refine Ev.loopF (fun (k : Nat) e s => e 3 = .str (digK k m) ∧ m < 10 ^ k ∧ k ≤ 9 ∧ s = σ) (fun k => 9 - k) (wid m) ?_ ?_
  · exact ⟨by simp [upd_some], w3, w1, rfl⟩
  rintro k e s ⟨h3, hm, hk, rfl⟩ hf
  clear hf
  have hl := vlenS (digK k m)
  rw [digK_len] at hl
  by_cases hlt : k < 9
  · have hlt' : (k : Int) < 9 := by omega
    have ha : strBin .add [48] (digK k m) = some (.str (digK (k + 1) m)) := by
      rw [sbA (by rw [digK_len]; simp; omega), digK_zero hm]; rfl
    simp only [k14_a, WK, vop, evAll, evOpt, evParts, vbuiltin, vun, vextract, Nat.reduceLT, Nat.reduceEqDiff, ↓reduceIte, reduceCtorEq, Nat.reduceAdd, Int.reduceLT, Int.reduceNeg, valloc_std, noSB, vhot, h3, hl, hlt', decide_true, o0, ha]
    exact ⟨k + 1, ⟨by simp [upd_some], by rw [Nat.pow_succ]; omega, by omega⟩, by omega⟩
  · have hlt' : ¬ (k : Int) < 9 := by omega
    have hk9 : k = 9 := by omega
    subst hk9
    have ha : strBin .add [115] (digK 9 m) = some (.str (115 :: digK 9 m)) := by
      rw [sbA (by rw [digK_len]; simp)]; rfl
    simp only [k14_a, WK, vop, evAll, evOpt, evParts, vbuiltin, vun, vextract, Nat.reduceLT, Nat.reduceEqDiff, ↓reduceIte, reduceCtorEq, Nat.reduceAdd, Int.reduceLT, Int.reduceNeg, valloc_std, noSB, vhot, h3, hl, hlt', decide_false, oc, ha, hnm]
end Go.Proofs.YtnegdinonfjdfaaDoor.Q

/- Snapshots' bytes, plainly. -/
set_option linter.unusedVariables false
set_option linter.unusedSimpArgs false
namespace Go.Proofs.YtnegdinonfjdfaaDoor.Q
open Go Go.RowKit Go.Proofs
def fourB (r : BitVec 32) : List UInt8 := [UInt8.ofNat r.toNat, UInt8.ofNat (r >>> 8).toNat, UInt8.ofNat (r >>> 16).toNat, UInt8.ofNat (r >>> 24).toNat]
def w4 (b : List UInt8) (i : Nat) : BitVec 32 := BitVec.ofNat 32 (b.getD i 0).toNat ||| (BitVec.ofNat 32 (b.getD (i + 1) 0).toNat <<< 8) ||| (BitVec.ofNat 32 (b.getD (i + 2) 0).toNat <<< 16) ||| (BitVec.ofNat 32 (b.getD (i + 3) 0).toNat <<< 24)
theorem shrN (r : BitVec 32) (k : Nat) : (r >>> k).toNat = r.toNat / 2 ^ k := by rw [BitVec.toNat_ushiftRight, Nat.shiftRight_eq_div_pow]
theorem fourB_len (r : BitVec 32) : (fourB r).length = 4 := rfl
theorem or_nat (x : BitVec 32) (b : UInt8) (k : Nat) (hx : x.toNat < 2 ^ k) (hk : k ≤ 24) : (x ||| (BitVec.ofNat 32 b.toNat <<< k)).toNat = x.toNat + b.toNat * 2 ^ k := by
  have hb := b.toNat_lt
  have h2 : 2 ^ k ≤ 2 ^ 24 := Nat.pow_le_pow_right (by decide) hk
  have h3 : b.toNat * 2 ^ k ≤ 255 * 2 ^ 24 := Nat.mul_le_mul (by omega) h2
  have e24 : (2 : Nat) ^ 24 = 16777216 := by decide
  have e1 : (BitVec.ofNat 32 b.toNat <<< k).toNat = b.toNat <<< k := by
    have m1 : b.toNat % 2 ^ 32 = b.toNat := Nat.mod_eq_of_lt (by omega)
    rw [BitVec.toNat_shiftLeft, BitVec.toNat_ofNat, m1, Nat.shiftLeft_eq, Nat.mod_eq_of_lt (by omega)]
  rw [BitVec.toNat_or, e1, Nat.or_comm, ← Nat.shiftLeft_add_eq_or_of_lt hx, Nat.shiftLeft_eq, Nat.add_comm]
theorem w4_nat (b : List UInt8) (i : Nat) : (w4 b i).toNat = (b.getD i 0).toNat + (b.getD (i + 1) 0).toNat * 256 + (b.getD (i + 2) 0).toNat * 65536 + (b.getD (i + 3) 0).toNat * 16777216 := by
  have h0 := (b.getD i 0).toNat_lt
  have h1 := (b.getD (i + 1) 0).toNat_lt
  have h2 := (b.getD (i + 2) 0).toNat_lt
  have h3 := (b.getD (i + 3) 0).toNat_lt
  have e0 : (BitVec.ofNat 32 (b.getD i 0).toNat).toNat = (b.getD i 0).toNat := by rw [BitVec.toNat_ofNat, Nat.mod_eq_of_lt (by omega)]
  unfold w4
  have a1 := or_nat (BitVec.ofNat 32 (b.getD i 0).toNat) (b.getD (i + 1) 0) 8 (by rw [e0]; omega) (by omega)
  have a2 := or_nat (BitVec.ofNat 32 (b.getD i 0).toNat ||| (BitVec.ofNat 32 (b.getD (i + 1) 0).toNat <<< 8)) (b.getD (i + 2) 0) 16 (by rw [a1, e0]; omega) (by omega)
  have a3 := or_nat (BitVec.ofNat 32 (b.getD i 0).toNat ||| (BitVec.ofNat 32 (b.getD (i + 1) 0).toNat <<< 8) ||| (BitVec.ofNat 32 (b.getD (i + 2) 0).toNat <<< 16)) (b.getD (i + 3) 0) 24 (by rw [a2, a1, e0]; omega) (by omega)
  rw [a3, a2, a1, e0]
theorem w4_of {b : List UInt8} {i : Nat} {r : BitVec 32} (h : (b.drop i).take 4 = fourB r) : w4 b i = r := by
  have hl : i + 4 ≤ b.length := by
    have := congrArg List.length h
    rw [List.length_take, List.length_drop, fourB_len] at this
    omega
  have hg : ∀ j (hj : j < 4), b.getD (i + j) 0 = (fourB r)[j]'(by rw [fourB_len]; exact hj) := fun j hj => by
    have : (fourB r)[j]? = ((b.drop i).take 4)[j]? := by rw [h]
    rw [List.getElem?_take_of_lt hj, List.getElem?_drop, List.getElem?_eq_getElem (by rw [fourB_len]; exact hj)] at this
    rw [List.getD_eq_getElem?_getD, ← this]
    rfl
  apply BitVec.eq_of_toNat_eq
  rw [w4_nat]
  have g0 := hg 0 (by omega)
  have g1 := hg 1 (by omega)
  have g2 := hg 2 (by omega)
  have g3 := hg 3 (by omega)
  rw [Nat.add_zero] at g0
  rw [g0, g1, g2, g3]
  have hr := r.isLt
  simp only [fourB, List.getElem_cons_zero, List.getElem_cons_succ, UInt8.toNat_ofNat', shrN]
  omega
/-- A snapshot's bytes. -/
def headS (n : Int) (body : List UInt8) : List UInt8 := fourB (BitVec.ofInt 32 n) ++ fourB (BitVec.ofNat 32 body.length)
def encS (n : Int) (body : List UInt8) : List UInt8 := headS n body ++ (fourB (crcSum (headS n body ++ body)) ++ body)
theorem headS_len (n : Int) (body : List UInt8) : (headS n body).length = 8 := rfl
theorem encS_len (n : Int) (body : List UInt8) : (encS n body).length = 12 + body.length := by
  unfold encS
  rw [List.length_append, List.length_append, headS_len, fourB_len]
  omega
/-- What bytes are, as a snapshot of this number: its own bytes, what is wrong (10 short, 11 form, 12 sum). -/
def decS (n : Int) (b : List UInt8) : List UInt8 × Nat :=
  if b.length < 12 then ([], 10) else
  if b.length - 12 < (w4 b 4).toNat then ([], 10) else
  if (w4 b 4).toNat < b.length - 12 ∨ n < 0 ∨ 999999999 < n ∨ w4 b 0 ≠ BitVec.ofInt 32 n then ([], 11) else
  if w4 b 8 ≠ crcSum (b.take 8 ++ b.drop 12) then ([], 12) else (b.drop 12, 0)
end Go.Proofs.YtnegdinonfjdfaaDoor.Q

/- Encode, of the program and of the document. -/
set_option linter.unusedVariables false
set_option linter.unusedSimpArgs false
set_option maxRecDepth 100000
namespace Go.Proofs.YtnegdinonfjdfaaDoor.Q
open Go Go.RowKit Go.Proofs
theorem wrap_bv (n : Int) : IntKind.u32.wrap n = (((BitVec.ofInt 32 n).toNat : Nat) : Int) := by
  rw [BitVec.toNat_ofInt]
  unfold IntKind.wrap
  simp [IntKind.bits, IntKind.signed, IntKind.max, IntKind.min]
  omega
theorem conv32 (n : Int) : vconv Tryd.prog 3 61 (.int .i64 n) = some (.int .u32 (((BitVec.ofInt 32 n).toNat : Nat) : Int)) := by
  simp only [vconv, T3, pTU, wrap_bv]
theorem conv8 (r : BitVec 32) : vconv Tryd.prog 61 5 (.int .u32 ((r.toNat : Nat) : Int)) = some (byteV (UInt8.ofNat r.toNat)) := by
  have h : IntKind.u8.wrap ((r.toNat : Nat) : Int) = (((UInt8.ofNat r.toNat).toNat : Nat) : Int) := by
    rw [UInt8.toNat_ofNat']
    unfold IntKind.wrap
    simp [IntKind.bits, IntKind.signed, IntKind.max, IntKind.min]
  simp only [vconv, pTU, T5, h, byteV]
theorem shr8 (r : BitVec 32) : (((r.toNat : Nat) : Int) / (2 : Int) ^ (min (8 : Int).toNat IntKind.u32.bits)) = (((r >>> 8).toNat : Nat) : Int) := by
  have e : (2 : Int) ^ (min (8 : Int).toNat IntKind.u32.bits) = ((256 : Nat) : Int) := by decide
  rw [e, shrN]; omega
theorem shr16 (r : BitVec 32) : (((r.toNat : Nat) : Int) / (2 : Int) ^ (min (16 : Int).toNat IntKind.u32.bits)) = (((r >>> 16).toNat : Nat) : Int) := by
  have e : (2 : Int) ^ (min (16 : Int).toNat IntKind.u32.bits) = ((65536 : Nat) : Int) := by decide
  rw [e, shrN]; omega
theorem shr24 (r : BitVec 32) : (((r.toNat : Nat) : Int) / (2 : Int) ^ (min (24 : Int).toNat IntKind.u32.bits)) = (((r >>> 24).toNat : Nat) : Int) := by
  have e : (2 : Int) ^ (min (24 : Int).toNat IntKind.u32.bits) = ((16777216 : Nat) : Int) := by decide
  rw [e, shrN]; omega
theorem build4 (a b c d : UInt8) : vbuildSlice Tryd.prog 22 4 [(0, byteV a), (1, byteV b), (2, byteV c), (3, byteV d)] = some (.slice .exact 1 ([a, b, c, d].map byteV) 4) := by
  have e : List.range 4 = [0, 1, 2, 3] := by decide
  simp [vbuildSlice, T22, S5, BT.z, vcells, vfill, zeroCellsV, setAll, byteV, e]
theorem four_bts (r : BitVec 32) : BtsV (.slice .exact 1 ((fourB r).map byteV) 4) (fourB r) := .inr ⟨.exact, rfl⟩
theorem TA2 : Tryd.prog.underlying 67 = some (.array 2 61) := by kernel_rfl
theorem bldA2 (a b : Int) : vbuild Tryd.prog 67 [(0, .int .u32 a), (1, .int .u32 b)] = some (.agg [.int .u32 a, .int .u32 b]) := by kernel_rfl
theorem idxA2 (a b : BitVec 32) : ∀ i : Nat, i < 2 → vindex Tryd.prog 67 (.agg [.int .u32 ((a.toNat : Nat) : Int), .int .u32 ((b.toNat : Nat) : Int)]) (.int .i64 (i : Int)) = some (.int .u32 (((if i = 0 then a else b).toNat : Nat) : Int))
  | 0, _ => by simp [vindex, TA2, pSU, vpart, pGU]
  | 1, _ => by simp [vindex, TA2, pSU, vpart, pGU]
theorem Keep.toks (σ : St) : Keep σ σ := Keep.refl σ
theorem encode_sees {σ : St} {n : Int} {x : V} {body : List UInt8} (hb : BtsV x body) (hl : body.length ≤ 100000000) :
    ∃ q σ', Does Tryd.prog prims 17 [.int .i64 n, x] σ q σ' ∧ ∃ v, q = .ret v ∧ BtsV v (encS n body) ∧ Keep σ σ' := by
  apply k17_is.does (by simp)
  have hlen := hb.len T22
  obtain ⟨A, hA⟩ : ∃ A, A = BitVec.ofInt 32 n := ⟨_, rfl⟩
  obtain ⟨B, hB⟩ : ∃ B, B = BitVec.ofNat 32 body.length := ⟨_, rfl⟩
  have hB' : BitVec.ofInt 32 ((body.length : Nat) : Int) = B := by rw [hB]; simp
  have hhead : headS n body = fourB A ++ fourB B := by rw [hA, hB]; rfl
  have c1 := conv32 n
  have c2 := conv32 ((body.length : Nat) : Int)
  rw [← hA] at c1
  rw [hB'] at c2
  simp only [k17_a, WK, vop, evAll, evOpt, evParts, vbuiltin, vun, vextract, Nat.reduceLT, Nat.reduceEqDiff, ↓reduceIte, reduceCtorEq, Nat.reduceAdd, Int.reduceLT, Int.reduceNeg, valloc_std, noSB, vhot, List.getD_cons_zero, List.getD_cons_succ, nilEP, c1, hlen, c2, bldA2]
  refine Ev.loopF (fun (i : Nat) e s => e 15 = .int .i64 (i : Nat) ∧ i ≤ 2 ∧ OwnV 5 σ.toks.length s (e 5) ((fourB A ++ fourB B).take (4 * i)) ∧ Keep σ s) (fun i => 2 - i) 0 ?_ ?_
  · exact ⟨by simp [upd_some], Nat.zero_le _, by simp [upd_some, OwnV], Keep.refl _⟩
  rintro i e s ⟨h15, hi, h5, hk⟩ hf
  have g1 : e 1 = x := (hf 1 (by decide)).trans (by simp [upd_some])
  have g14 : e 14 = .agg [.int .u32 ((A.toNat : Nat) : Int), .int .u32 ((B.toNat : Nat) : Int)] := (hf 14 (by decide)).trans (by simp [upd_some])
  clear hf
  by_cases hlt : i < 2
  · have hlt' : (i : Int) < 2 := by omega
    have hwi : IntKind.i64.wrap ((i : Int) + 1) = ((i + 1 : Nat) : Int) := by rw [wrap_i64 (by omega) (by omega)]; omega
    have hix := idxA2 A B i hlt
    obtain ⟨R, hR⟩ : ∃ R, R = if i = 0 then A else B := ⟨_, rfl⟩
    rw [← hR] at hix
    obtain ⟨v', s', a1, a2, a3, a4⟩ := h5.append' BT (σ0 := σ) rfl hk T22 (four_bts R) (by rw [List.length_take, fourB_len]; omega)
    have htk : (fourB A ++ fourB B).take (4 * i) ++ fourB R = (fourB A ++ fourB B).take (4 * (i + 1)) := by
      match i, hlt with
      | 0, _ => rw [hR]; rfl
      | 1, _ => rw [hR]; rfl
    rw [htk] at a2
    have hbl := build4 (UInt8.ofNat R.toNat) (UInt8.ofNat (R >>> 8).toNat) (UInt8.ofNat (R >>> 16).toNat) (UInt8.ofNat (R >>> 24).toNat)
    rw [show [UInt8.ofNat R.toNat, UInt8.ofNat (R >>> 8).toNat, UInt8.ofNat (R >>> 16).toNat, UInt8.ofNat (R >>> 24).toNat] = fourB R from rfl] at hbl
    simp only [k17_a, WK, vop, evAll, evOpt, evParts, vbuiltin, vun, vextract, Nat.reduceLT, Nat.reduceEqDiff, ↓reduceIte, reduceCtorEq, Nat.reduceAdd, Int.reduceLT, Int.reduceNeg, valloc_std, noSB, vhot, h15, hlt', decide_true, g14, hix, conv8, shr8, shr16, shr24, hbl, a1, hwi]
    exact ⟨i + 1, ⟨by simp [upd_some], by omega, by simpa [upd_some] using a2, a3⟩, by omega⟩
  · have hlt' : ¬ (i : Int) < 2 := by omega
    have hi2 : i = 2 := by omega
    subst hi2
    have ht8 : (fourB A ++ fourB B).take (4 * 2) = fourB A ++ fourB B := List.take_of_length_le (by simp [fourB_len])
    rw [ht8, ← hhead] at h5
    have h8l := h5.bts.len T22
    obtain ⟨vc, hc, oc⟩ := h5.bts.clip (t := 22) T22 S5 (k := .i64) (k' := .i64) (n := s.toks.length) (σ := s)
    obtain ⟨v6, s6, b1, b2, b3, b4⟩ := OwnV.append' (P := Tryd.prog) (t := 22) (t2 := 22) BT oc (σ0 := s) rfl (Keep.refl s) T22 hb (by rw [headS_len]; omega)
    have h56 := h5.keep b3
    have hk6 := hk.trans b3
    have hs := crcsum_does (σ := s6) b2.bts (by rw [List.length_append, headS_len]; omega)
    obtain ⟨C, hC⟩ : ∃ C, C = crcSum (headS n body ++ body) := ⟨_, rfl⟩
    rw [← hC] at hs
    obtain ⟨v7, s7, d1, d2, d3, d4⟩ := h56.append' BT (σ0 := σ) rfl hk6 T22 (four_bts C) (by rw [headS_len, fourB_len]; omega)
    obtain ⟨v8, s8, e1, e2, e3, e4⟩ := d2.append' BT (σ0 := σ) rfl d3 T22 hb (by rw [List.length_append, headS_len, fourB_len]; omega)
    have hbl := build4 (UInt8.ofNat C.toNat) (UInt8.ofNat (C >>> 8).toNat) (UInt8.ofNat (C >>> 16).toNat) (UInt8.ofNat (C >>> 24).toNat)
    rw [show [UInt8.ofNat C.toNat, UInt8.ofNat (C >>> 8).toNat, UInt8.ofNat (C >>> 16).toNat, UInt8.ofNat (C >>> 24).toNat] = fourB C from rfl] at hbl
    simp only [k17_a, WK, vop, evAll, evOpt, evParts, vbuiltin, vun, vextract, Nat.reduceLT, Nat.reduceEqDiff, ↓reduceIte, reduceCtorEq, Nat.reduceAdd, Int.reduceLT, Int.reduceNeg, valloc_std, noSB, vhot, h15, hlt', decide_false, g1, h8l, hc, b1, T22]
    refine KD.ret hs ?_
    simp only [k17_a, WK, vop, evAll, evOpt, evParts, vbuiltin, vun, vextract, Nat.reduceLT, Nat.reduceEqDiff, ↓reduceIte, reduceCtorEq, Nat.reduceAdd, Int.reduceLT, Int.reduceNeg, valloc_std, noSB, vhot, uV, g1, conv8, shr8, shr16, shr24, hbl, d1, e1]
    refine ⟨v8, rfl, ?_, e3⟩
    have : encS n body = headS n body ++ fourB C ++ body := by rw [hC, List.append_assoc]; rfl
    rw [this]
    exact e2.bts
end Go.Proofs.YtnegdinonfjdfaaDoor.Q

/- Decode, of the program and of the document. -/
set_option linter.unusedVariables false
set_option linter.unusedSimpArgs false
set_option maxRecDepth 100000
namespace Go.Proofs.YtnegdinonfjdfaaDoor.Q
open Go Go.RowKit Go.Proofs
theorem shl_nat (r : BitVec 32) (k : Nat) (hk : k ≤ 24) (hr : r.toNat < 256) : IntKind.u32.wrap (((r.toNat : Nat) : Int) * (2 : Int) ^ k) = (((r <<< k).toNat : Nat) : Int) := by
  have h2 : 2 ^ k ≤ 2 ^ 24 := Nat.pow_le_pow_right (by decide) hk
  have h3 : r.toNat * 2 ^ k ≤ 255 * 2 ^ 24 := Nat.mul_le_mul (by omega) h2
  have e24 : (2 : Nat) ^ 24 = 16777216 := by decide
  have e : (((r.toNat : Nat) : Int) * (2 : Int) ^ k) = ((r.toNat * 2 ^ k : Nat) : Int) := by
    rw [Int.natCast_mul, Int.natCast_pow]; rfl
  rw [e, wrap_u32 (by omega) (by omega), BitVec.toNat_shiftLeft, Nat.shiftLeft_eq, Nat.mod_eq_of_lt (by omega)]
theorem byte_lt (b : UInt8) : (BitVec.ofNat 32 b.toNat).toNat < 256 := by
  have := b.toNat_lt
  rw [BitVec.toNat_ofNat, Nat.mod_eq_of_lt (by omega)]; omega
theorem shl8 (b : UInt8) : IntKind.u32.wrap ((((BitVec.ofNat 32 b.toNat).toNat : Nat) : Int) * (2 : Int) ^ (min (8 : Int).toNat IntKind.u32.bits)) = (((BitVec.ofNat 32 b.toNat <<< 8).toNat : Nat) : Int) := shl_nat _ 8 (by omega) (byte_lt b)
theorem shl16 (b : UInt8) : IntKind.u32.wrap ((((BitVec.ofNat 32 b.toNat).toNat : Nat) : Int) * (2 : Int) ^ (min (16 : Int).toNat IntKind.u32.bits)) = (((BitVec.ofNat 32 b.toNat <<< 16).toNat : Nat) : Int) := shl_nat _ 16 (by omega) (byte_lt b)
theorem shl24 (b : UInt8) : IntKind.u32.wrap ((((BitVec.ofNat 32 b.toNat).toNat : Nat) : Int) * (2 : Int) ^ (min (24 : Int).toNat IntKind.u32.bits)) = (((BitVec.ofNat 32 b.toNat <<< 24).toNat : Nat) : Int) := shl_nat _ 24 (by omega) (byte_lt b)
theorem conv832 (b : UInt8) : vconv Tryd.prog 5 61 (.int .u8 ((b.toNat : Nat) : Int)) = some (.int .u32 (((BitVec.ofNat 32 b.toNat).toNat : Nat) : Int)) := by
  simp only [vconv, pT5, pTU, byte32]
theorem BtsV.at' {v : V} {bs : List UInt8} (h : BtsV v bs) {i : Nat} (hi : i < bs.length) : vindexAddr Tryd.prog 22 v (.int .i64 (i : Int)) = some (.eptr (bs.map byteV) i) := by
  have := h.addr T22 S5 (k := .i64) (n := (i : Int)) (by omega) (by omega)
  rwa [Int.toNat_natCast] at this
theorem byte_ld {bs : List UInt8} {i : Nat} (hi : i < bs.length) {objs : List Ob} : vload Tryd.prog objs 5 (.eptr (bs.map byteV) i) = some (.int .u8 ((bs.getD i 0).toNat : Nat)) := by
  rw [List.getD_eq_getElem?_getD, List.getElem?_eq_getElem hi]
  exact BtsV.load (P := Tryd.prog) G5 hi
theorem word_does {σ : St} {r : Nat} {x : V} {bs : List UInt8} (ho : σ.objs[r]? = some (.cells [x])) (hb : BtsV x bs) {k : Nat} (hk : k + 4 ≤ bs.length) (hl : bs.length ≤ 1000000000) : Does Tryd.prog prims 40 [.int .i64 (k : Nat), .optr r 0] σ (.ret (uV (w4 bs k))) σ := by
  apply k40_is.ret (by simp)
  have lx : vload Tryd.prog σ.objs 22 (.optr r 0) = some x := by rw [vload_obj ho pGB]; rfl
  have w1 : IntKind.i64.wrap ((k : Int) + 1) = ((k + 1 : Nat) : Int) := by rw [wrap_i64 (by omega) (by omega)]; omega
  have w2 : IntKind.i64.wrap ((k : Int) + 2) = ((k + 2 : Nat) : Int) := by rw [wrap_i64 (by omega) (by omega)]; omega
  have w3 : IntKind.i64.wrap ((k : Int) + 3) = ((k + 3 : Nat) : Int) := by rw [wrap_i64 (by omega) (by omega)]; omega
  simp only [k40_a, WK, vop, evAll, evOpt, evParts, vbuiltin, vun, vextract, Nat.reduceLT, Nat.reduceEqDiff, ↓reduceIte, reduceCtorEq, Nat.reduceAdd, Int.reduceLT, Int.reduceNeg, valloc_std, noSB, vhot, List.getD_cons_zero, List.getD_cons_succ, lx, w1, w2, w3, hb.at' (show k < bs.length by omega), hb.at' (show k + 1 < bs.length by omega), hb.at' (show k + 2 < bs.length by omega), hb.at' (show k + 3 < bs.length by omega),
    byte_ld (show k < bs.length by omega), byte_ld (show k + 1 < bs.length by omega), byte_ld (show k + 2 < bs.length by omega), byte_ld (show k + 3 < bs.length by omega), conv832, shl8, shl16, shl24, bit_or]
  rfl
theorem conv64a (r : BitVec 32) : vconv Tryd.prog 61 64 (.int .u32 ((r.toNat : Nat) : Int)) = some (.int .u64 ((r.toNat : Nat) : Int)) := by
  have h : IntKind.u64.wrap ((r.toNat : Nat) : Int) = ((r.toNat : Nat) : Int) := by
    have := r.isLt
    unfold IntKind.wrap
    simp [IntKind.bits, IntKind.signed, IntKind.max, IntKind.min]
    omega
  have hu : Tryd.prog.underlying 64 = some (.int .u64) := by kernel_rfl
  simp only [vconv, pTU, hu, h]
theorem conv64b (n : Nat) (hn : n ≤ 1000000000) : vconv Tryd.prog 3 64 (.int .i64 ((n : Nat) : Int)) = some (.int .u64 ((n : Nat) : Int)) := by
  have h : IntKind.u64.wrap ((n : Nat) : Int) = ((n : Nat) : Int) := by
    unfold IntKind.wrap
    simp [IntKind.bits, IntKind.signed, IntKind.max, IntKind.min]
    omega
  have hu : Tryd.prog.underlying 64 = some (.int .u64) := by kernel_rfl
  simp only [vconv, T3, hu, h]
theorem toNat_eq (a b : BitVec 32) : (((a.toNat : Nat) : Int) = ((b.toNat : Nat) : Int)) ↔ a = b := ⟨fun h => BitVec.eq_of_toNat_eq (by omega), fun h => by rw [h]⟩
theorem BtsV.clipN {v : V} {bs : List UInt8} (h : BtsV v bs) {n k : Nat} (hk : k ≤ bs.length) (h0 : 0 < k) {σ : St} : ∃ v', vslice Tryd.prog 22 v none (some (.int .i64 (k : Int))) (some (.int .i64 (k : Int))) = some v' ∧ OwnV 5 n σ v' (bs.take k) := by
  rcases h with ⟨rfl, rfl⟩ | ⟨p, rfl⟩
  · simp at hk; omega
  · refine ⟨.slice .exact 1 ((bs.take k).map byteV) (bs.take k).length, ?_, .inr ⟨.exact, rfl, .inl rfl⟩⟩
    have hb : vbounds bs.length none (some (.int .i64 (k : Int))) (some (.int .i64 (k : Int))) = some (0, k, some k) := by
      have : (k : Int) ≤ bs.length := by omega
      simp [vbounds, vb, this]
    simp only [vslice, T22, S5, hb, if_true, Nat.zero_mul, List.drop_zero, Nat.sub_zero, Nat.mul_one]
    rw [List.length_take, Nat.min_eq_left hk, List.map_take]
theorem decode_sees {σ : St} {n : Int} {x : V} {bs : List UInt8} (hb : BtsV x bs) (hl : bs.length ≤ 100000000) :
    ∃ q σ', Does Tryd.prog prims 12 [.int .i64 n, x] σ q σ' ∧ ∃ v, q = .ret (.tuple [v, .int .i64 ((decS n bs).2 : Nat)]) ∧ OwnV 5 σ.toks.length σ' v (decS n bs).1 ∧ KS [] σ σ' := by
  apply k12_is.does (by simp)
  obtain ⟨s1, hs1⟩ : ∃ s1 : St, s1 = ⟨σ.objs ++ [.cells [x]], σ.toks⟩ := ⟨_, rfl⟩
  have hcx : vcells x = [x] := vcells_one hb.one
  have K1 : KS [] σ s1 := by rw [hs1]; exact KS.push _ _ _
  have ob : s1.objs[σ.objs.length]? = some (.cells [x]) := by rw [hs1]; exact push_new _ _
  have lx : ∀ {s : St}, KS [] s1 s → vload Tryd.prog s.objs 22 (.optr σ.objs.length 0) = some x := fun {s} hk => by rw [vload_obj (hk.ko _ _ (by simp) ob) pGB]; rfl
  have lx1 := lx (KS.refl [] s1)
  have hlen := hb.len T22
  have nilO : ∀ s : St, OwnV 5 σ.toks.length s .nils [] := fun s => .inl ⟨rfl, rfl⟩
  by_cases h12 : bs.length < 12
  · have h12' : ((bs.length : Nat) : Int) < 12 := by omega
    have e : decS n bs = ([], 10) := by unfold decS; rw [if_pos h12]
    simp only [k12_a, WK, vop, evAll, evOpt, evParts, vbuiltin, vun, vextract, Nat.reduceLT, Nat.reduceEqDiff, ↓reduceIte, reduceCtorEq, Nat.reduceAdd, Int.reduceLT, Int.reduceNeg, valloc_std, noSB, vhot, List.getD_cons_zero, List.getD_cons_succ, nilEP, vbox, hcx, ← hs1, lx1, hlen, h12', decide_true, e]
    exact ⟨.nils, rfl, nilO _, K1⟩
  have h12' : ¬ ((bs.length : Nat) : Int) < 12 := by omega
  obtain ⟨vb, hvb, hbb⟩ := hb.slice (t := 22) T22 S5 (vbounds_lo (k := .i64) (n := 12) (len := bs.length) (by omega) (by omega)) (by omega) (by omega)
  rw [show (12 : Int).toNat = 12 from rfl, List.take_of_length_le (by rw [List.length_drop]; omega)] at hbb
  have hbl := hbb.len T22
  have hbdl : (bs.drop 12).length = bs.length - 12 := List.length_drop
  have f4 : ∀ s, KS [] s1 s → Does Tryd.prog prims 40 [.int .i64 4, .optr σ.objs.length 0] s (.ret (uV (w4 bs 4))) s := fun s hk => word_does (hk.ko _ _ (by simp) ob) hb (k := 4) (by omega) (by omega)
  have f0 : ∀ s, KS [] s1 s → Does Tryd.prog prims 40 [.int .i64 0, .optr σ.objs.length 0] s (.ret (uV (w4 bs 0))) s := fun s hk => word_does (hk.ko _ _ (by simp) ob) hb (k := 0) (by omega) (by omega)
  have f8 : ∀ s, KS [] s1 s → Does Tryd.prog prims 40 [.int .i64 8, .optr σ.objs.length 0] s (.ret (uV (w4 bs 8))) s := fun s hk => word_does (hk.ko _ _ (by simp) ob) hb (k := 8) (by omega) (by omega)
  rw [hbdl] at hbl
  have cb := conv64b (bs.length - 12) (by omega)
  simp only [k12_a, WK, vop, evAll, evOpt, evParts, vbuiltin, vun, vextract, Nat.reduceLT, Nat.reduceEqDiff, ↓reduceIte, reduceCtorEq, Nat.reduceAdd, Int.reduceLT, Int.reduceNeg, valloc_std, noSB, vhot, List.getD_cons_zero, List.getD_cons_succ, nilEP, vbox, hcx, ← hs1, lx1, hlen, h12', decide_false, T22, hvb]
  refine KD.ret (f4 s1 (KS.refl _ _)) ?_
  by_cases hshort : bs.length - 12 < (w4 bs 4).toNat
  · have hshort' : ((bs.length - 12 : Nat) : Int) < (((w4 bs 4).toNat : Nat) : Int) := by omega
    have e : decS n bs = ([], 10) := by unfold decS; rw [if_neg h12, if_pos hshort]
    simp only [k12_a, WK, vop, evAll, evOpt, evParts, vbuiltin, vun, vextract, Nat.reduceLT, Nat.reduceEqDiff, ↓reduceIte, reduceCtorEq, Nat.reduceAdd, Int.reduceLT, Int.reduceNeg, valloc_std, noSB, vhot, uV, conv64a, hbl, cb, hshort', decide_true, nilEP, e]
    exact ⟨.nils, rfl, nilO _, K1⟩
  have hshort' : ¬ ((bs.length - 12 : Nat) : Int) < (((w4 bs 4).toNat : Nat) : Int) := by omega
  simp only [k12_a, WK, vop, evAll, evOpt, evParts, vbuiltin, vun, vextract, Nat.reduceLT, Nat.reduceEqDiff, ↓reduceIte, reduceCtorEq, Nat.reduceAdd, Int.reduceLT, Int.reduceNeg, valloc_std, noSB, vhot, uV, conv64a, hbl, cb, hshort', decide_false]
  refine KD.ret (f4 s1 (KS.refl _ _)) ?_
  by_cases hsmall : (w4 bs 4).toNat < bs.length - 12
  · have hsmall' : (((w4 bs 4).toNat : Nat) : Int) < ((bs.length - 12 : Nat) : Int) := by omega
    have e : decS n bs = ([], 11) := by unfold decS; rw [if_neg h12, if_neg hshort, if_pos (.inl hsmall)]
    simp only [k12_a, WK, vop, evAll, evOpt, evParts, vbuiltin, vun, vextract, Nat.reduceLT, Nat.reduceEqDiff, ↓reduceIte, reduceCtorEq, Nat.reduceAdd, Int.reduceLT, Int.reduceNeg, valloc_std, noSB, vhot, uV, conv64a, hbl, cb, hsmall', decide_true, nilEP, e]
    exact ⟨.nils, rfl, nilO _, K1⟩
  have hsmall' : ¬ (((w4 bs 4).toNat : Nat) : Int) < ((bs.length - 12 : Nat) : Int) := by omega
  by_cases hn0 : n < 0
  · have e : decS n bs = ([], 11) := by unfold decS; rw [if_neg h12, if_neg hshort, if_pos (.inr (.inl hn0))]
    simp only [k12_a, WK, vop, evAll, evOpt, evParts, vbuiltin, vun, vextract, Nat.reduceLT, Nat.reduceEqDiff, ↓reduceIte, reduceCtorEq, Nat.reduceAdd, Int.reduceLT, Int.reduceNeg, valloc_std, noSB, vhot, List.getD_cons_zero, List.getD_cons_succ, uV, conv64a, hbl, cb, hsmall', hn0, decide_true, decide_false, nilEP, e]
    exact ⟨.nils, rfl, nilO _, K1⟩
  by_cases hn9 : 999999999 < n
  · have e : decS n bs = ([], 11) := by unfold decS; rw [if_neg h12, if_neg hshort, if_pos (.inr (.inr (.inl hn9)))]
    simp only [k12_a, WK, vop, evAll, evOpt, evParts, vbuiltin, vun, vextract, Nat.reduceLT, Nat.reduceEqDiff, ↓reduceIte, reduceCtorEq, Nat.reduceAdd, Int.reduceLT, Int.reduceNeg, valloc_std, noSB, vhot, List.getD_cons_zero, List.getD_cons_succ, uV, conv64a, hbl, cb, hsmall', hn0, hn9, decide_true, decide_false, nilEP, e]
    exact ⟨.nils, rfl, nilO _, K1⟩
  simp only [k12_a, WK, vop, evAll, evOpt, evParts, vbuiltin, vun, vextract, Nat.reduceLT, Nat.reduceEqDiff, ↓reduceIte, reduceCtorEq, Nat.reduceAdd, Int.reduceLT, Int.reduceNeg, valloc_std, noSB, vhot, List.getD_cons_zero, List.getD_cons_succ, uV, conv64a, hbl, cb, hsmall', hn0, hn9, decide_false]
  refine KD.ret (f0 s1 (KS.refl _ _)) ?_
  by_cases h0 : w4 bs 0 = BitVec.ofInt 32 n
  · have h0' : (((w4 bs 0).toNat : Nat) : Int) = (((BitVec.ofInt 32 n).toNat : Nat) : Int) := by rw [h0]
    simp only [k12_a, WK, vop, evAll, evOpt, evParts, vbuiltin, vun, vextract, Nat.reduceLT, Nat.reduceEqDiff, ↓reduceIte, reduceCtorEq, Nat.reduceAdd, Int.reduceLT, Int.reduceNeg, valloc_std, noSB, vhot, List.getD_cons_zero, List.getD_cons_succ, uV, conv32, h0', eq_self, decide_true, Bool.not_true]
    refine KD.ret (f8 s1 (KS.refl _ _)) ?_
    obtain ⟨vc, hc, oc⟩ := hb.clipN (n := s1.toks.length) (k := 8) (by omega) (by omega) (σ := s1)
    have hc : vslice Tryd.prog 22 x none (some (.int .i64 8)) (some (.int .i64 8)) = some vc := hc
    obtain ⟨v6, s6, b1, b2, b3, b4⟩ := OwnV.append' (P := Tryd.prog) (t := 22) (t2 := 22) BT oc (σ0 := s1) rfl (Keep.refl s1) T22 hbb (by rw [List.length_take]; omega)
    have hs := crcsum_does (σ := s6) b2.bts (by rw [List.length_append, List.length_take]; omega)
    have K6 : KS [] σ s6 := K1.trans' (b3.ks [])
    have lx6 := lx (b3.ks [])
    simp only [k12_a, WK, vop, evAll, evOpt, evParts, vbuiltin, vun, vextract, Nat.reduceLT, Nat.reduceEqDiff, ↓reduceIte, reduceCtorEq, Nat.reduceAdd, Int.reduceLT, Int.reduceNeg, valloc_std, noSB, vhot, uV, lx1, hc, T22, b1]
    refine KD.ret hs ?_
    by_cases h8 : w4 bs 8 = crcSum (bs.take 8 ++ bs.drop 12)
    · have h8' : (((w4 bs 8).toNat : Nat) : Int) = (((crcSum (bs.take 8 ++ bs.drop 12)).toNat : Nat) : Int) := by rw [h8]
      have e : decS n bs = (bs.drop 12, 0) := by
        unfold decS
        rw [if_neg h12, if_neg hshort, if_neg (by rintro (h | h | h | h); exact hsmall h; exact hn0 h; exact hn9 h; exact h h0), if_neg (fun h => h h8)]
      have hKt : Keep ⟨[], σ.toks⟩ s6 := ⟨fun r o h => by simp at h, K6.tl, K6.tk⟩
      obtain ⟨v7, s7, c1, c2, c3, c4⟩ := OwnV.append' (P := Tryd.prog) (t := 22) (t2 := 22) BT (σ := s6) (show OwnV 5 σ.toks.length s6 (.slice .exact 1 [] 0) [] from .inr ⟨.exact, rfl, .inl rfl⟩) (σ0 := ⟨[], σ.toks⟩) rfl hKt T22 hbb (by simp; omega)
      rw [List.nil_append] at c2
      simp only [k12_a, WK, vop, evAll, evOpt, evParts, vbuiltin, vun, vextract, Nat.reduceLT, Nat.reduceEqDiff, ↓reduceIte, reduceCtorEq, Nat.reduceAdd, Int.reduceLT, Int.reduceNeg, valloc_std, noSB, vhot, uV, h8', eq_self, decide_true, Bool.not_true, build0 BT, c1, e, lx1, lx6]
      refine ⟨v7, rfl, c2, ⟨fun r o hr ho => ?_, ?_, c3.2.1, c3.2.2⟩⟩
      · rw [c4]; exact K6.ko r o hr ho
      · rw [c4]; exact K6.le
    · have h8' : ¬ (((w4 bs 8).toNat : Nat) : Int) = (((crcSum (bs.take 8 ++ bs.drop 12)).toNat : Nat) : Int) := fun h => h8 ((toNat_eq _ _).1 h)
      have e : decS n bs = ([], 12) := by
        unfold decS
        rw [if_neg h12, if_neg hshort, if_neg (by rintro (h | h | h | h); exact hsmall h; exact hn0 h; exact hn9 h; exact h h0), if_pos h8]
      simp only [k12_a, WK, vop, evAll, evOpt, evParts, vbuiltin, vun, vextract, Nat.reduceLT, Nat.reduceEqDiff, ↓reduceIte, reduceCtorEq, Nat.reduceAdd, Int.reduceLT, Int.reduceNeg, valloc_std, noSB, vhot, uV, h8', decide_false, Bool.not_false, nilEP, e, lx1, lx6]
      exact ⟨.nils, rfl, nilO _, K6⟩
  · have h0' : ¬ (((w4 bs 0).toNat : Nat) : Int) = (((BitVec.ofInt 32 n).toNat : Nat) : Int) := fun h => h0 ((toNat_eq _ _).1 h)
    have e : decS n bs = ([], 11) := by unfold decS; rw [if_neg h12, if_neg hshort, if_pos (.inr (.inr (.inr h0)))]
    simp only [k12_a, WK, vop, evAll, evOpt, evParts, vbuiltin, vun, vextract, Nat.reduceLT, Nat.reduceEqDiff, ↓reduceIte, reduceCtorEq, Nat.reduceAdd, Int.reduceLT, Int.reduceNeg, valloc_std, noSB, vhot, List.getD_cons_zero, List.getD_cons_succ, uV, conv32, h0', decide_false, Bool.not_false, nilEP, e]
    exact ⟨.nils, rfl, nilO _, K1⟩
end Go.Proofs.YtnegdinonfjdfaaDoor.Q

/- Decode of the document; what was encoded is read. -/
set_option linter.unusedVariables false
set_option linter.unusedSimpArgs false
set_option maxRecDepth 100000
namespace Go.Proofs.YtnegdinonfjdfaaDoor.Q
open Go Go.RowKit Go.Proofs
/-- What was encoded is read again. -/
theorem dec_enc {n : Int} {body : List UInt8} (hn : 0 ≤ n ∧ n ≤ 999999999) (hl : body.length ≤ 100000000) : decS n (encS n body) = (body, 0) := by
  have hlen := encS_len n body
  have hd : (encS n body).drop 12 = body := by
    unfold encS
    rw [← List.append_assoc]
    exact List.drop_left' (by rw [List.length_append, headS_len, fourB_len])
  have ht8 : (encS n body).take 8 = headS n body := List.take_left' (headS_len n body)
  have h0 : w4 (encS n body) 0 = BitVec.ofInt 32 n := w4_of (by
    have : ((encS n body).drop 0).take 4 = ((encS n body).take 8).take 4 := by rw [List.take_take]; simp
    rw [this, ht8]; rfl)
  have h4 : w4 (encS n body) 4 = BitVec.ofNat 32 body.length := w4_of (by
    have : ((encS n body).drop 4).take 4 = ((encS n body).take 8).drop 4 := by rw [List.drop_take]
    rw [this, ht8]; rfl)
  have h8 : w4 (encS n body) 8 = crcSum (headS n body ++ body) := w4_of (by
    unfold encS
    rw [List.drop_left' (headS_len n body)]
    exact List.take_left' (fourB_len _))
  have h4n : (w4 (encS n body) 4).toNat = body.length := by rw [h4, BitVec.toNat_ofNat, Nat.mod_eq_of_lt (by omega)]
  unfold decS
  rw [if_neg (by omega), if_neg (by omega), if_neg (by rintro (h | h | h | h); omega; omega; omega; exact h h0), if_neg (by rw [h8, ht8, hd]; exact fun h => h rfl), hd]
theorem sbN {a b : List UInt8} : strBin .neq a b = some (.bool (!decide (a = b))) := rfl
theorem sbE {a b : List UInt8} : strBin .eql a b = some (.bool (decide (a = b))) := rfl
end Go.Proofs.YtnegdinonfjdfaaDoor.Q

/- The waking of snapshots. -/
set_option linter.unusedVariables false
set_option linter.unusedSimpArgs false
set_option maxRecDepth 100000
namespace Go.Proofs.YtnegdinonfjdfaaDoor.Q
open Go Go.RowKit Go.Proofs
end Go.Proofs.YtnegdinonfjdfaaDoor.Q

/- SnapBytes, SnapBack. -/
set_option linter.unusedVariables false
set_option linter.unusedSimpArgs false
set_option maxRecDepth 100000
namespace Go.Proofs.YtnegdinonfjdfaaDoor.Q
open Go Go.RowKit Go.Proofs
theorem same5_does {v w : V} {xs bs : List UInt8} {σ : St} (hv : RB σ v xs) (hw : RB σ w bs) (hla : xs.length ≤ 140737488355328) : Does Tryd.prog prims 16 [v, w] σ (.ret (.bool (decide (xs = bs)))) σ := by
  apply k16_is.ret (by simp)
  by_cases hlen : xs.length = bs.length
  · have hne : decide ((xs.length : Int) = bs.length) = true := by simp [hlen]
    simp only [k16_a, WK, vop, evAll, evOpt, evParts, vbuiltin, vun, vextract, Nat.reduceLT, Nat.reduceEqDiff, ↓reduceIte, reduceCtorEq, Nat.reduceAdd, Int.reduceLT, Int.reduceNeg, valloc_std, noSB, vhot, List.getD_cons_zero, List.getD_cons_succ, hv.len, hw.len, hne]
    refine Ev.loopF (fun i e σ' => σ' = σ ∧ e 13 = .int .i64 (i : Nat) ∧ i ≤ xs.length ∧ xs.take i = bs.take i) (fun i => xs.length - i) 0 ⟨rfl, by simp [upd_some], by simp, by simp⟩ ?_
    rintro i e σ' ⟨rfl, h13, hi, htk⟩ hf
    have h0 : e 0 = v := (hf 0 (by decide)).trans (by simp [upd_some])
    have h1 : e 1 = w := (hf 1 (by decide)).trans (by simp [upd_some])
    have h12 : e 12 = .int .i64 xs.length := (hf 12 (by decide)).trans (by simp [upd_some])
    by_cases hlt : i < xs.length
    · have hlt' : (i : Int) < xs.length := by omega
      have hltb : i < bs.length := by omega
      have hwi : IntKind.i64.wrap ((i : Int) + 1) = ((i + 1 : Nat) : Int) := by rw [show ((i : Int) + 1) = ((i + 1 : Nat) : Int) from by omega]; exact wrap_nat (by omega)
      obtain ⟨p, hp, hlp⟩ := hv.at hlt
      obtain ⟨q, hq, hlq⟩ := hw.at hltb
      by_cases he : xs[i] = bs[i]
      · have hd : decide (((xs[i].toNat : Nat) : Int) = bs[i].toNat) = true := by simp [he]
        simp only [k16_a, WK, vop, evAll, evOpt, evParts, vbuiltin, vun, vextract, Nat.reduceLT, Nat.reduceEqDiff, ↓reduceIte, reduceCtorEq, Nat.reduceAdd, Int.reduceLT, Int.reduceNeg, valloc_std, noSB, vhot, h0, h1, h12, h13, hlt', hp, hq, hlp, hlq, hd, hwi]
        refine ⟨i + 1, ⟨rfl, hlt, ?_⟩, by omega⟩
        rw [List.take_succ_eq_append_getElem hlt, List.take_succ_eq_append_getElem hltb, htk, he]
      · have hd : decide (((xs[i].toNat : Nat) : Int) = bs[i].toNat) = false := by
          simp only [decide_eq_false_iff_not]
          intro h
          exact he (UInt8.toNat_inj.1 (by omega))
        simp only [k16_a, WK, vop, evAll, evOpt, evParts, vbuiltin, vun, vextract, Nat.reduceLT, Nat.reduceEqDiff, ↓reduceIte, reduceCtorEq, Nat.reduceAdd, Int.reduceLT, Int.reduceNeg, valloc_std, noSB, vhot, h0, h1, h12, h13, hlt', hp, hq, hlp, hlq, hd, hwi]
        have : xs ≠ bs := by rintro rfl; exact he rfl
        simp [this]
    · have hlt' : ¬ (i : Int) < xs.length := by omega
      simp only [k16_a, WK, vop, evAll, evOpt, evParts, vbuiltin, vun, vextract, Nat.reduceLT, Nat.reduceEqDiff, ↓reduceIte, reduceCtorEq, Nat.reduceAdd, Int.reduceLT, Int.reduceNeg, valloc_std, noSB, vhot, h0, h1, h12, h13, hlt']
      have : xs = bs := by
        rw [List.take_of_length_le (by omega), List.take_of_length_le (by omega)] at htk
        exact htk
      simp [this]
  · have hne : decide ((xs.length : Int) = bs.length) = false := by simp; omega
    simp only [k16_a, WK, vop, evAll, evOpt, evParts, vbuiltin, vun, vextract, Nat.reduceLT, Nat.reduceEqDiff, ↓reduceIte, reduceCtorEq, Nat.reduceAdd, Int.reduceLT, Int.reduceNeg, valloc_std, noSB, vhot, List.getD_cons_zero, List.getD_cons_succ, hv.len, hw.len, hne]
    have : xs ≠ bs := by rintro rfl; exact hlen rfl
    simp [this]
end Go.Proofs.YtnegdinonfjdfaaDoor.Q

/- SnapBack. -/
set_option linter.unusedVariables false
set_option linter.unusedSimpArgs false
set_option maxRecDepth 100000
namespace Go.Proofs.YtnegdinonfjdfaaDoor.Q
open Go Go.RowKit Go.Proofs
end Go.Proofs.YtnegdinonfjdfaaDoor.Q

/- Save. -/
set_option linter.unusedVariables false
set_option linter.unusedSimpArgs false
set_option maxRecDepth 100000
namespace Go.Proofs.YtnegdinonfjdfaaDoor.Q
open Go Go.RowKit Go.Proofs
def numZ (name : List UInt8) : Int := match numP 115 name with
  | some m => (m : Int)
  | none => -1
theorem T97 : Tryd.prog.underlying 97 = some (.interface #[("Error", 159)]) := by kernel_rfl
theorem neq_inil {t : TypeId} {v : V} {xo : Operand} : vbin Tryd.prog .neq 97 xo (.const .nilIface) (.iface t v) .nili = some (.bool true) := by
  simp [vbin, bothSame, guardFree, aggEq, T97]
theorem neq_nilnil {xo : Operand} : vbin Tryd.prog .neq 97 xo (.const .nilIface) .nili .nili = some (.bool false) := by
  simp [vbin, bothSame, guardFree, aggEq, T97, isC]
theorem number_sees {σ : St} (name : List UInt8) : ∃ q σ', Does Tryd.prog prims 50 [.str name] σ q σ' ∧ q = .ret (.int .i64 (numZ name)) ∧ KS [] σ σ' := by
  apply k50_is.does (by simp)
  have hl := vlenS name
  have oni : ofVal Value.nilIface = some .nili := rfl
  by_cases h10 : name.length = 10
  · obtain ⟨b, t, rfl⟩ : ∃ b t, name = b :: t := by
      cases name with
      | nil => simp at h10
      | cons b t => exact ⟨b, t, rfl⟩
    have ht9 : t.length = 9 := by simpa using h10
    have h10' : (((b :: t).length : Nat) : Int) = 10 := by omega
    have hix : vindex Tryd.prog 9 (.str (b :: t)) (.int .i64 0) = some (.int .u8 ((b.toNat : Nat) : Int)) := by simp [vindex, T9]
    by_cases hb : b = 115
    · subst hb
      have hb' : (((115 : UInt8).toNat : Nat) : Int) = 115 := by decide
      have hsl : vslice Tryd.prog 9 (.str (115 :: t)) (some (.int .i64 1)) none none = some (.str t) := by
        have hv := vbounds_lo (k := .i64) (n := 1) (len := (115 :: t : List UInt8).length) (by omega) (by simp only [List.length_cons]; omega)
        simp only [vslice, T9, hv]
        simp only [show (1 : Int).toNat = 1 from rfl, List.drop_succ_cons, List.drop_zero, List.length_cons]
        rw [List.take_of_length_le (by omega)]
      cases ha : Lib.atoi t with
      | none =>
        have hn := num_none (pre := 115) ht9 ha
        have hz : numZ (115 :: t) = -1 := by unfold numZ; rw [hn]
        simp only [k50_a, WK, vop, evAll, evOpt, evParts, vbuiltin, vun, vextract, Nat.reduceLT, Nat.reduceEqDiff, ↓reduceIte, reduceCtorEq, Nat.reduceAdd, Int.reduceLT, Int.reduceNeg, valloc_std, noSB, vhot, List.getD_cons_zero, List.getD_cons_succ, hl, h10', eq_self, decide_true, Bool.not_true, hix, hb', hsl, T9]
        refine KD.ret (atoi_none (by omega) ha) ?_
        simp only [k50_a, WK, vop, evAll, evOpt, evParts, vbuiltin, vun, vextract, Nat.reduceLT, Nat.reduceEqDiff, ↓reduceIte, reduceCtorEq, Nat.reduceAdd, Int.reduceLT, Int.reduceNeg, valloc_std, noSB, vhot, List.getD_cons_zero, List.getD_cons_succ, neq_inil, oni, hz]
        first | exact ⟨trivial, KS.push _ _ _⟩ | exact KS.push _ _ _
      | some m =>
        obtain ⟨n1, n2⟩ := num_some (pre := 115) ht9 ha
        simp only [k50_a, WK, vop, evAll, evOpt, evParts, vbuiltin, vun, vextract, Nat.reduceLT, Nat.reduceEqDiff, ↓reduceIte, reduceCtorEq, Nat.reduceAdd, Int.reduceLT, Int.reduceNeg, valloc_std, noSB, vhot, List.getD_cons_zero, List.getD_cons_succ, hl, h10', eq_self, decide_true, Bool.not_true, hix, hb', hsl, T9]
        refine KD.ret (atoi_some (by omega) ha) ?_
        simp only [k50_a, WK, vop, evAll, evOpt, evParts, vbuiltin, vun, vextract, Nat.reduceLT, Nat.reduceEqDiff, ↓reduceIte, reduceCtorEq, Nat.reduceAdd, Int.reduceLT, Int.reduceNeg, valloc_std, noSB, vhot, List.getD_cons_zero, List.getD_cons_succ, neq_nilnil, oni]
        refine KD.ret (sname_does m) ?_
        by_cases hnm : nameP 115 0 m = 115 :: t
        · obtain ⟨g1, g2, g3⟩ := n1 hnm.symm
          have hz : numZ (115 :: t) = m := by unfold numZ; rw [g3]; simp only; omega
          simp only [k50_a, WK, vop, evAll, evOpt, evParts, vbuiltin, vun, vextract, Nat.reduceLT, Nat.reduceEqDiff, ↓reduceIte, reduceCtorEq, Nat.reduceAdd, Int.reduceLT, Int.reduceNeg, valloc_std, noSB, vhot, List.getD_cons_zero, List.getD_cons_succ, sbN, hnm, eq_self, decide_true, Bool.not_true, hz]
          first | exact ⟨trivial, KS.refl _ _⟩ | exact KS.refl _ _
        · have hz : numZ (115 :: t) = -1 := by unfold numZ; rw [n2 (fun h => hnm h.symm)]
          simp only [k50_a, WK, vop, evAll, evOpt, evParts, vbuiltin, vun, vextract, Nat.reduceLT, Nat.reduceEqDiff, ↓reduceIte, reduceCtorEq, Nat.reduceAdd, Int.reduceLT, Int.reduceNeg, valloc_std, noSB, vhot, List.getD_cons_zero, List.getD_cons_succ, sbN, hnm, decide_false, Bool.not_false, hz]
          first | exact ⟨trivial, KS.refl _ _⟩ | exact KS.refl _ _
    · have hb' : ¬ ((b.toNat : Nat) : Int) = 115 := fun h => hb (by apply UInt8.toNat_inj.1; have : (115 : UInt8).toNat = 115 := rfl; omega)
      have hz : numZ (b :: t) = -1 := by
        unfold numZ numP
        simp only
        rw [if_neg (fun h => hb h.1)]
      simp only [k50_a, WK, vop, evAll, evOpt, evParts, vbuiltin, vun, vextract, Nat.reduceLT, Nat.reduceEqDiff, ↓reduceIte, reduceCtorEq, Nat.reduceAdd, Int.reduceLT, Int.reduceNeg, valloc_std, noSB, vhot, List.getD_cons_zero, List.getD_cons_succ, hl, h10', eq_self, decide_true, decide_false, Bool.not_true, Bool.not_false, hix, hb', hz]
      first | exact ⟨trivial, KS.refl _ _⟩ | exact KS.refl _ _
  · have h10' : ¬ ((name.length : Nat) : Int) = 10 := by omega
    have hz : numZ name = -1 := by
      unfold numZ numP
      cases name with
      | nil => rfl
      | cons b t => simp only; rw [if_neg (fun h => h10 (by simp [h.2.1]))]
    simp only [k50_a, WK, vop, evAll, evOpt, evParts, vbuiltin, vun, vextract, Nat.reduceLT, Nat.reduceEqDiff, ↓reduceIte, reduceCtorEq, Nat.reduceAdd, Int.reduceLT, Int.reduceNeg, valloc_std, noSB, vhot, List.getD_cons_zero, List.getD_cons_succ, hl, h10', decide_false, Bool.not_false, hz]
    first | exact ⟨trivial, KS.refl _ _⟩ | exact KS.refl _ _
/-! ### Plainly -/
def dr : List UInt8 := [100, 114, 97, 102, 116]
def thenD (r : Nat × Dk) (f : Dk → Nat × Dk) : Nat × Dk := if r.1 ≠ 0 then r else f r.2
def rmDraft (d : Dk) : Nat × Dk := if (readD dr d).1 = 0 then removeD dr d else (0, d)
def purgeD (n : Int) : List (List UInt8) → Dk → Nat × Dk
  | [], d => (0, d)
  | x :: l, d => if numZ x < 0 ∨ numZ x = n then purgeD n l d else thenD (removeD x d) (purgeD n l)
def saveRest3 (n : Int) (d3 : Dk) : Nat × Dk := thenD (renameD dr (nameP 115 0 n) d3) fun d4 => purgeD n (namesD d4) d4
def saveRest2 (n : Int) (d2 : Dk) : Nat × Dk := thenD (syncD dr d2) (saveRest3 n)
def saveRest (n : Int) (body : List UInt8) (d1 : Dk) : Nat × Dk := thenD (appendD dr (encS n body) d1) (saveRest2 n)
def saveD (n : Int) (body : List UInt8) (d : Dk) : Nat × Dk :=
  if nameP 115 0 n = [] then (1, d) else
  if 1048564 < body.length then (3, d) else
  if d.on = false then (20, d) else
  thenD (rmDraft d) fun d1 => thenD (appendD dr (encS n body) d1) fun d2 => thenD (syncD dr d2) fun d3 => thenD (renameD dr (nameP 115 0 n) d3) fun d4 => purgeD n (namesD d4) d4
theorem save_sees {σ : St} {r rm : Nat} {d : Dk} {fs : List Ent} {n : Int} {x : V} {body : List UInt8} (h : DiskAt σ r d rm fs) (hok : d.Ok) (hw : d.writes ≤ 1000000000) (hb : BtsV x body) (hl : body.length ≤ 100000000) :
    ∃ q σ', Does Tryd.prog prims 20 [.optr r 0, .int .i64 n, x] σ q σ' ∧ (q = .ret (.int .i64 ((saveD n body d).1 : Nat)) ∧ Next σ r rm fs σ' (saveD n body d).2) := by
  apply k20_is.does (by simp)
  have hlen := hb.len T22
  have oe : ofVal (Value.string { data := #[] }) = some (.str []) := rfl
  have od : ofVal (Value.string { data := #[100, 114, 97, 102, 116] }) = some (.str dr) := rfl
  simp only [k20_a, WK, vop, evAll, evOpt, evParts, vbuiltin, vun, vextract, Nat.reduceLT, Nat.reduceEqDiff, ↓reduceIte, reduceCtorEq, Nat.reduceAdd, Int.reduceLT, Int.reduceNeg, valloc_std, noSB, vhot, List.getD_cons_zero, List.getD_cons_succ, ofNilP, eql_optr pTD]
  refine KD.ret (sname_does n) ?_
  by_cases hn : nameP 115 0 n = []
  · have e : saveD n body d = (1, d) := by unfold saveD; rw [if_pos hn]
    simp only [k20_a, WK, vop, evAll, evOpt, evParts, vbuiltin, vun, vextract, Nat.reduceLT, Nat.reduceEqDiff, ↓reduceIte, reduceCtorEq, Nat.reduceAdd, Int.reduceLT, Int.reduceNeg, valloc_std, noSB, vhot, List.getD_cons_zero, List.getD_cons_succ, oe, sbE, hn, eq_self, decide_true, e]
    exact ⟨rfl, Next.refl h⟩
  by_cases hlg : 1048564 < body.length
  · have hlg' : (1048564 : Int) < ((body.length : Nat) : Int) := by omega
    have e : saveD n body d = (3, d) := by unfold saveD; rw [if_neg hn, if_pos hlg]
    simp only [k20_a, WK, vop, evAll, evOpt, evParts, vbuiltin, vun, vextract, Nat.reduceLT, Nat.reduceEqDiff, ↓reduceIte, reduceCtorEq, Nat.reduceAdd, Int.reduceLT, Int.reduceNeg, valloc_std, noSB, vhot, List.getD_cons_zero, List.getD_cons_succ, oe, sbE, hn, hlen, hlg', decide_true, decide_false, e]
    exact ⟨rfl, Next.refl h⟩
  have hlg' : ¬ (1048564 : Int) < ((body.length : Nat) : Int) := by omega
  simp only [k20_a, WK, vop, evAll, evOpt, evParts, vbuiltin, vun, vextract, Nat.reduceLT, Nat.reduceEqDiff, ↓reduceIte, reduceCtorEq, Nat.reduceAdd, Int.reduceLT, Int.reduceNeg, valloc_std, noSB, vhot, List.getD_cons_zero, List.getD_cons_succ, oe, sbE, hn, hlen, hlg', decide_false]
  refine KD.ret (down_does h) ?_
  cases hon : d.on with
  | false =>
    have e : saveD n body d = (20, d) := by unfold saveD; rw [if_neg hn, if_neg hlg, if_pos hon]
    simp only [k20_a, WK, vop, evAll, evOpt, evParts, vbuiltin, vun, vextract, Nat.reduceLT, Nat.reduceEqDiff, ↓reduceIte, reduceCtorEq, Nat.reduceAdd, Int.reduceLT, Int.reduceNeg, valloc_std, noSB, vhot, List.getD_cons_zero, List.getD_cons_succ, Bool.not_false, e]
    exact ⟨rfl, Next.refl h⟩
  | true =>
    have e0 : saveD n body d = thenD (rmDraft d) fun d1 => thenD (appendD dr (encS n body) d1) fun d2 => thenD (syncD dr d2) fun d3 => thenD (renameD dr (nameP 115 0 n) d3) fun d4 => purgeD n (namesD d4) d4 := by
      unfold saveD; rw [if_neg hn, if_neg hlg, if_neg (by simp [hon])]
    obtain ⟨p1, s1, c1, v1, q1, rfl, n1, K1, I1⟩ := read_sees (n := dr) h hok
    have D1 := h.pushes K1
    -- behind the draft's going
    obtain ⟨K, hK⟩ : ∃ K, K = seqC Tryd.prog prims 86 ((.seq (.seq (.region k20_r14) (.seq (.region k20_r15) (.cond (.tmp 49) (.seq (.region k20_r16) .ret) .skip))) (.seq (.seq (.region k20_r17) (.seq (.region k20_r18) (.cond (.tmp 54) (.seq (.region k20_r19) .ret) .skip))) (.seq (.seq (.region k20_r20) (.seq (.region k20_r21) (.cond (.tmp 61) (.seq (.region k20_r22) .ret) .skip))) (.seq (.seq (.region k20_r23) (.block 1 (.loop k20_l0))) (.seq (.region k20_r32) .ret))))) : CC) (fnK Tryd.prog 86 [ResultVar.tmp 6] fun q σ' => q = .ret (.int .i64 ((saveD n body d).1 : Nat)) ∧ Next σ r rm fs σ' (saveD n body d).2) := ⟨_, rfl⟩
    have tail : ∀ (e : Nat → V) (s : St) (d1 : Dk) (fs1 : List Ent), e 0 = .optr r 0 → e 1 = .int .i64 n → e 2 = x → DiskAt s r d1 rm fs1 → d1.Ok → d1.writes ≤ 1000000001 → KS (foot r rm fs) σ s → (∀ y ∈ foot r rm fs1, y ∈ foot r rm fs ∨ σ.objs.length ≤ y) → saveD n body d = saveRest n body d1 → K .normal e s := by
      intro e s d1 fs1 g0 g1 g2 D1 ok1 hw1 K1 I1 hsv
      rw [hsv] at hK
      have toσ : ∀ (u : St) (d' : Dk), Next s r rm fs1 u d' → Next σ r rm fs u d' := fun u d' hN => Next.trans K1 I1 hN
      obtain ⟨q2, s2, c2, v2, rfl, b2, k2⟩ := encode_sees (σ := s) (n := n) hb hl
      have hel := encS_len n body
      have D2 := D1.pushes (k2.ks [])
      obtain ⟨q3, s3, c3, rfl, fs3, D3, K3, I3⟩ := append_sees (n := dr) D2 ok1 (by omega) (.inl b2 : RB s2 v2 (encS n body)) (by omega)
      obtain ⟨ok3, hw3⟩ := append_ok (n := dr) (b := encS n body) ok1
      have N3 : Next s r rm fs1 s3 (appendD dr (encS n body) d1).2 := ⟨fs3, D3, (k2.ks _).trans' K3, fun y hy => by
        rcases I3 y hy with h | h
        · exact .inl h
        · have := (k2.ks []).le; omega⟩
      rw [hK]
      simp only [k20_a, WK, vop, evAll, evOpt, evParts, vbuiltin, vun, vextract, Nat.reduceLT, Nat.reduceEqDiff, ↓reduceIte, reduceCtorEq, Nat.reduceAdd, Int.reduceLT, Int.reduceNeg, valloc_std, noSB, vhot, g0, g1, g2, od]
      refine KD.ret c2 ?_
      simp only [k20_a, WK, vop, evAll, evOpt, evParts, vbuiltin, vun, vextract, Nat.reduceLT, Nat.reduceEqDiff, ↓reduceIte, reduceCtorEq, Nat.reduceAdd, Int.reduceLT, Int.reduceNeg, valloc_std, noSB, vhot, g0, g1, g2, od]
      refine KD.ret c3 ?_
      by_cases e3 : (appendD dr (encS n body) d1).1 = 0
      rotate_left
      · have e3' : ¬ (((appendD dr (encS n body) d1).1 : Nat) : Int) = 0 := by omega
        have er : saveRest n body d1 = appendD dr (encS n body) d1 := by unfold saveRest thenD; rw [if_pos e3]
        simp only [k20_a, WK, vop, evAll, evOpt, evParts, vbuiltin, vun, vextract, Nat.reduceLT, Nat.reduceEqDiff, ↓reduceIte, reduceCtorEq, Nat.reduceAdd, Int.reduceLT, Int.reduceNeg, valloc_std, noSB, vhot, e3', decide_false, Bool.not_false, er]
        exact toσ _ _ N3
      have er3 : saveRest n body d1 = saveRest2 n (appendD dr (encS n body) d1).2 := by unfold saveRest thenD; rw [if_neg (by omega)]; try rfl
      rw [er3]
      have e3' : (((appendD dr (encS n body) d1).1 : Nat) : Int) = 0 := by omega
      generalize (appendD dr (encS n body) d1).2 = d2 at *
      obtain ⟨q4, s4, c4, rfl, fs4, D4, K4, I4⟩ := sync_sees (n := dr) D3 ok3 (by omega)
      obtain ⟨ok4, hw4⟩ := sync_ok (n := dr) ok3
      obtain ⟨fs3', D3', K3', I3'⟩ := N3
      have N4 : Next s r rm fs1 s4 (syncD dr d2).2 := ⟨fs4, D4, ((k2.ks _).trans' K3).trans K4 (fun y hy => by
        rcases I3 y hy with h | h
        · exact .inl h
        · have := (k2.ks []).le; exact .inr (by omega)), fun y hy => by
        rcases I4 y hy with h | h
        · rcases I3 y h with h | h
          · exact .inl h
          · have := (k2.ks []).le; exact .inr (by omega)
        · have := (k2.ks []).le; have := K3.le; exact .inr (by omega)⟩
      simp only [k20_a, WK, vop, evAll, evOpt, evParts, vbuiltin, vun, vextract, Nat.reduceLT, Nat.reduceEqDiff, ↓reduceIte, reduceCtorEq, Nat.reduceAdd, Int.reduceLT, Int.reduceNeg, valloc_std, noSB, vhot, e3', eq_self, decide_true, Bool.not_true, g0, g1, g2, od]
      refine KD.ret c4 ?_
      by_cases e4 : (syncD dr d2).1 = 0
      rotate_left
      · have e4' : ¬ (((syncD dr d2).1 : Nat) : Int) = 0 := by omega
        have er : saveRest2 n d2 = syncD dr d2 := by unfold saveRest2 thenD; rw [if_pos e4]
        simp only [k20_a, WK, vop, evAll, evOpt, evParts, vbuiltin, vun, vextract, Nat.reduceLT, Nat.reduceEqDiff, ↓reduceIte, reduceCtorEq, Nat.reduceAdd, Int.reduceLT, Int.reduceNeg, valloc_std, noSB, vhot, e4', decide_false, Bool.not_false, er]
        exact toσ _ _ N4
      have er4 : saveRest2 n d2 = saveRest3 n (syncD dr d2).2 := by unfold saveRest2 thenD; rw [if_neg (by omega)]; try rfl
      rw [er4]
      have e4' : (((syncD dr d2).1 : Nat) : Int) = 0 := by omega
      generalize (syncD dr d2).2 = d3 at *
      obtain ⟨fs4', D4', K4', I4'⟩ := N4
      obtain ⟨q5, s5, c5, rfl, fs5, D5, K5, I5⟩ := rename_sees (n := dr) (m := nameP 115 0 n) D4' ok4 (by omega)
      obtain ⟨ok5, hw5⟩ := rename_ok (n := dr) (m := nameP 115 0 n) ok4
      have N5 : Next s r rm fs1 s5 (renameD dr (nameP 115 0 n) d3).2 := Next.trans K4' I4' ⟨fs5, D5, K5, I5⟩
      simp only [k20_a, WK, vop, evAll, evOpt, evParts, vbuiltin, vun, vextract, Nat.reduceLT, Nat.reduceEqDiff, ↓reduceIte, reduceCtorEq, Nat.reduceAdd, Int.reduceLT, Int.reduceNeg, valloc_std, noSB, vhot, e4', eq_self, decide_true, Bool.not_true, g0, g1, g2, od]
      refine KD.ret (sname_does n) ?_
      simp only [k20_a, WK, vop, evAll, evOpt, evParts, vbuiltin, vun, vextract, Nat.reduceLT, Nat.reduceEqDiff, ↓reduceIte, reduceCtorEq, Nat.reduceAdd, Int.reduceLT, Int.reduceNeg, valloc_std, noSB, vhot, g0, g1, g2, od]
      refine KD.ret c5 ?_
      by_cases e5 : (renameD dr (nameP 115 0 n) d3).1 = 0
      rotate_left
      · have e5' : ¬ (((renameD dr (nameP 115 0 n) d3).1 : Nat) : Int) = 0 := by omega
        have er : saveRest3 n d3 = renameD dr (nameP 115 0 n) d3 := by unfold saveRest3 thenD; rw [if_pos e5]
        simp only [k20_a, WK, vop, evAll, evOpt, evParts, vbuiltin, vun, vextract, Nat.reduceLT, Nat.reduceEqDiff, ↓reduceIte, reduceCtorEq, Nat.reduceAdd, Int.reduceLT, Int.reduceNeg, valloc_std, noSB, vhot, e5', decide_false, Bool.not_false, er]
        exact toσ _ _ N5
      have er5 : saveRest3 n d3 = purgeD n (namesD (renameD dr (nameP 115 0 n) d3).2) (renameD dr (nameP 115 0 n) d3).2 := by unfold saveRest3 thenD; rw [if_neg (by omega)]
      rw [er5]
      have e5' : (((renameD dr (nameP 115 0 n) d3).1 : Nat) : Int) = 0 := by omega
      generalize (renameD dr (nameP 115 0 n) d3).2 = d4 at *
      obtain ⟨fs5', D5', K5', I5'⟩ := N5
      obtain ⟨q6, s6, c6, v6, o6, rfl, n6, K6, I6⟩ := names_sees D5' ok5
      have D6 := D5'.pushes K6
      have hflt := D5'.lt
      obtain ⟨L, hL⟩ : ∃ L, L = namesD d4 := ⟨_, rfl⟩
      have hL16 := namesD_len ok5
      rw [← hL] at n6 hL16 ⊢
      have R6 : RowS s6 1 v6 (L.map V.str) L.length := row_strs n6
      have f6 : Free o6 (foot r rm fs5') := Free.high I6 hflt
      simp only [k20_a, WK, vop, evAll, evOpt, evParts, vbuiltin, vun, vextract, Nat.reduceLT, Nat.reduceEqDiff, ↓reduceIte, reduceCtorEq, Nat.reduceAdd, Int.reduceLT, Int.reduceNeg, valloc_std, noSB, vhot, e5', eq_self, decide_true, Bool.not_true, g0, g1, g2, od]
      refine KD.ret c6 ?_
      simp only [k20_a, WK, vop, evAll, evOpt, evParts, vbuiltin, vun, vextract, Nat.reduceLT, Nat.reduceEqDiff, ↓reduceIte, reduceCtorEq, Nat.reduceAdd, Int.reduceLT, Int.reduceNeg, valloc_std, noSB, vhot, R6.len TSS]
      refine Ev.loopF (fun (i : Nat) e2 u => e2 66 = .int .i64 (i : Nat) ∧ i ≤ L.length ∧ ∃ dd fu, DiskAt u r dd rm fu ∧ dd.Ok ∧ dd.writes ≤ 1000000100 + i ∧ purgeD n L d4 = purgeD n (L.drop i) dd ∧ KS (foot r rm fs5') s6 u ∧ (∀ y ∈ foot r rm fu, y ∈ foot r rm fs5' ∨ s6.objs.length ≤ y)) (fun i => L.length - i) 0 ?_ ?_
      · exact ⟨by simp [upd_some], Nat.zero_le _, d4, fs5', D6, ok5, by omega, by rw [List.drop_zero], KS.refl _ _, fun y hy => .inl hy⟩
      rintro i e2 u ⟨k66, hi, dd, fu, DU, okU, hwU, hpU, KU, IU⟩ hf2
      have k0 : e2 0 = .optr r 0 := (hf2 0 (by decide)).trans (by simp [upd_some, g0])
      have k1 : e2 1 = .int .i64 n := (hf2 1 (by decide)).trans (by simp [upd_some, g1])
      have k64 : e2 64 = v6 := (hf2 64 (by decide)).trans (by simp [upd_some])
      have k65 : e2 65 = .int .i64 (L.length : Nat) := (hf2 65 (by decide)).trans (by simp [upd_some])
      clear hf2
      have toN : ∀ (u' : St) (d' : Dk), Next u r rm fu u' d' → Next σ r rm fs u' d' := fun u' d' hN => toσ _ _ (Next.trans K5' I5' (Next.trans (K6.nils.trans KU (fun y hy => .inl hy)) (fun y hy => by
        rcases IU y hy with h | h
        · exact .inl h
        · have := K6.le; exact .inr (by omega)) hN))
      by_cases hlt : i < L.length
      · have hlt' : (i : Int) < (L.length : Nat) := by omega
        have hwi : IntKind.i64.wrap ((i : Int) + 1) = ((i + 1 : Nat) : Int) := by rw [wrap_i64 (by omega) (by omega)]; omega
        have hdrop : L.drop i = L[i] :: L.drop (i + 1) := List.drop_eq_getElem_cons hlt
        have n6u := rowOf_free n6 f6 KU
        have RU : RowS u 1 v6 (L.map V.str) L.length := row_strs n6u
        obtain ⟨pa, ha, hla⟩ := RU.strAt hlt
        have hla := hla u (KS.refl _ _)
        obtain ⟨q7, s7, c7, rfl, K7⟩ := number_sees (σ := u) L[i]
        have D7 := DU.pushes K7
        simp only [k20_a, WK, vop, evAll, evOpt, evParts, vbuiltin, vun, vextract, Nat.reduceLT, Nat.reduceEqDiff, ↓reduceIte, reduceCtorEq, Nat.reduceAdd, Int.reduceLT, Int.reduceNeg, valloc_std, noSB, vhot, k66, k65, k64, hlt', decide_true, ha, hla]
        refine KD.ret c7 ?_
        by_cases hz : numZ L[i] < 0 ∨ numZ L[i] = n
        · have hp2 : purgeD n L d4 = purgeD n (L.drop (i + 1)) dd := by rw [hpU, hdrop, purgeD, if_pos hz]
          have fin : ∀ (e3 : Nat → V), e3 66 = .int .i64 ((i + 1 : Nat) : Int) → ∃ j, (e3 66 = .int .i64 (j : Nat) ∧ j ≤ L.length ∧ ∃ dd fu, DiskAt s7 r dd rm fu ∧ dd.Ok ∧ dd.writes ≤ 1000000100 + j ∧ purgeD n L d4 = purgeD n (L.drop j) dd ∧ KS (foot r rm fs5') s6 s7 ∧ (∀ y ∈ foot r rm fu, y ∈ foot r rm fs5' ∨ s6.objs.length ≤ y)) ∧ L.length - j < L.length - i := fun e3 h3 => ⟨i + 1, ⟨h3, by omega, dd, fu, D7, okU, by omega, hp2, KU.trans' K7.nils, IU⟩, by omega⟩
          by_cases hz0 : numZ L[i] < 0
          · simp only [k20_a, WK, vop, evAll, evOpt, evParts, vbuiltin, vun, vextract, Nat.reduceLT, Nat.reduceEqDiff, ↓reduceIte, reduceCtorEq, Nat.reduceAdd, Int.reduceLT, Int.reduceNeg, valloc_std, noSB, vhot, k66, k1, hz0, decide_true, hwi]
            exact fin (fun _ => .int .i64 ((i + 1 : Nat) : Int)) rfl
          · have hzn : numZ L[i] = n := hz.resolve_left hz0
            have hn0 : ¬ n < 0 := by rw [← hzn]; exact hz0
            simp only [k20_a, WK, vop, evAll, evOpt, evParts, vbuiltin, vun, vextract, Nat.reduceLT, Nat.reduceEqDiff, ↓reduceIte, reduceCtorEq, Nat.reduceAdd, Int.reduceLT, Int.reduceNeg, valloc_std, noSB, vhot, k66, k1, hzn, hn0, eq_self, decide_true, decide_false, hwi]
            exact fin (fun _ => .int .i64 ((i + 1 : Nat) : Int)) rfl
        · have hz0 : ¬ numZ L[i] < 0 := fun h => hz (.inl h)
          have hzn : ¬ numZ L[i] = n := fun h => hz (.inr h)
          have hp2 : purgeD n L d4 = thenD (removeD L[i] dd) (purgeD n (L.drop (i + 1))) := by rw [hpU, hdrop, purgeD, if_neg hz]
          obtain ⟨q8, s8, c8, rfl, fs8, D8, K8, I8⟩ := remove_sees (n := L[i]) D7 okU (by omega)
          obtain ⟨ok8, hw8⟩ := remove_ok (n := L[i]) okU
          have N8 : Next u r rm fu s8 (removeD L[i] dd).2 := ⟨fs8, D8, K7.nils.trans' K8, fun y hy => by
            rcases I8 y hy with h | h
            · exact .inl h
            · have := K7.le; exact .inr (by omega)⟩
          simp only [k20_a, WK, vop, evAll, evOpt, evParts, vbuiltin, vun, vextract, Nat.reduceLT, Nat.reduceEqDiff, ↓reduceIte, reduceCtorEq, Nat.reduceAdd, Int.reduceLT, Int.reduceNeg, valloc_std, noSB, vhot, k66, k1, k0, hz0, hzn, decide_false]
          refine KD.ret c8 ?_
          by_cases e8 : (removeD L[i] dd).1 = 0
          · have e8' : (((removeD L[i] dd).1 : Nat) : Int) = 0 := by omega
            have hp3 : purgeD n L d4 = purgeD n (L.drop (i + 1)) (removeD L[i] dd).2 := by rw [hp2]; unfold thenD; rw [if_neg (by omega)]
            simp only [k20_a, WK, vop, evAll, evOpt, evParts, vbuiltin, vun, vextract, Nat.reduceLT, Nat.reduceEqDiff, ↓reduceIte, reduceCtorEq, Nat.reduceAdd, Int.reduceLT, Int.reduceNeg, valloc_std, noSB, vhot, k66, e8', eq_self, decide_true, Bool.not_true, hwi]
            exact ⟨i + 1, ⟨by simp [upd_some], by omega, _, fs8, D8, ok8, by omega, hp3, (KU.trans' K7.nils).trans K8 (fun y hy => by
              rcases IU y hy with h | h
              · exact .inl h
              · exact .inr h), fun y hy => by
              rcases I8 y hy with h | h
              · exact IU y h
              · have := K7.le; have := KU.le; exact .inr (by omega)⟩, by omega⟩
          · have e8' : ¬ (((removeD L[i] dd).1 : Nat) : Int) = 0 := by omega
            have hp3 : purgeD n L d4 = removeD L[i] dd := by rw [hp2]; unfold thenD; rw [if_pos e8]
            rw [hp3]
            simp only [k20_a, WK, vop, evAll, evOpt, evParts, vbuiltin, vun, vextract, Nat.reduceLT, Nat.reduceEqDiff, ↓reduceIte, reduceCtorEq, Nat.reduceAdd, Int.reduceLT, Int.reduceNeg, valloc_std, noSB, vhot, e8', decide_false, Bool.not_false]
            exact toN _ _ N8
      · have hlt' : ¬ (i : Int) < (L.length : Nat) := by omega
        have hp2 : purgeD n L d4 = (0, dd) := by rw [hpU, List.drop_of_length_le (by omega), purgeD]
        rw [hp2]
        simp only [k20_a, WK, vop, evAll, evOpt, evParts, vbuiltin, vun, vextract, Nat.reduceLT, Nat.reduceEqDiff, ↓reduceIte, reduceCtorEq, Nat.reduceAdd, Int.reduceLT, Int.reduceNeg, valloc_std, noSB, vhot, k66, k65, hlt', decide_false]
        exact ⟨rfl, toN _ _ (Next.refl DU)⟩
    simp only [k20_a, WK, vop, evAll, evOpt, evParts, vbuiltin, vun, vextract, Nat.reduceLT, Nat.reduceEqDiff, ↓reduceIte, reduceCtorEq, Nat.reduceAdd, Int.reduceLT, Int.reduceNeg, valloc_std, noSB, vhot, List.getD_cons_zero, List.getD_cons_succ, od]
    refine KD.ret c1 ?_
    rw [← hK]
    by_cases hrd : (readD dr d).1 = 0
    · have hrd' : (((readD dr d).1 : Nat) : Int) = 0 := by omega
      obtain ⟨q2, s2, c2, rfl, fs2, D2, K2, I2⟩ := remove_sees (n := dr) D1 hok (by omega)
      obtain ⟨ok2, hw2⟩ := remove_ok (n := dr) hok
      have N2 : Next σ r rm fs s2 (removeD dr d).2 := ⟨fs2, D2, K1.nils.trans' K2, fun y hy => by
        rcases I2 y hy with h | h
        · exact .inl h
        · have := K1.le; exact .inr (by omega)⟩
      simp only [k20_a, WK, vop, evAll, evOpt, evParts, vbuiltin, vun, vextract, Nat.reduceLT, Nat.reduceEqDiff, ↓reduceIte, reduceCtorEq, Nat.reduceAdd, Int.reduceLT, Int.reduceNeg, valloc_std, noSB, vhot, List.getD_cons_zero, List.getD_cons_succ, od, hrd', eq_self, decide_true]
      refine KD.ret c2 ?_
      by_cases e2 : (removeD dr d).1 = 0
      · have e2' : (((removeD dr d).1 : Nat) : Int) = 0 := by omega
        simp only [k20_a, WK, vop, evAll, evOpt, evParts, vbuiltin, vun, vextract, Nat.reduceLT, Nat.reduceEqDiff, ↓reduceIte, reduceCtorEq, Nat.reduceAdd, Int.reduceLT, Int.reduceNeg, valloc_std, noSB, vhot, List.getD_cons_zero, List.getD_cons_succ, e2', eq_self, decide_true, Bool.not_true]
        refine tail _ s2 _ fs2 ?_ ?_ ?_ D2 ok2 (by omega) (K1.nils.trans' K2) (fun y hy => ?_) ?_
        · simp [upd_some]
        · simp [upd_some]
        · simp [upd_some]
        · obtain ⟨_, _, _, h⟩ := N2
          rcases I2 y hy with h | h
          · exact .inl h
          · have := K1.le; exact .inr (by omega)
        · rw [e0]; unfold rmDraft; rw [if_pos hrd]; unfold thenD; rw [if_neg (by omega)]; try rfl
      · have e2' : ¬ (((removeD dr d).1 : Nat) : Int) = 0 := by omega
        rw [hK]
        have er : saveD n body d = removeD dr d := by rw [e0]; unfold rmDraft; rw [if_pos hrd]; unfold thenD; rw [if_pos e2]
        simp only [k20_a, WK, vop, evAll, evOpt, evParts, vbuiltin, vun, vextract, Nat.reduceLT, Nat.reduceEqDiff, ↓reduceIte, reduceCtorEq, Nat.reduceAdd, Int.reduceLT, Int.reduceNeg, valloc_std, noSB, vhot, List.getD_cons_zero, List.getD_cons_succ, e2', decide_false, Bool.not_false, er]
        exact N2
    · have hrd' : ¬ (((readD dr d).1 : Nat) : Int) = 0 := by omega
      simp only [k20_a, WK, vop, evAll, evOpt, evParts, vbuiltin, vun, vextract, Nat.reduceLT, Nat.reduceEqDiff, ↓reduceIte, reduceCtorEq, Nat.reduceAdd, Int.reduceLT, Int.reduceNeg, valloc_std, noSB, vhot, List.getD_cons_zero, List.getD_cons_succ, od, hrd', decide_false]
      refine tail _ s1 d fs ?_ ?_ ?_ D1 hok (by omega) K1.nils (fun y hy => .inl hy) ?_
      · simp [upd_some]
      · simp [upd_some]
      · simp [upd_some]
      · rw [e0]; unfold rmDraft; rw [if_neg hrd]; unfold thenD; rw [if_neg (by simp)]; try rfl
end Go.Proofs.YtnegdinonfjdfaaDoor.Q

/- Load. -/
set_option linter.unusedVariables false
set_option linter.unusedSimpArgs false
set_option maxRecDepth 100000
namespace Go.Proofs.YtnegdinonfjdfaaDoor.Q
open Go Go.RowKit Go.Proofs
def loadN (d : Dk) : List (List UInt8) → Int × List UInt8 → Int × List UInt8
  | [], a => a
  | x :: l, a => if numZ x < 0 then loadN d l a else if (decS (numZ x) (readD x d).2).2 = 0 then loadN d l (numZ x, (decS (numZ x) (readD x d).2).1) else loadN d l a
def loadD (d : Dk) : (Int × List UInt8) × Nat := if d.on = false then ((0, []), 20) else (loadN d (namesD d) (-1, []), 0)
theorem vice_int (σ : St) (k : IntKind) (n : Int) : vice σ (.int k n) = none := rfl
/-- What was read is not written any more. -/
theorem iced {σ : St} {v : V} {q : Option Nat} {bs : List UInt8} (h : rowOf σ.objs v = some (q, bs.map byteV)) : ∃ v' σ', (vice σ v = some (v', σ') ∨ (vice σ v = none ∧ v' = v ∧ σ' = σ)) ∧ BtsV v' bs ∧ KS q.toList σ σ' := by
  rcases rowOf_spec h with ⟨rfl, rfl, e⟩ | ⟨r, full, rfl, rfl, hr, hl, hc⟩
  · have : bs = [] := by simpa using e
    subst this
    exact ⟨.nils, σ, .inr ⟨rfl, rfl, rfl⟩, .inl ⟨rfl, rfl⟩, KS.refl _ _⟩
  · refine ⟨.slice .ro 1 (bs.map byteV) bs.length, ⟨σ.objs.set r .dead, σ.toks⟩, .inl ?_, .inr ⟨.ro, rfl⟩, KS.set (.inl (by simp)) _⟩
    simp only [List.length_map] at hl hc ⊢
    simp only [vice, hr, Nat.zero_add]
    rw [if_pos hl, List.drop_zero, ← hc]
theorem load_sees {σ : St} {r rm : Nat} {d : Dk} {fs : List Ent} (h : DiskAt σ r d rm fs) (hok : d.Ok) :
    ∃ q σ', Does Tryd.prog prims 21 [.optr r 0] σ q σ' ∧ ∃ v, q = .ret (.tuple [.int .i64 (loadD d).1.1, v, .int .i64 ((loadD d).2 : Nat)]) ∧ BtsV v (loadD d).1.2 ∧ KS [] σ σ' := by
  apply k21_is.does (by simp)
  simp only [k21_a, WK, vop, evAll, evOpt, evParts, vbuiltin, vun, vextract, Nat.reduceLT, Nat.reduceEqDiff, ↓reduceIte, reduceCtorEq, Nat.reduceAdd, Int.reduceLT, Int.reduceNeg, valloc_std, noSB, vhot, List.getD_cons_zero, List.getD_cons_succ, ofNilP, nilEP, eql_optr pTD]
  refine KD.ret (down_does h) ?_
  cases hon : d.on with
  | false =>
    have e : loadD d = ((0, []), 20) := by unfold loadD; rw [if_pos hon]
    simp only [k21_a, WK, vop, evAll, evOpt, evParts, vbuiltin, vun, vextract, Nat.reduceLT, Nat.reduceEqDiff, ↓reduceIte, reduceCtorEq, Nat.reduceAdd, Int.reduceLT, Int.reduceNeg, valloc_std, noSB, vhot, List.getD_cons_zero, List.getD_cons_succ, Bool.not_false, nilEP, e]
    exact ⟨.nils, rfl, .inl ⟨rfl, rfl⟩, KS.refl _ _⟩
  | true =>
    have e : loadD d = (loadN d (namesD d) (-1, []), 0) := by unfold loadD; rw [if_neg (by simp [hon])]
    rw [e]
    obtain ⟨q1, s1, c1, v1, o1, rfl, n1, K1, I1⟩ := names_sees h hok
    have D1 := h.pushes K1
    have hL16 := namesD_len hok
    generalize hL : namesD d = L at n1 hL16
    have R1 : RowS s1 1 v1 (L.map V.str) L.length := row_strs n1
    simp only [k21_a, WK, vop, evAll, evOpt, evParts, vbuiltin, vun, vextract, Nat.reduceLT, Nat.reduceEqDiff, ↓reduceIte, reduceCtorEq, Nat.reduceAdd, Int.reduceLT, Int.reduceNeg, valloc_std, noSB, vhot, List.getD_cons_zero, List.getD_cons_succ, Bool.not_true, nilEP]
    refine KD.ret c1 ?_
    simp only [k21_a, WK, vop, evAll, evOpt, evParts, vbuiltin, vun, vextract, Nat.reduceLT, Nat.reduceEqDiff, ↓reduceIte, reduceCtorEq, Nat.reduceAdd, Int.reduceLT, Int.reduceNeg, valloc_std, noSB, vhot, List.getD_cons_zero, List.getD_cons_succ, R1.len TSS]
    refine Ev.loopF (fun (i : Nat) e s => e 23 = .int .i64 (i : Nat) ∧ i ≤ L.length ∧ ∃ best, e 5 = .int .i64 best.1 ∧ BtsV (e 6) best.2 ∧ loadN d L (-1, []) = loadN d (L.drop i) best ∧ KS [] s1 s) (fun i => L.length - i) 0 ?_ ?_
    · exact ⟨by simp [upd_some], Nat.zero_le _, (-1, []), by simp [upd_some], by simp [upd_some, BtsV], by rw [List.drop_zero], KS.refl _ _⟩
    rintro i e s ⟨h23, hi, best, h5, h6, hlo, hk⟩ hf
    have g0 : e 0 = .optr r 0 := (hf 0 (by decide)).trans (by simp [upd_some])
    have g21 : e 21 = v1 := (hf 21 (by decide)).trans (by simp [upd_some])
    have g22 : e 22 = .int .i64 (L.length : Nat) := (hf 22 (by decide)).trans (by simp [upd_some])
    clear hf
    by_cases hlt : i < L.length
    · have hlt' : (i : Int) < (L.length : Nat) := by omega
      have hwi : IntKind.i64.wrap ((i : Int) + 1) = ((i + 1 : Nat) : Int) := by rw [wrap_i64 (by omega) (by omega)]; omega
      have hdrop : L.drop i = L[i] :: L.drop (i + 1) := List.drop_eq_getElem_cons hlt
      obtain ⟨pa, ha, hla⟩ := R1.strAt hlt
      have hla := hla s hk
      obtain ⟨q2, s2, c2, rfl, K2⟩ := number_sees (σ := s) L[i]
      simp only [k21_a, WK, vop, evAll, evOpt, evParts, vbuiltin, vun, vextract, Nat.reduceLT, Nat.reduceEqDiff, ↓reduceIte, reduceCtorEq, Nat.reduceAdd, Int.reduceLT, Int.reduceNeg, valloc_std, noSB, vhot, h23, g22, g21, hlt', decide_true, ha, hla]
      refine KD.ret c2 ?_
      by_cases hz0 : numZ L[i] < 0
      · simp only [k21_a, WK, vop, evAll, evOpt, evParts, vbuiltin, vun, vextract, Nat.reduceLT, Nat.reduceEqDiff, ↓reduceIte, reduceCtorEq, Nat.reduceAdd, Int.reduceLT, Int.reduceNeg, valloc_std, noSB, vhot, h23, hz0, decide_true, hwi]
        exact ⟨i + 1, ⟨by simp [upd_some], by omega, best, by simp [upd_some, h5], by simpa [upd_some] using h6, by rw [hlo, hdrop, loadN, if_pos hz0], hk.trans' K2⟩, by omega⟩
      obtain ⟨q3, s3, c3, v3, o3, rfl, n3, K3, I3⟩ := read_sees (n := L[i]) ((D1.pushes hk).pushes K2) hok
      obtain ⟨v4, s4, ei, b4, K4⟩ := iced n3
      have hrl := readD_len hok L[i]
      obtain ⟨q5, s5, c5, v5, rfl, o5, K5⟩ := decode_sees (σ := s4) (n := numZ L[i]) b4 (by omega)
      have K34 : KS [] s2 s4 := K3.trans K4 (fun y hy => .inr (I3 y hy))
      have Kall : KS [] s1 s5 := ((hk.trans' K2).trans' K34).trans' K5
      simp only [k21_a, WK, vop, evAll, evOpt, evParts, vbuiltin, vun, vextract, Nat.reduceLT, Nat.reduceEqDiff, ↓reduceIte, reduceCtorEq, Nat.reduceAdd, Int.reduceLT, Int.reduceNeg, valloc_std, noSB, vhot, h23, g0, hz0, decide_false]
      refine KD.ret c3 ?_
      rcases ei with ei | ⟨ei, rfl, rfl⟩
      all_goals
        simp only [k21_a, WK, vop, evAll, evOpt, evParts, vbuiltin, vun, vextract, Nat.reduceLT, Nat.reduceEqDiff, ↓reduceIte, reduceCtorEq, Nat.reduceAdd, Int.reduceLT, Int.reduceNeg, valloc_std, noSB, vhot, ei, vice_int]
        refine KD.ret c5 ?_
        by_cases hd : (decS (numZ L[i]) (readD L[i] d).2).2 = 0
        · have hd' : (((decS (numZ L[i]) (readD L[i] d).2).2 : Nat) : Int) = 0 := by omega
          simp only [k21_a, WK, vop, evAll, evOpt, evParts, vbuiltin, vun, vextract, Nat.reduceLT, Nat.reduceEqDiff, ↓reduceIte, reduceCtorEq, Nat.reduceAdd, Int.reduceLT, Int.reduceNeg, valloc_std, noSB, vhot, h23, hd', eq_self, decide_true, hwi]
          exact ⟨i + 1, ⟨by simp [upd_some], by omega, (numZ L[i], (decS (numZ L[i]) (readD L[i] d).2).1), by simp [upd_some], by simpa [upd_some] using o5.bts, by rw [hlo, hdrop, loadN, if_neg hz0, if_pos hd], Kall⟩, by omega⟩
        · have hd' : ¬ (((decS (numZ L[i]) (readD L[i] d).2).2 : Nat) : Int) = 0 := by omega
          simp only [k21_a, WK, vop, evAll, evOpt, evParts, vbuiltin, vun, vextract, Nat.reduceLT, Nat.reduceEqDiff, ↓reduceIte, reduceCtorEq, Nat.reduceAdd, Int.reduceLT, Int.reduceNeg, valloc_std, noSB, vhot, h23, hd', decide_false, hwi]
          exact ⟨i + 1, ⟨by simp [upd_some], by omega, best, by simp [upd_some, h5], by simpa [upd_some] using h6, by rw [hlo, hdrop, loadN, if_neg hz0, if_neg hd], Kall⟩, by omega⟩
    · have hlt' : ¬ (i : Int) < (L.length : Nat) := by omega
      have hdrop : L.drop i = [] := List.drop_of_length_le (by omega)
      rw [hlo, hdrop, loadN]
      simp only [k21_a, WK, vop, evAll, evOpt, evParts, vbuiltin, vun, vextract, Nat.reduceLT, Nat.reduceEqDiff, ↓reduceIte, reduceCtorEq, Nat.reduceAdd, Int.reduceLT, Int.reduceNeg, valloc_std, noSB, vhot, h23, g22, hlt', decide_false, h5]
      exact ⟨e 6, rfl, h6, K1.trans' hk⟩
end Go.Proofs.YtnegdinonfjdfaaDoor.Q

/- What a Save does to a disk, with the power going anywhere: plainly. -/
set_option linter.unusedVariables false
set_option linter.unusedSimpArgs false
set_option maxRecDepth 100000
namespace Go.Proofs.YtnegdinonfjdfaaDoor.Q
open Go Go.RowKit Go.Proofs
/-! ### Saving keeps a disk right -/
theorem then_ok {r : Nat × Dk} {f : Dk → Nat × Dk} {w k : Nat} (h : r.2.Ok ∧ r.2.writes ≤ w) (hf : ∀ d : Dk, d.Ok → (f d).2.Ok ∧ (f d).2.writes ≤ d.writes + k) : (thenD r f).2.Ok ∧ (thenD r f).2.writes ≤ w + k := by
  unfold thenD
  split
  · exact ⟨h.1, by omega⟩
  · obtain ⟨h1, h2⟩ := hf _ h.1
    exact ⟨h1, by omega⟩
theorem purge_ok (n : Int) : ∀ (L : List (List UInt8)) (d : Dk), d.Ok → (purgeD n L d).2.Ok ∧ (purgeD n L d).2.writes ≤ d.writes + L.length
  | [], d, h => ⟨h, Nat.le_refl _⟩
  | x :: l, d, h => by
    rw [purgeD]
    split
    · obtain ⟨h1, h2⟩ := purge_ok n l d h
      exact ⟨h1, by simp only [List.length_cons]; omega⟩
    · obtain ⟨h1, h2⟩ := then_ok (k := l.length) (remove_ok (n := x) h) (fun d hd => purge_ok n l d hd)
      exact ⟨h1, by simp only [List.length_cons]; omega⟩
theorem save_ok {n : Int} {body : List UInt8} {d : Dk} (h : d.Ok) : (saveD n body d).2.Ok ∧ (saveD n body d).2.writes ≤ d.writes + 20 := by
  unfold saveD
  split
  · exact ⟨h, by simp only; omega⟩
  split
  · exact ⟨h, by simp only; omega⟩
  split
  · exact ⟨h, by simp only; omega⟩
  have hr : (rmDraft d).2.Ok ∧ (rmDraft d).2.writes ≤ d.writes + 1 := by
    unfold rmDraft
    split
    · exact remove_ok h
    · exact ⟨h, by simp only; omega⟩
  refine then_ok (w := d.writes + 1) (k := 19) hr fun d1 h1 => ?_
  refine then_ok (w := d1.writes + 1) (k := 18) (append_ok h1) fun d2 h2 => ?_
  refine then_ok (w := d2.writes + 1) (k := 17) (sync_ok h2) fun d3 h3 => ?_
  refine then_ok (w := d3.writes + 1) (k := 16) (rename_ok h3) fun d4 h4 => ?_
  obtain ⟨g1, g2⟩ := purge_ok n (namesD d4) d4 h4
  have := namesD_len h4
  exact ⟨g1, by omega⟩
/-! ### Names in their order -/
theorem digK_lt : ∀ (k a b : Nat), a < b → b < 10 ^ k → digK k a < digK k b
  | 0, a, b, h, hb => by simp at hb; omega
  | k + 1, a, b, h, hb => by
    have hmod : ∀ (k n : Nat), digK k n = digK k (n % 10 ^ k) := by
      intro k
      induction k with
      | zero => intro n; rfl
      | succ k ih =>
        intro n
        rw [digK, digK, ih (n / 10), ih (n % 10 ^ (k + 1) / 10)]
        have e1 : n % 10 ^ (k + 1) / 10 = n / 10 % 10 ^ k := by
          rw [Nat.pow_succ, Nat.mul_comm, Nat.mod_mul_right_div_self]
        have e2 : n % 10 ^ (k + 1) % 10 = n % 10 := Nat.mod_mod_of_dvd n ⟨10 ^ k, by rw [Nat.pow_succ, Nat.mul_comm]⟩
        rw [e1, e2, Nat.mod_mod]
    rw [digK_front, digK_front]
    rw [Nat.pow_succ] at hb
    have hp : 0 < 10 ^ k := Nat.pow_pos (by decide)
    have qa : a / 10 ^ k < 10 := by rw [Nat.div_lt_iff_lt_mul hp]; omega
    have qb : b / 10 ^ k < 10 := by rw [Nat.div_lt_iff_lt_mul hp]; omega
    have hq : a / 10 ^ k ≤ b / 10 ^ k := Nat.div_le_div_right (by omega)
    rw [Nat.mod_eq_of_lt qa, Nat.mod_eq_of_lt qb, List.cons_lt_cons_iff]
    rcases Nat.lt_or_ge (a / 10 ^ k) (b / 10 ^ k) with h1 | h1
    · left
      rw [UInt8.lt_iff_toNat_lt, UInt8.toNat_ofNat', UInt8.toNat_ofNat']
      generalize a / 10 ^ k = u at *
      generalize b / 10 ^ k = v at *
      omega
    · right
      have he : a / 10 ^ k = b / 10 ^ k := by omega
      refine ⟨by rw [he], ?_⟩
      rw [hmod k a, hmod k b]
      refine digK_lt k _ _ ?_ (Nat.mod_lt _ hp)
      have ha := Nat.div_add_mod a (10 ^ k)
      have hb2 := Nat.div_add_mod b (10 ^ k)
      rw [he] at ha
      omega
def nmS (a : Nat) : List UInt8 := 115 :: digK 9 a
theorem nmS_lt {a b : Nat} (h : a < b) (hb : b < 1000000000) : nmS a < nmS b := by
  unfold nmS
  rw [List.cons_lt_cons_iff]
  exact .inr ⟨rfl, digK_lt 9 a b h hb⟩
theorem dr_lt (a : Nat) : dr < nmS a := by
  unfold nmS dr
  rw [List.cons_lt_cons_iff]
  exact .inl (by decide)
theorem nmS_name {n : Nat} (h : n < 1000000000) : nameP 115 0 (n : Int) = nmS n := by
  unfold nameP nmS
  rw [if_neg (by omega), Int.toNat_natCast]
theorem nmS_num {n : Nat} (h : n < 1000000000) : numZ (nmS n) = n := by
  unfold numZ nmS
  rw [num_name h]
theorem dr_num : numZ dr = -1 := by decide
theorem nmS_named (n : Nat) : namedD (nmS n) = true := by
  unfold namedD nmS
  simp [digK_len]
theorem ne_of_lt' {a b : List UInt8} (h : a < b) : a ≠ b := fun e => lt_irrefl' b (by rw [e] at h; exact h)
/-! ### Lists of files -/
theorem putF_first {x : Fl} {l : List Fl} (h : ∀ f ∈ l, x.name < f.name) : putF x l = x :: l := by
  unfold putF
  rw [List.filter_eq_nil_iff.2 (fun f hf => by
    simp only [decide_eq_true_eq]
    exact fun h2 => lt_irrefl' _ (lt_trans' h2 (h f hf))), List.filter_eq_self.2 (fun f hf => by simpa using h f hf)]
  rfl
theorem putF_head {x y : Fl} {l : List Fl} (he : y.name = x.name) (h : ∀ f ∈ l, x.name < f.name) : putF x (y :: l) = x :: l := by
  have h0 : ¬ x.name < x.name := lt_irrefl' _
  have := putF_first h
  unfold putF at this ⊢
  simp only [List.filter_cons, he, h0, decide_false, Bool.false_eq_true, ↓reduceIte]
  exact this
theorem putF_last {x : Fl} {l : List Fl} (h : ∀ f ∈ l, f.name < x.name) : putF x l = l ++ [x] := by
  unfold putF
  rw [List.filter_eq_self.2 (fun f hf => by simpa using h f hf), List.filter_eq_nil_iff.2 (fun f hf => by
    simp only [decide_eq_true_eq]
    exact fun h2 => lt_irrefl' _ (lt_trans' h2 (h f hf)))]
theorem dropF_head {n : List UInt8} {y : Fl} {l : List Fl} (he : y.name = n) (h : ∀ f ∈ l, f.name ≠ n) : dropF n (y :: l) = l := by
  unfold dropF
  rw [List.filter_cons_of_neg (by simp [he]), List.filter_eq_self.2 (fun f hf => by simpa using h f hf)]
theorem getF_head {n : List UInt8} {y : Fl} {l : List Fl} (he : y.name = n) : getF (y :: l) n = some y := by
  unfold getF
  rw [List.find?_cons_of_pos (by simp [he])]
theorem getF_no {n : List UInt8} {l : List Fl} (h : ∀ f ∈ l, f.name ≠ n) : getF l n = none := by
  unfold getF
  rw [List.find?_eq_none]
  intro f hf
  simpa using h f hf
/-! ### One call, with the power going or not -/
/-- F0: what the power's going leaves; F1: what is there else. -/
def Did (d : Dk) (F0 F1 : List Fl) (r : Nat × Dk) : Prop :=
  (r.1 = 0 ∧ r.2.files = F1 ∧ r.2.on = true ∧ r.2.room = d.room ∧ r.2.keep = d.keep ∧ (d.armed = 0 → r.2.armed = 0)) ∨ (d.armed ≠ 0 ∧ r.1 = 20 ∧ r.2.on = false ∧ r.2.files = F0.map (offF d.keep) ∧ r.2.room = d.room)
theorem raw_two (d : Dk) : ((rawD d).1 = false ∧ (d.armed = 0 → (rawD d).2.armed = 0)) ∨ (d.armed ≠ 0 ∧ (rawD d).1 = true) := by
  unfold rawD
  split
  · exact .inl ⟨rfl, fun h => h⟩
  · rename_i h
    by_cases h1 : d.armed = 1
    · exact .inr ⟨h, by simp [h1]⟩
    · exact .inl ⟨by simp [h1], fun h0 => absurd h0 h⟩
theorem off_on {k : Int} {d : Dk} (h : d.on = true) : (offD k d).on = false ∧ (offD k d).files = d.files.map (offF k) ∧ (offD k d).room = d.room := by
  unfold offD
  rw [if_pos h]
  exact ⟨rfl, rfl, rfl⟩
theorem there_some {d : Dk} {n : List UInt8} {f : Fl} (hn : namedD n = true) (ho : d.on = true) (hg : getF d.files n = some f) : thereD d n = 0 := by
  unfold thereD
  rw [if_neg (by rw [readyD_yes hn ho]; simp), hg]
  rfl
theorem did_append {d : Dk} {n e : List UInt8} (ho : d.on = true) (hn : namedD n = true) (hg : getF d.files n = none) (hl : e.length ≤ 1048576) (hf : d.files.length < 16) (hr : ((sizeD d.files + e.length : Nat) : Int) ≤ d.room) : Did d (putF ⟨n, [], e⟩ d.files) (putF ⟨n, [], e⟩ d.files) (appendD n e d) := by
  unfold appendD
  rw [if_neg (by rw [readyD_yes hn ho]; simp), hg]
  simp only [Option.getD_none, Option.isNone_none, List.nil_append]
  rw [if_neg (by simp [Fl.len]; omega), if_neg (by rintro (h | h); omega; omega)]
  obtain ⟨r1, r2, r3, r4, r5⟩ := raw_files { d with files := putF ⟨n, [], e⟩ d.files }
  rcases raw_two { d with files := putF ⟨n, [], e⟩ d.files } with ⟨h1, h2⟩ | ⟨h1, h2⟩
  · rw [if_neg (by rw [h1]; simp)]
    exact .inl ⟨rfl, r1, r4.trans ho, r3, r2, h2⟩
  · rw [if_pos h2]
    obtain ⟨o1, o2, o3⟩ := off_on (k := d.keep) (d := (rawD { d with files := putF ⟨n, [], e⟩ d.files }).2) (r4.trans ho)
    exact .inr ⟨h1, rfl, o1, by rw [o2, r1], o3.trans r3⟩
theorem did_sync {d : Dk} {n : List UInt8} {f : Fl} (ho : d.on = true) (hn : namedD n = true) (hg : getF d.files n = some f) : Did d d.files (putF ⟨n, f.safe ++ f.wait, []⟩ d.files) (syncD n d) := by
  unfold syncD
  rw [if_neg (by rw [there_some hn ho hg]; simp), hg]
  simp only [Option.getD_some]
  obtain ⟨r1, r2, r3, r4, r5⟩ := raw_files d
  rcases raw_two d with ⟨h1, h2⟩ | ⟨h1, h2⟩
  · rw [if_neg (by rw [h1]; simp)]
    exact .inl ⟨rfl, rfl, r4.trans ho, r3, r2, h2⟩
  · rw [if_pos h2]
    obtain ⟨o1, o2, o3⟩ := off_on (k := d.keep) (d := (rawD d).2) (r4.trans ho)
    exact .inr ⟨h1, rfl, o1, by rw [o2, r1], o3.trans r3⟩
theorem did_rename {d : Dk} {n m : List UInt8} {f : Fl} (ho : d.on = true) (hn : namedD n = true) (hm : namedD m = true) (hg : getF d.files n = some f) : Did d d.files (putF ⟨m, f.safe, f.wait⟩ (dropF n d.files)) (renameD n m d) := by
  unfold renameD
  rw [if_neg (by rw [hn, hm]; simp), if_neg (by rw [there_some hn ho hg]; simp), hg]
  simp only [Option.getD_some]
  obtain ⟨r1, r2, r3, r4, r5⟩ := raw_files d
  rcases raw_two d with ⟨h1, h2⟩ | ⟨h1, h2⟩
  · rw [if_neg (by rw [h1]; simp)]
    exact .inl ⟨rfl, rfl, r4.trans ho, r3, r2, h2⟩
  · rw [if_pos h2]
    obtain ⟨o1, o2, o3⟩ := off_on (k := d.keep) (d := (rawD d).2) (r4.trans ho)
    exact .inr ⟨h1, rfl, o1, by rw [o2, r1], o3.trans r3⟩
theorem did_remove {d : Dk} {n : List UInt8} {f : Fl} (ho : d.on = true) (hn : namedD n = true) (hg : getF d.files n = some f) : Did d d.files (dropF n d.files) (removeD n d) := by
  unfold removeD
  rw [if_neg (by rw [there_some hn ho hg]; simp)]
  obtain ⟨r1, r2, r3, r4, r5⟩ := raw_files d
  rcases raw_two d with ⟨h1, h2⟩ | ⟨h1, h2⟩
  · rw [if_neg (by rw [h1]; simp)]
    exact .inl ⟨rfl, rfl, r4.trans ho, r3, r2, h2⟩
  · rw [if_pos h2]
    obtain ⟨o1, o2, o3⟩ := off_on (k := d.keep) (d := (rawD d).2) (r4.trans ho)
    exact .inr ⟨h1, rfl, o1, by rw [o2, r1], o3.trans r3⟩
end Go.Proofs.YtnegdinonfjdfaaDoor.Q

/- Whole or not at all: what a Save leaves; what Load finds. -/
set_option linter.unusedVariables false
set_option linter.unusedSimpArgs false
set_option maxRecDepth 100000
namespace Go.Proofs.YtnegdinonfjdfaaDoor.Q
open Go Go.RowKit Go.Proofs
abbrev NB := Nat × List UInt8
def fileB (p : NB) : Fl := ⟨nmS p.1, p.2, []⟩
def filesB (B : List NB) : List Fl := B.map fileB
theorem offB (k : Int) (B : List NB) : (filesB B).map (offF k) = filesB B := by
  unfold filesB
  rw [List.map_map]
  refine List.map_congr_left fun p _ => ?_
  simp [offF, fileB]
theorem name_lt {B : List NB} {n : Nat} (hB : ∀ p ∈ B, p.1 < n) (hn : n < 1000000000) : ∀ f ∈ filesB B, f.name < nmS n := by
  intro f hf
  obtain ⟨p, hp, rfl⟩ := List.mem_map.1 hf
  exact nmS_lt (hB p hp) hn
theorem name_dr (B : List NB) : ∀ f ∈ filesB B, dr < f.name := by
  intro f hf
  obtain ⟨p, hp, rfl⟩ := List.mem_map.1 hf
  exact dr_lt _
/-- What a Save comes to. -/
def Saved (d : Dk) (B : List NB) (n : Nat) (e : List UInt8) (r : Nat × Dk) : Prop :=
  (r.1 = 0 ∧ r.2.files = [fileB (n, e)] ∧ r.2.on = true ∧ r.2.room = d.room ∧ r.2.keep = d.keep ∧ (d.armed = 0 → r.2.armed = 0)) ∨
  (d.armed ≠ 0 ∧ r.1 = 20 ∧ r.2.on = false ∧ r.2.room = d.room ∧ ((∃ s, s.length ≤ e.length ∧ r.2.files = ⟨dr, s, []⟩ :: filesB B) ∨ ∃ B', B' <:+ B ∧ r.2.files = filesB B' ++ [fileB (n, e)]))
def Purged (d : Dk) (B : List NB) (n : Nat) (e : List UInt8) (r : Nat × Dk) : Prop :=
  (r.1 = 0 ∧ r.2.files = [fileB (n, e)] ∧ r.2.on = true ∧ r.2.room = d.room ∧ r.2.keep = d.keep ∧ (d.armed = 0 → r.2.armed = 0)) ∨
  (d.armed ≠ 0 ∧ r.1 = 20 ∧ r.2.on = false ∧ r.2.room = d.room ∧ ∃ B', B' <:+ B ∧ r.2.files = filesB B' ++ [fileB (n, e)])
theorem purge_from {n : Nat} {e : List UInt8} (hn : n < 1000000000) : ∀ (B : List NB) (d : Dk), d.on = true → d.files = filesB B ++ [fileB (n, e)] → (∀ p ∈ B, p.1 < n) → (B.Pairwise fun a b => a.1 < b.1) → Purged d B n e (purgeD n ((filesB B ++ [fileB (n, e)]).map Fl.name) d)
  | [], d, ho, hf, _, _ => by
    have hz : numZ (fileB (n, e)).name = n := nmS_num hn
    simp only [filesB, List.map_nil, List.nil_append, List.map_cons]
    rw [purgeD, if_pos (.inr hz), purgeD]
    exact .inl ⟨rfl, hf, ho, rfl, rfl, fun h => h⟩
  | p :: B, d, ho, hf, hB, hr => by
    have hpn := hB p (List.mem_cons_self ..)
    have hz : numZ (fileB p).name = p.1 := nmS_num (by omega)
    rw [List.pairwise_cons] at hr
    have hne : ∀ f ∈ filesB B ++ [fileB (n, e)], f.name ≠ nmS p.1 := by
      intro f hf2
      rcases List.mem_append.1 hf2 with h | h
      · obtain ⟨q, hq, rfl⟩ := List.mem_map.1 h
        have h1 := hr.1 q hq
        have h2 := hB q (List.mem_cons_of_mem _ hq)
        exact fun he => ne_of_lt' (nmS_lt h1 (by omega)) he.symm
      · rw [List.mem_singleton] at h
        subst h
        exact fun he => ne_of_lt' (nmS_lt hpn hn) he.symm
    have hf2 : d.files = fileB p :: (filesB B ++ [fileB (n, e)]) := hf
    have hd := did_remove (n := nmS p.1) (f := fileB p) ho (nmS_named _) (by rw [hf2]; exact getF_head rfl)
    have hdrop : dropF (nmS p.1) d.files = filesB B ++ [fileB (n, e)] := by rw [hf2]; exact dropF_head rfl hne
    rw [hdrop] at hd
    show Purged d (p :: B) n e (purgeD n ((fileB p).name :: (filesB B ++ [fileB (n, e)]).map Fl.name) d)
    rw [purgeD, if_neg (by rw [hz]; omega)]
    rcases hd with ⟨h1, h2, h3, h4, h5, h6⟩ | ⟨h1, h2, h3, h4, h5⟩
    · have ih := purge_from hn B (removeD (nmS p.1) d).2 h3 h2 (fun q hq => hB q (List.mem_cons_of_mem _ hq)) hr.2
      have ht : thenD (removeD (fileB p).name d) (purgeD n ((filesB B ++ [fileB (n, e)]).map Fl.name)) = purgeD n ((filesB B ++ [fileB (n, e)]).map Fl.name) (removeD (nmS p.1) d).2 := by
        unfold thenD
        rw [if_neg (by rw [show (fileB p).name = nmS p.1 from rfl, h1]; simp)]
        rfl
      rw [ht]
      rcases ih with ⟨g1, g2, g3, g4, g5, g6⟩ | ⟨g1, g2, g3, g4, g5⟩
      · exact .inl ⟨g1, g2, g3, g4.trans h4, g5.trans h5, fun h => g6 (h6 h)⟩
      · refine .inr ⟨fun h => g1 (h6 h), g2, g3, g4.trans h4, ?_⟩
        obtain ⟨B', hb, hb2⟩ := g5
        exact ⟨B', hb.trans (List.suffix_cons _ _), hb2⟩
    · have ht : thenD (removeD (fileB p).name d) (purgeD n ((filesB B ++ [fileB (n, e)]).map Fl.name)) = removeD (nmS p.1) d := by
        unfold thenD
        rw [if_pos (by rw [show (fileB p).name = nmS p.1 from rfl, h2]; simp)]
        rfl
      rw [ht]
      refine .inr ⟨h1, h2, h3, h5, p :: B, List.suffix_refl _, ?_⟩
      rw [h4, hf, List.map_append, offB]
      exact congrArg _ (offB d.keep [(n, e)])
theorem save_from {d : Dk} {B : List NB} {n : Nat} {body : List UInt8} (ho : d.on = true) (hf : d.files = filesB B) (hB : ∀ p ∈ B, p.1 < n) (hr : B.Pairwise fun a b => a.1 < b.1) (hn : n < 1000000000) (hl : (encS n body).length ≤ 1048576) (hlen : B.length < 16) (hroom : ((sizeD d.files + (encS n body).length : Nat) : Int) ≤ d.room) :
    Saved d B n (encS n body) (saveRest n body d) := by
  obtain ⟨e, he⟩ : ∃ e, e = encS n body := ⟨_, rfl⟩
  rw [← he] at hl hroom ⊢
  have hdr := name_dr B
  have hlt := name_lt hB hn
  have hne : ∀ f ∈ filesB B, f.name ≠ dr := fun f hf e => ne_of_lt' (hdr f hf) e.symm
  have hnd : namedD dr = true := by decide
  have h1 := did_append (d := d) (n := dr) (e := e) ho hnd (by rw [hf]; exact getF_no hne) hl (by rw [hf]; simpa [filesB] using hlen) hroom
  have hp1 : putF ⟨dr, [], e⟩ d.files = ⟨dr, [], e⟩ :: filesB B := by rw [hf]; exact putF_first hdr
  rw [hp1] at h1
  have hoff : ∀ (k : Int) (s w : List UInt8), (s ++ w).length ≤ e.length → ∃ s', s'.length ≤ e.length ∧ ((⟨dr, s, w⟩ : Fl) :: filesB B).map (offF k) = ⟨dr, s', []⟩ :: filesB B := fun k s w hs => by
    refine ⟨s ++ w.take k.toNat, ?_, ?_⟩
    · rw [List.length_append] at hs ⊢
      rw [List.length_take]
      omega
    · rw [List.map_cons, offB]
      rfl
  have hS : saveRest n body d = thenD (appendD dr e d) (saveRest2 n) := by unfold saveRest; rw [he]
  rw [hS]
  generalize appendD dr e d = r1 at h1
  rcases h1 with ⟨a1, a2, a3, a4, a5, a6⟩ | ⟨a1, a2, a3, a4, a5⟩
  rotate_left
  · obtain ⟨s', hs1, hs2⟩ := hoff d.keep [] e (by simp)
    unfold thenD
    rw [if_pos (by rw [a2]; simp)]
    exact .inr ⟨a1, a2, a3, a5, .inl ⟨s', hs1, a4.trans hs2⟩⟩
  unfold thenD
  rw [if_neg (by rw [a1]; simp)]
  obtain ⟨d1, hd1⟩ : ∃ d1, d1 = r1.2 := ⟨_, rfl⟩
  rw [← hd1] at a2 a3 a4 a5 a6 ⊢
  have h2 := did_sync (d := d1) (n := dr) (f := ⟨dr, [], e⟩) a3 hnd (by rw [a2]; exact getF_head rfl)
  have hp2 : putF ⟨dr, [] ++ e, []⟩ d1.files = ⟨dr, e, []⟩ :: filesB B := by rw [a2]; exact putF_head rfl hdr
  rw [hp2] at h2
  have hS2 : saveRest2 n d1 = thenD (syncD dr d1) (saveRest3 n) := rfl
  rw [hS2]
  generalize syncD dr d1 = r2 at h2
  rcases h2 with ⟨b1, b2, b3, b4, b5, b6⟩ | ⟨b1, b2, b3, b4, b5⟩
  rotate_left
  · obtain ⟨s', hs1, hs2⟩ := hoff d1.keep [] e (by simp)
    unfold thenD
    rw [if_pos (by rw [b2]; simp)]
    exact .inr ⟨fun h => b1 (a6 h), b2, b3, b5.trans a4, .inl ⟨s', hs1, by rw [b4, a2]; exact hs2⟩⟩
  unfold thenD
  rw [if_neg (by rw [b1]; simp)]
  obtain ⟨d2, hd2⟩ : ∃ d2, d2 = r2.2 := ⟨_, rfl⟩
  rw [← hd2] at b2 b3 b4 b5 b6 ⊢
  have h3 := did_rename (d := d2) (n := dr) (m := nmS n) (f := ⟨dr, e, []⟩) b3 hnd (nmS_named n) (by rw [b2]; exact getF_head rfl)
  have hp3 : putF ⟨nmS n, e, []⟩ (dropF dr d2.files) = filesB B ++ [fileB (n, e)] := by
    rw [b2, dropF_head (n := dr) rfl hne]
    exact putF_last hlt
  rw [hp3] at h3
  have hS3 : saveRest3 n d2 = thenD (renameD dr (nmS n) d2) fun d4 => purgeD n (namesD d4) d4 := by unfold saveRest3; rw [nmS_name hn]
  rw [hS3]
  generalize renameD dr (nmS n) d2 = r3 at h3
  rcases h3 with ⟨c1, c2, c3, c4, c5, c6⟩ | ⟨c1, c2, c3, c4, c5⟩
  rotate_left
  · obtain ⟨s', hs1, hs2⟩ := hoff d2.keep e [] (by simp)
    unfold thenD
    rw [if_pos (by rw [c2]; simp)]
    exact .inr ⟨fun h => c1 (b6 (a6 h)), c2, c3, c5.trans (b4.trans a4), .inl ⟨s', hs1, by rw [c4, b2]; exact hs2⟩⟩
  unfold thenD
  rw [if_neg (by rw [c1]; simp)]
  obtain ⟨d3, hd3⟩ : ∃ d3, d3 = r3.2 := ⟨_, rfl⟩
  rw [← hd3] at c2 c3 c4 c5 c6 ⊢
  have hnm : namesD d3 = (filesB B ++ [fileB (n, e)]).map Fl.name := by unfold namesD; rw [if_pos c3, c2]
  simp only [hnm]
  rcases purge_from (e := e) hn B d3 c3 c2 hB hr with ⟨g1, g2, g3, g4, g5, g6⟩ | ⟨g1, g2, g3, g4, g5⟩
  · exact .inl ⟨g1, g2, g3, g4.trans (c4.trans (b4.trans a4)), g5.trans (c5.trans (b5.trans a5)), fun h => g6 (c6 (b6 (a6 h)))⟩
  · exact .inr ⟨fun h => g1 (c6 (b6 (a6 h))), g2, g3, g4.trans (c4.trans (b4.trans a4)), .inr g5⟩
/-- What Load finds: of whole snapshots the last. -/
theorem load_from {d : Dk} (hok : d.Ok) (ho : d.on = true) : ∀ (C : List NB) (a : Int × List UInt8), (∀ p ∈ C, fileB (p.1, encS p.1 p.2) ∈ d.files ∧ p.1 < 1000000000 ∧ p.2.length ≤ 100000000) → loadN d (C.map fun p => nmS p.1) a = (match C.getLast? with | some p => ((p.1 : Int), p.2) | none => a)
  | [], a, _ => rfl
  | p :: C, a, h => by
    obtain ⟨h1, h2, h3⟩ := h p (List.mem_cons_self ..)
    have hz := nmS_num h2
    have hg := getF_mem hok.nodup h1
    have hrd : readD (nmS p.1) d = (0, encS p.1 p.2) := by
      have ht := there_some (nmS_named p.1) ho hg
      unfold readD
      rw [if_neg (by rw [show nmS p.1 = (fileB (p.1, encS p.1 p.2)).name from rfl]; simpa [fileB] using ht)]
      rw [show nmS p.1 = (fileB (p.1, encS p.1 p.2)).name from rfl, hg]
      simp [fileB]
    have hdec : decS (numZ (nmS p.1)) (readD (nmS p.1) d).2 = (p.2, 0) := by
      rw [hz, hrd]
      exact dec_enc (by omega) h3
    rw [List.map_cons, loadN, if_neg (by rw [hz]; omega), hdec, if_pos rfl, load_from hok ho C _ fun q hq => h q (List.mem_cons_of_mem _ hq), hz]
    cases C with
    | nil => rfl
    | cons q C =>
      rw [List.getLast?_cons_cons]
      cases hgl : (q :: C).getLast? with
      | none => simp at hgl
      | some z => rfl
end Go.Proofs.YtnegdinonfjdfaaDoor.Q

/- SnapLoses, plainly: between Saves, behind the loss, and the Save behind it. -/
set_option linter.unusedVariables false
set_option linter.unusedSimpArgs false
set_option maxRecDepth 100000
namespace Go.Proofs.YtnegdinonfjdfaaDoor.Q
open Go Go.RowKit Go.Proofs
def encB (p : NB) : NB := (p.1, encS p.1 p.2)
/-- A snapshot's own bytes are not too many, its number not too great. -/
def Fit (p : NB) : Prop := p.1 < 100000 ∧ p.2.length ≤ 262144
theorem size_filesB : ∀ C : List NB, (∀ p ∈ C, Fit p) → sizeD (filesB (C.map encB)) ≤ C.length * 262156
  | [], _ => by simp [filesB, sizeD]
  | p :: C, h => by
    have ih := size_filesB C fun q hq => h q (List.mem_cons_of_mem _ hq)
    have hp := h p (List.mem_cons_self ..)
    have hl := encS_len p.1 p.2
    unfold Fit at hp
    show sizeD (fileB (encB p) :: filesB (C.map encB)) ≤ _
    rw [sizeD_cons]
    simp only [fileB, encB, Fl.len, List.length_nil, List.length_cons] at hl ⊢
    omega
theorem no_draft {B : List NB} {d : Dk} (ho : d.on = true) (hf : d.files = filesB B) : rmDraft d = (0, d) := by
  have hg : getF d.files dr = none := by rw [hf]; exact getF_no fun f hf e => ne_of_lt' (name_dr B f hf) e.symm
  have ht : thereD d dr = 21 := by
    unfold thereD
    rw [if_neg (by rw [readyD_yes (by decide) ho]; simp), hg]
    rfl
  have h1 : (readD dr d).1 = 21 := by
    unfold readD
    rw [if_pos (by rw [ht]; simp), ht]
  unfold rmDraft
  rw [if_neg (by rw [h1]; simp)]
theorem saveD_rest {n : Nat} {body : List UInt8} {d d1 : Dk} (hn : n < 1000000000) (hl : body.length ≤ 1048564) (ho : d.on = true) (hr : rmDraft d = (0, d1)) : saveD n body d = saveRest n body d1 := by
  unfold saveD
  rw [if_neg (by rw [nmS_name hn]; simp [nmS]), if_neg (by omega), if_neg (by simp [ho]), hr]
  rfl
/-- Between two Saves. -/
structure Calm (d : Dk) (kp : Int) (l : List NB) (c i : Nat) : Prop where
  ok : d.Ok
  on : d.on = true
  room : d.room = 2097152
  keep : d.keep = kp
  fl : d.files = filesB (l.map encB)
  one : l.length ≤ 1
  fit : ∀ p ∈ l, Fit p ∧ p.1 ≤ c
  wr : d.writes ≤ 20 * i
/-- Behind it all: perhaps a draft, then whole snapshots. -/
structure Behind (d : Dk) (C : List NB) (c : Nat) : Prop where
  ok : d.Ok
  room : d.room = 2097152
  fl : ∃ D : List Fl, d.files = D ++ filesB (C.map encB) ∧ (D = [] ∨ ∃ s : List UInt8, s.length ≤ 262156 ∧ D = [⟨dr, s, []⟩])
  two : C.length ≤ 2
  fit : ∀ p ∈ C, Fit p ∧ p.1 ≤ c
  rise : C.Pairwise fun a b => a.1 < b.1
  wr : d.writes ≤ 100000
theorem Calm.fin {d : Dk} {kp : Int} {l : List NB} {c i : Nat} (h : Calm d kp l c i) (hi : i ≤ 1000) : Behind d l c := ⟨h.ok, h.room, ⟨[], by rw [h.fl]; rfl, .inl rfl⟩, by have := h.one; omega, h.fit, by
  match l, h.one with
  | [], _ => exact List.Pairwise.nil
  | [a], _ => exact List.pairwise_singleton _ _, by have := h.wr; omega⟩
theorem Calm.save {d : Dk} {kp : Int} {l : List NB} {c i : Nat} (h : Calm d kp l c i) {n : Nat} {body : List UInt8} (hn : c < n) (hfit : Fit (n, body)) (hi : i < 1000) :
    ((saveD n body d).1 = 0 ∧ Calm (saveD n body d).2 kp [(n, body)] n (i + 1)) ∨ ((saveD n body d).1 = 20 ∧ (saveD n body d).2.on = false ∧ ∃ C, Behind (saveD n body d).2 C n ∧ (C.getLast? = some (n, body) ∨ C = l)) := by
  obtain ⟨hok', hw'⟩ := save_ok (n := n) (body := body) h.ok
  have hnd := no_draft h.on h.fl
  have hb := hfit.2
  have hn5 := hfit.1
  simp only at hb hn5
  have hel := encS_len n body
  have hsz := size_filesB l fun p hp => (h.fit p hp).1
  have hone := h.one
  have hrise : (l.map encB).Pairwise fun a b => a.1 < b.1 := by
    match l, h.one with
    | [], _ => exact List.Pairwise.nil
    | [a], _ => exact List.pairwise_singleton _ _
  have hwr := h.wr
  have hS := save_from (d := d) (B := l.map encB) (n := n) (body := body) h.on h.fl (fun p hp => by
    obtain ⟨q, hq, rfl⟩ := List.mem_map.1 hp
    have := (h.fit q hq).2
    show q.1 < n
    omega) hrise (by omega) (by omega) (by rw [List.length_map]; omega) (by
    rw [h.fl, h.room]
    have : l.length * 262156 ≤ 262156 := by have := Nat.mul_le_mul_right 262156 h.one; omega
    omega)
  rw [saveD_rest (by omega) (by omega) h.on hnd] at hok' hw' ⊢
  rcases hS with ⟨g1, g2, g3, g4, g5, g6⟩ | ⟨g1, g2, g3, g4, g5⟩
  · refine .inl ⟨g1, hok', g3, g4.trans h.room, g5.trans h.keep, g2, Nat.le_refl _, fun p hp => ?_, by omega⟩
    rw [List.mem_singleton] at hp
    subst hp
    exact ⟨hfit, Nat.le_refl _⟩
  · refine .inr ⟨g2, g3, ?_⟩
    rcases g5 with ⟨s, hs, hs2⟩ | ⟨B', hb1, hb2⟩
    · refine ⟨l, ⟨hok', g4.trans h.room, ⟨[⟨dr, s, []⟩], hs2, .inr ⟨s, by omega, rfl⟩⟩, by omega, fun p hp => ⟨(h.fit p hp).1, by have := (h.fit p hp).2; omega⟩, ?_, by omega⟩, .inr rfl⟩
      match l, h.one with
      | [], _ => exact List.Pairwise.nil
      | [a], _ => exact List.pairwise_singleton _ _
    · have hcase : ∃ l', (l' = [] ∨ l' = l) ∧ B' = l'.map encB := by
        match l, h.one, hb1 with
        | [], _, hb1 =>
          have : B' = [] := by simpa using hb1
          exact ⟨[], .inl rfl, this⟩
        | [a], _, hb1 =>
          rcases List.suffix_cons_iff.1 hb1 with h | h
          · exact ⟨[a], .inr rfl, h⟩
          · have : B' = [] := by simpa using h
            exact ⟨[], .inl rfl, this⟩
      obtain ⟨l', hl', rfl⟩ := hcase
      have hsub : ∀ p ∈ l', p ∈ l := by
        rcases hl' with rfl | rfl
        · intro p hp; cases hp
        · exact fun p hp => hp
      have hl1 : l'.length ≤ 1 := by rcases hl' with rfl | rfl <;> simp [h.one]
      refine ⟨l' ++ [(n, body)], ⟨hok', g4.trans h.room, ⟨[], by rw [hb2, List.nil_append, List.map_append]; unfold filesB; rw [List.map_append]; rfl, .inl rfl⟩, by simp; omega, fun p hp => ?_, ?_, by omega⟩, .inl (by simp)⟩
      · rcases List.mem_append.1 hp with hp | hp
        · exact ⟨(h.fit p (hsub p hp)).1, by have := (h.fit p (hsub p hp)).2; omega⟩
        · rw [List.mem_singleton] at hp
          subst hp
          exact ⟨hfit, Nat.le_refl _⟩
      · rw [List.pairwise_append]
        refine ⟨?_, List.pairwise_singleton _ _, fun a ha b hb => ?_⟩
        · match l', hl1 with
          | [], _ => exact List.Pairwise.nil
          | [a], _ => exact List.pairwise_singleton _ _
        · rw [List.mem_singleton] at hb
          subst hb
          have := (h.fit a (hsub a ha)).2
          show a.1 < n
          omega
def bestC (C : List NB) : Int × List UInt8 := match C.getLast? with
  | some p => ((p.1 : Int), p.2)
  | none => (-1, [])
theorem load_core {d : Dk} {C : List NB} {c : Nat} (hok : d.Ok) (hfl : ∃ D : List Fl, d.files = D ++ filesB (C.map encB) ∧ (D = [] ∨ ∃ s : List UInt8, s.length ≤ 262156 ∧ D = [⟨dr, s, []⟩])) (hfit : ∀ p ∈ C, Fit p ∧ p.1 ≤ c) (ho : d.on = true) : loadD d = (bestC C, 0) := by
  obtain ⟨D, hf, hD⟩ := hfl
  have hnm : namesD d = D.map Fl.name ++ C.map fun p => nmS p.1 := by
    unfold namesD
    rw [if_pos ho, hf, List.map_append]
    congr 1
    unfold filesB
    rw [List.map_map, List.map_map]
    rfl
  have hall := load_from hok ho C (-1, []) fun p hp => by
    have hp2 := (hfit p hp).1
    unfold Fit at hp2
    refine ⟨?_, by omega, by omega⟩
    rw [hf]
    exact List.mem_append_right _ (List.mem_map.2 ⟨encB p, List.mem_map_of_mem hp, rfl⟩)
  have hdr : loadN d (D.map Fl.name ++ C.map fun p => nmS p.1) (-1, []) = loadN d (C.map fun p => nmS p.1) (-1, []) := by
    rcases hD with rfl | ⟨s, _, rfl⟩
    · rfl
    · show loadN d (dr :: _) _ = _
      rw [loadN, if_pos (by rw [dr_num]; decide)]
      rfl
  unfold loadD
  rw [if_neg (by simp [ho]), hnm, hdr, hall]
  rfl
theorem Behind.load {d : Dk} {C : List NB} {c : Nat} (h : Behind d C c) (ho : d.on = true) : loadD d = (bestC C, 0) := load_core h.ok h.fl h.fit ho
theorem Calm.load {d : Dk} {kp : Int} {l : List NB} {c i : Nat} (h : Calm d kp l c i) : loadD d = (bestC l, 0) := load_core h.ok ⟨[], by rw [h.fl]; rfl, .inl rfl⟩ h.fit h.on
/-- The power's going changes nothing of it. -/
theorem Behind.off {d : Dk} {C : List NB} {c : Nat} (h : Behind d C c) (k : Int) : Behind (offD k d) C c ∧ (offD k d).on = false := by
  obtain ⟨D, hf, hD⟩ := h.fl
  have hDo : D.map (offF k) = D := by
    rcases hD with rfl | ⟨s, _, rfl⟩
    · rfl
    · simp [offF]
  have hfo : (offD k d).files = d.files := by
    unfold offD
    split
    · simp only
      rw [hf, List.map_append, hDo, offB]
    · rfl
  refine ⟨⟨h.ok.off k, ?_, ⟨D, hfo.trans hf, hD⟩, h.two, h.fit, h.rise, by rw [off_writes]; exact h.wr⟩, ?_⟩
  · unfold offD
    split
    · exact h.room
    · exact h.room
  · unfold offD
    split
    · rfl
    · rename_i h; simpa using h
theorem Behind.head {d d2 : Dk} {C : List NB} {c : Nat} (h : Behind d C c) (hf : d2.files = d.files) (hr : d2.room = d.room) (hw : d2.writes = d.writes) (hok : d2.Ok) : Behind d2 C c := ⟨hok, hr.trans h.room, by rw [hf]; exact h.fl, h.two, h.fit, h.rise, by rw [hw]; exact h.wr⟩
/-- And it goes on. -/
theorem Behind.save {d : Dk} {C : List NB} {c : Nat} (h : Behind d C c) (ho : d.on = true) (ha : d.armed = 0) {body : List UInt8} (hc : c < 99999) (hb : body.length ≤ 100) :
    (saveD ((c + 1 : Nat) : Int) body d).1 = 0 ∧ Calm (saveD ((c + 1 : Nat) : Int) body d).2 (saveD ((c + 1 : Nat) : Int) body d).2.keep [(c + 1, body)] (c + 1) 6000 := by
  obtain ⟨D, hf, hD⟩ := h.fl
  obtain ⟨hok', hw'⟩ := save_ok (n := ((c + 1 : Nat) : Int)) (body := body) h.ok
  have hw := h.wr
  have hsz := size_filesB C fun p hp => (h.fit p hp).1
  have htwo := h.two
  have hel := encS_len ((c + 1 : Nat) : Int) body
  have hrise : (C.map encB).Pairwise fun a b => a.1 < b.1 := by
    rw [List.pairwise_map]
    exact h.rise.imp fun {a b} hab => hab
  obtain ⟨d1, hd1, hf1, ho1, ha1, hr1⟩ : ∃ d1, rmDraft d = (0, d1) ∧ d1.files = filesB (C.map encB) ∧ d1.on = true ∧ d1.armed = 0 ∧ d1.room = d.room := by
    rcases hD with rfl | ⟨s, hs, rfl⟩
    · exact ⟨d, no_draft ho hf, hf, ho, ha, rfl⟩
    · have hg : getF d.files dr = some ⟨dr, s, []⟩ := by rw [hf]; exact getF_head rfl
      have ht := there_some (by decide : namedD dr = true) ho hg
      have hrd : (readD dr d).1 = 0 := by unfold readD; rw [if_neg (by rw [ht]; simp)]
      have hdid := did_remove ho (by decide : namedD dr = true) hg
      have hdrop : dropF dr d.files = filesB (C.map encB) := by
        rw [hf]
        exact dropF_head (n := dr) rfl fun f hf e => ne_of_lt' (name_dr _ f hf) e.symm
      rw [hdrop] at hdid
      rcases hdid with ⟨g1, g2, g3, g4, g5, g6⟩ | ⟨g1, _⟩
      · refine ⟨(removeD dr d).2, ?_, g2, g3, g6 ha, g4⟩
        unfold rmDraft
        rw [if_pos hrd, ← g1]
      · exact absurd ha g1
  have hS := save_from (d := d1) (B := C.map encB) (n := c + 1) (body := body) ho1 hf1 (fun p hp => by
    obtain ⟨q, hq, rfl⟩ := List.mem_map.1 hp
    have := (h.fit q hq).2
    show q.1 < c + 1
    omega) hrise (by omega) (by omega) (by rw [List.length_map]; omega) (by
    rw [hf1, hr1, h.room]
    have : C.length * 262156 ≤ 2 * 262156 := Nat.mul_le_mul_right 262156 h.two
    omega)
  rw [saveD_rest (by omega) (by omega) ho hd1] at hok' hw' ⊢
  rcases hS with ⟨g1, g2, g3, g4, g5, g6⟩ | ⟨g1, _⟩
  · refine ⟨g1, hok', g3, g4.trans (hr1.trans h.room), rfl, g2, Nat.le_refl _, fun p hp => ?_, by omega⟩
    rw [List.mem_singleton] at hp
    subst hp
    exact ⟨⟨by simp only; omega, by simp only; omega⟩, Nat.le_refl _⟩
  · exact absurd ha1 g1
end Go.Proofs.YtnegdinonfjdfaaDoor.Q

