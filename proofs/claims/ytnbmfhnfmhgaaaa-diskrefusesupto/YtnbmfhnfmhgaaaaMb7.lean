/- A part of the proof: Kh, Ki, Kj, Kk, Kl, Km, Kn, Ko, Kp, Kq, Kr, Ks, Rw, Kt, Ku, Kv, Kw, Kx, Ky, Db, Kz, Dc. -/
import Derived.Test.YtnbmfhnfmhgaaaaMb6
import Derived.Test.YtnbmfhnfmhgaaaaMb5
/- Sync, Truncate, Rename, Remove. -/
set_option linter.unusedVariables false
set_option linter.unusedSimpArgs false
set_option maxRecDepth 100000
namespace Go.Proofs.Ytnbmfhnfmhgaaaa.Q
open Go Go.RowKit Go.Proofs
theorem rowOf_news {objs : List Ob} {v : V} {q : Option Nat} {cs : List V} (h : rowOf objs v = some (q, cs)) : vnewsO Try.prog objs 28 v 1 = some (cs, cs.length) := by
  rcases rowOf_spec h with ⟨rfl, rfl, rfl⟩ | ⟨r, full, rfl, rfl, hr, hl, hc⟩
  · simp [vnewsO, vnews, pTB]
  · have h2 : List.take cs.length full = cs := hc.symm
    simp [vnewsO, vnews, pTB, hr, hl, h2]
theorem Has.facts {σ : St} {r rm : Nat} {d : Dk} {fs a b : List Ent} {p : Ent} {n : List UInt8} (h : DiskAt σ r d rm fs) (hok : d.Ok) (hA : Has d fs a b p n) :
    vload Try.prog σ.objs 28 (.optr p.2.rf 0) = some p.2.s ∧ vload Try.prog σ.objs 28 (.optr p.2.rf 1) = some p.2.w ∧ vlen Try.prog 28 p.2.s = some (.int .i64 (p.1.safe.length : Nat)) ∧ vlen Try.prog 28 p.2.w = some (.int .i64 (p.1.wait.length : Nat)) ∧
      p.1.safe.length + p.1.wait.length ≤ 1048576 ∧ namedD n = true ∧ (p.2.rs.toList ++ p.2.rw.toList).Nodup ∧ p.2.rf ∉ p.2.rs.toList ++ p.2.rw.toList := by
  obtain ⟨g1, g2, g3⟩ := hA.ids h
  have hgt := hok.get hA.g
  simp only [FO.ids, List.nodup_cons] at g2
  exact ⟨by rw [vload_obj g1.ob pGB]; rfl, by rw [vload_obj g1.ob pGB]; rfl, by rw [rowOf_len g1.s, List.length_map], by rw [rowOf_len g1.w, List.length_map], hgt.2.2.2, hgt.2.2.1, g2.2, g2.1⟩
theorem sync_sees {σ : St} {r rm : Nat} {d : Dk} {fs : List Ent} {n : List UInt8} (h : DiskAt σ r d rm fs) (hok : d.Ok) (hw : d.writes < 4611686018427387904) :
    ∃ q σ', Does Try.prog prims 13 [.optr r 0, .str n] σ q σ' ∧ (q = .ret (.int .i64 ((syncD n d).1 : Nat)) ∧ Next σ r rm fs σ' (syncD n d).2) := by
  apply k13_is.does (by simp)
  simp only [k13_a, WK, vop, evAll, evOpt, evParts, vbuiltin, vun, vextract, Nat.reduceLT, Nat.reduceEqDiff, ↓reduceIte, reduceCtorEq, Nat.reduceAdd, Int.reduceLT, Int.reduceNeg, valloc_std, noSB, vhot, List.getD_cons_zero, List.getD_cons_succ]
  by_cases hz : thereD d n = 0
  · obtain ⟨a, b, p, hA, hr⟩ := there_ok h hok hz
    refine KD.ret (there_yes h hr hA) ?_
    obtain ⟨σ1, r1, D1, r3, r4, σ2, r5, r6⟩ := rawNext h hok hw
    obtain ⟨f1, f2, f3, f4, f5⟩ := raw_files d
    simp only [k13_a, WK, vop, evAll, evOpt, evParts, vbuiltin, vun, vextract, Nat.reduceLT, Nat.reduceEqDiff, ↓reduceIte, reduceCtorEq, Nat.reduceAdd, Int.reduceLT, Int.reduceNeg, valloc_std, noSB, vhot]
    refine KD.ret r1 ?_
    have hz' : ¬ thereD d n ≠ 0 := fun h => h hz
    cases hgo : (rawD d).1 with
    | true =>
      have e : syncD n d = (20, offD d.keep (rawD d).2) := by unfold syncD; rw [if_neg hz', if_pos hgo]
      simp only [k13_a, WK, vop, evAll, evOpt, evParts, vbuiltin, vun, vextract, Nat.reduceLT, Nat.reduceEqDiff, ↓reduceIte, reduceCtorEq, Nat.reduceAdd, Int.reduceLT, Int.reduceNeg, valloc_std, noSB, vhot]
      refine KD.ret r5 ?_
      simp only [k13_a, WK, vop, evAll, evOpt, evParts, vbuiltin, vun, vextract, Nat.reduceLT, Nat.reduceEqDiff, ↓reduceIte, reduceCtorEq, Nat.reduceAdd, Int.reduceLT, Int.reduceNeg, valloc_std, noSB, vhot, e]
      exact ⟨rfl, r6⟩
    | false =>
      have A1 := hA.files (d2 := (rawD d).2) f1
      have e : syncD n d = (0, { (rawD d).2 with files := putF ⟨n, p.1.safe ++ p.1.wait, []⟩ d.files }) := by
        unfold syncD; rw [if_neg hz', if_neg (by rw [hgo]; simp), hA.g]; rfl
      obtain ⟨g1, g2, g3⟩ := A1.ids D1
      obtain ⟨l1, l2, v1, v2, hl, hn, hnd, hrf⟩ := A1.facts D1 hok.raw
      obtain ⟨s', qs, σa, ha, hsa, hka, hqa, h1a⟩ := rowApp g1.s (rowOf_news g1.w) (byteV_one _) (by simp; omega)
      obtain ⟨N1, hob⟩ := D1.upd hok.raw A1 (f' := ⟨n, p.1.safe ++ p.1.wait, []⟩) (s' := s') (w' := .nils) (qs := qs) (qw := none) (hka.mono fun x hx => .inl (List.mem_append_left _ hx)) (by rw [List.map_append]; exact hsa) rfl (fun x hx => by
        rcases List.mem_append.1 hx with h | h
        · rcases hqa x h with h | h
          · exact .inl (List.mem_append_left _ h)
          · exact .inr h
        · cases h) (by cases qs <;> simp) rfl
      obtain ⟨σb, hσb⟩ : ∃ σb : St, σb = ⟨σa.objs.set p.2.rf (.cells [s', p.2.w]), σa.toks⟩ := ⟨_, rfl⟩
      have st1 : vstore Try.prog σa 28 (.optr p.2.rf 0) s' = some σb := by rw [vstore_obj hob SBB h1a (by simp), hσb]; rfl
      have hobb : σb.objs[p.2.rf]? = some (.cells [s', p.2.w]) := by rw [hσb]; exact obj_set hob
      have st2 : vstore Try.prog σb 28 (.optr p.2.rf 1) .nils = some ⟨σa.objs.set p.2.rf (.cells [s', .nils]), σa.toks⟩ := by
        rw [vstore_obj hobb SBB rfl (by simp), hσb]; simp [List.set_set]
      simp only [k13_a, WK, vop, evAll, evOpt, evParts, vbuiltin, vun, vextract, Nat.reduceLT, Nat.reduceEqDiff, ↓reduceIte, reduceCtorEq, Nat.reduceAdd, Int.reduceLT, Int.reduceNeg, valloc_std, noSB, vhot, pFF0, pFF1, l1, l2, ha, st1, st2, nilEP, e]
      rw [f1] at N1
      exact ⟨rfl, Next.trans r3 (fun x hx => .inl hx) N1⟩
  · refine KD.ret (there_no h n hz) ?_
    have hz' : ¬ ((thereD d n : Nat) : Int) = 0 := by omega
    have e : syncD n d = (thereD d n, d) := by unfold syncD; rw [if_pos hz]
    simp only [k13_a, WK, vop, evAll, evOpt, evParts, vbuiltin, vun, vextract, Nat.reduceLT, Nat.reduceEqDiff, ↓reduceIte, reduceCtorEq, Nat.reduceAdd, Int.reduceLT, Int.reduceNeg, valloc_std, noSB, vhot, hz', e]
    exact Next.refl h
theorem trunc_sees {σ : St} {r rm : Nat} {d : Dk} {fs : List Ent} {n : List UInt8} {k : Int} (h : DiskAt σ r d rm fs) (hok : d.Ok) (hw : d.writes < 4611686018427387904) :
    ∃ q σ', Does Try.prog prims 26 [.optr r 0, .str n, .int .i64 k] σ q σ' ∧ (q = .ret (.int .i64 ((truncD n k d).1 : Nat)) ∧ Next σ r rm fs σ' (truncD n k d).2) := by
  apply k26_is.does (by simp)
  simp only [k26_a, WK, vop, evAll, evOpt, evParts, vbuiltin, vun, vextract, Nat.reduceLT, Nat.reduceEqDiff, ↓reduceIte, reduceCtorEq, Nat.reduceAdd, Int.reduceLT, Int.reduceNeg, valloc_std, noSB, vhot, List.getD_cons_zero, List.getD_cons_succ]
  by_cases hz : thereD d n = 0
  · obtain ⟨a, b, p, hA, hr⟩ := there_ok h hok hz
    refine KD.ret (there_yes h hr hA) ?_
    have hz' : ¬ thereD d n ≠ 0 := fun h => h hz
    obtain ⟨l1, l2, v1, v2, hl, hn, hnd, hrf⟩ := hA.facts h hok
    have hw1 : IntKind.i64.wrap ((p.1.safe.length : Int) + (p.1.wait.length : Int)) = ((p.1.safe.length + p.1.wait.length : Nat) : Int) := by rw [wrap_i64 (by omega) (by omega)]; omega
    by_cases hneg : k < 0
    · have e : truncD n k d = (3, d) := by unfold truncD; rw [if_neg hz', hA.g]; simp only [Option.getD_some]; rw [if_pos (.inl hneg)]
      simp only [k26_a, WK, vop, evAll, evOpt, evParts, vbuiltin, vun, vextract, Nat.reduceLT, Nat.reduceEqDiff, ↓reduceIte, reduceCtorEq, Nat.reduceAdd, Int.reduceLT, Int.reduceNeg, valloc_std, noSB, vhot, hneg, decide_true, e]
      exact ⟨rfl, Next.refl h⟩
    · by_cases hbig : ((p.1.safe.length + p.1.wait.length : Nat) : Int) < k
      · have e : truncD n k d = (3, d) := by unfold truncD; rw [if_neg hz', hA.g]; simp only [Option.getD_some]; rw [if_pos (.inr hbig)]
        simp only [k26_a, WK, vop, evAll, evOpt, evParts, vbuiltin, vun, vextract, Nat.reduceLT, Nat.reduceEqDiff, ↓reduceIte, reduceCtorEq, Nat.reduceAdd, Int.reduceLT, Int.reduceNeg, valloc_std, noSB, vhot, hneg, decide_false, pFF0, pFF1, l1, l2, v1, v2, hw1, hbig, decide_true, e]
        exact ⟨rfl, Next.refl h⟩
      · obtain ⟨σ1, r1, D1, r3, r4, σ2, r5, r6⟩ := rawNext h hok hw
        obtain ⟨f1, f2, f3, f4, f5⟩ := raw_files d
        simp only [k26_a, WK, vop, evAll, evOpt, evParts, vbuiltin, vun, vextract, Nat.reduceLT, Nat.reduceEqDiff, ↓reduceIte, reduceCtorEq, Nat.reduceAdd, Int.reduceLT, Int.reduceNeg, valloc_std, noSB, vhot, hneg, decide_false, pFF0, pFF1, l1, l2, v1, v2, hw1, hbig]
        refine KD.ret r1 ?_
        have hc : ¬ (k < 0 ∨ ((p.1.len : Nat) : Int) < k) := fun h => h.elim hneg hbig
        cases hgo : (rawD d).1 with
        | true =>
          have e : truncD n k d = (20, offD d.keep (rawD d).2) := by unfold truncD; rw [if_neg hz', hA.g]; simp only [Option.getD_some]; rw [if_neg hc, if_pos hgo]
          simp only [k26_a, WK, vop, evAll, evOpt, evParts, vbuiltin, vun, vextract, Nat.reduceLT, Nat.reduceEqDiff, ↓reduceIte, reduceCtorEq, Nat.reduceAdd, Int.reduceLT, Int.reduceNeg, valloc_std, noSB, vhot]
          refine KD.ret r5 ?_
          simp only [k26_a, WK, vop, evAll, evOpt, evParts, vbuiltin, vun, vextract, Nat.reduceLT, Nat.reduceEqDiff, ↓reduceIte, reduceCtorEq, Nat.reduceAdd, Int.reduceLT, Int.reduceNeg, valloc_std, noSB, vhot, e]
          exact ⟨rfl, r6⟩
        | false =>
          have A1 := hA.files (d2 := (rawD d).2) f1
          have e : truncD n k d = (0, { (rawD d).2 with files := putF ⟨n, p.1.safe.take k.toNat, p.1.wait.take (k.toNat - p.1.safe.length)⟩ d.files }) := by
            unfold truncD; rw [if_neg hz', hA.g]; simp only [Option.getD_some]; rw [if_neg hc, if_neg (by rw [hgo]; simp)]
          obtain ⟨g1, g2, g3⟩ := A1.ids D1
          obtain ⟨l1, l2, v1, v2, hl, hn, hnd, hrf⟩ := A1.facts D1 hok.raw
          have hws : IntKind.i64.wrap (k - (p.1.safe.length : Int)) = k - (p.1.safe.length : Int) := wrap_i64 (by omega) (by omega)
          have hmx : vmm true (.int .i64 0) (.int .i64 (k - (p.1.safe.length : Int))) = some (.int .i64 ((k.toNat - p.1.safe.length : Nat) : Int)) := by
            simp only [vmm, ↓reduceIte]
            congr 2
            split <;> omega
          have hmn : vmm false (.int .i64 k) (.int .i64 (p.1.safe.length : Nat)) = some (.int .i64 ((min k.toNat p.1.safe.length : Nat) : Int)) := by
            simp only [vmm, Bool.false_eq_true, ↓reduceIte]
            congr 2
            split <;> omega
          obtain ⟨w', hw', hrw⟩ := rowOf_take g1.w (n := k.toNat - p.1.safe.length) (by rw [List.length_map]; omega)
          obtain ⟨s', hs', hrs⟩ := rowOf_take g1.s (n := min k.toNat p.1.safe.length) (by rw [List.length_map]; omega)
          rw [bytes_take] at hrw hrs
          have hts : p.1.safe.take (min k.toNat p.1.safe.length) = p.1.safe.take k.toNat := by
            rw [← List.take_take, List.take_of_length_le (Nat.le_refl _)]
          rw [hts] at hrs
          obtain ⟨N1, hob⟩ := D1.upd hok.raw A1 (σa := σ1) (f' := ⟨n, p.1.safe.take k.toNat, p.1.wait.take (k.toNat - p.1.safe.length)⟩) (s' := s') (w' := w') (qs := p.2.rs) (qw := p.2.rw) (KS.refl _ _) hrs hrw (fun x hx => .inl hx) hnd rfl
          obtain ⟨σb, hσb⟩ : ∃ σb : St, σb = ⟨σ1.objs.set p.2.rf (.cells [p.2.s, w']), σ1.toks⟩ := ⟨_, rfl⟩
          have st1 : vstore Try.prog σ1 28 (.optr p.2.rf 1) w' = some σb := by rw [vstore_obj hob SBB (rowOf_one hrw) (by simp), hσb]; rfl
          have hobb : σb.objs[p.2.rf]? = some (.cells [p.2.s, w']) := by rw [hσb]; exact obj_set hob
          have st2 : vstore Try.prog σb 28 (.optr p.2.rf 0) s' = some ⟨σ1.objs.set p.2.rf (.cells [s', w']), σ1.toks⟩ := by
            rw [vstore_obj hobb SBB (rowOf_one hrs) (by simp), hσb]; simp [List.set_set]
          have l3 : vload Try.prog σb.objs 28 (.optr p.2.rf 0) = some p.2.s := by rw [vload_obj hobb pGB]; rfl
          simp only [k26_a, WK, vop, evAll, evOpt, evParts, vbuiltin, vun, vextract, Nat.reduceLT, Nat.reduceEqDiff, ↓reduceIte, reduceCtorEq, Nat.reduceAdd, Int.reduceLT, Int.reduceNeg, valloc_std, noSB, vhot, pFF0, pFF1, l1, l2, v1, v2, hws, hmx, hw', st1, l3, hmn, hs', st2, pTB, e]
          rw [f1] at N1
          exact ⟨rfl, Next.trans r3 (fun x hx => .inl hx) N1⟩
  · refine KD.ret (there_no h n hz) ?_
    have hz' : ¬ ((thereD d n : Nat) : Int) = 0 := by omega
    have e : truncD n k d = (thereD d n, d) := by unfold truncD; rw [if_pos hz]
    simp only [k26_a, WK, vop, evAll, evOpt, evParts, vbuiltin, vun, vextract, Nat.reduceLT, Nat.reduceEqDiff, ↓reduceIte, reduceCtorEq, Nat.reduceAdd, Int.reduceLT, Int.reduceNeg, valloc_std, noSB, vhot, hz', decide_false, e]
    exact Next.refl h
/-! ### Files leave the map, and come into it -/
theorem DiskAt.gone {σ : St} {r rm : Nat} {d : Dk} {fs a b : List Ent} {p : Ent} {n : List UInt8} (h : DiskAt σ r d rm fs) (hok : d.Ok) (hA : Has d fs a b p n) :
    ∃ σ', vmapDel Try.prog σ 55 (.omap rm) (.str n) = some σ' ∧ DiskAt σ' r { d with files := dropF n d.files } rm (a ++ b) ∧ KS [rm] σ σ' ∧ FAt σ'.objs p ∧ p.2.ids.Nodup ∧ (∀ x ∈ p.2.ids, x ∈ foot r rm fs ∧ x ∉ foot r rm (a ++ b)) ∧ ∀ x ∈ foot r rm (a ++ b), x ∈ foot r rm fs := by
  have hlt := h.lt
  have hN := h.nd
  obtain ⟨g1, g2, g3⟩ := hA.ids h
  have hfs := hA.e
  subst hfs
  have hpm := h.pm
  unfold foot at hN
  rw [List.nodup_cons, List.nodup_cons, flat_mid] at hN
  obtain ⟨n1, n2, n3⟩ := hN
  have hml := hlt rm (by simp [foot])
  have hv := find_yes (a := a) (b := b) (p := p) (by rw [hA.nm]; exact hA.a) 0
  rw [hA.nm] at hv
  have hne : ∀ x, x ∈ (a ++ p :: b).flatMap (fun p => p.2.ids) → rm ≠ x := fun x hx e => n2 (by rw [flat_mid] at hx; rw [e]; exact hx)
  have hkeep : ∀ q ∈ a ++ p :: b, FAt (σ.objs.set rm (.mp ((a ++ b).map fent))) q := fun q hq => (h.hf q hq).frame fun x hx o ho => by
    rw [List.getElem?_set_ne (hne x (List.mem_flatMap.2 ⟨q, hq, hx⟩))]; exact ho
  have hids : ∀ x ∈ foot r rm (a ++ b), x ∈ foot r rm (a ++ p :: b) := by
    intro x hx
    simp only [foot, List.mem_cons, List.flatMap_append, List.flatMap_cons, List.mem_append] at hx ⊢
    rcases hx with h | h | h | h
    · exact .inl h
    · exact .inr (.inl h)
    · exact .inr (.inr (.inl h))
    · exact .inr (.inr (.inr (.inr h)))
  have hsub : ((a ++ b).flatMap fun p => p.2.ids).Sublist ((a ++ p :: b).flatMap fun p => p.2.ids) := by
    rw [flat_mid, List.flatMap_append]
    exact (List.Sublist.refl _).append (List.sublist_append_right ..)
  refine ⟨⟨σ.objs.set rm (.mp ((a ++ b).map fent)), σ.toks⟩, ?_, ⟨?_, ?_, fun q hq => hkeep q ?_, ?_, ?_⟩, KS.set (.inl (by simp)) _, hkeep p (by simp), g2, fun x hx => ⟨?_, fun hx2 => ?_⟩, hids⟩
  · simp only [vmapDel, pTM, h.hm, keyD, hv]
    congr 3
    rw [List.map_append, List.map_cons, Nat.zero_add, ← List.length_map (f := fent), List.eraseIdx_append_of_length_le (Nat.le_refl _), Nat.sub_self, List.map_append]
    rfl
  · simp only
    rw [List.getElem?_set_ne (fun e => n1 (by rw [e]; exact List.mem_cons_self ..))]
    exact h.hd
  · simp only
    rw [List.getElem?_set_self hml]
  · rcases List.mem_append.1 hq with h | h <;> simp [h]
  · have := h.nd
    unfold foot at this ⊢
    exact (List.Sublist.cons_cons _ (List.Sublist.cons_cons _ hsub)).nodup this
  · simp only [List.map_append, List.map_cons] at hpm ⊢
    have e : (a.map (·.1) ++ b.map (·.1)) = dropF n (a.map (·.1) ++ p.1 :: b.map (·.1)) := by
      unfold dropF
      rw [List.filter_append, List.filter_cons]
      simp only [hA.nm, ne_eq, not_true_eq_false, decide_false, Bool.false_eq_true, ↓reduceIte]
      rw [List.filter_eq_self.2, List.filter_eq_self.2]
      · intro f hf
        obtain ⟨q, hq, rfl⟩ := List.mem_map.1 hf
        simp [hA.b q hq]
      · intro f hf
        obtain ⟨q, hq, rfl⟩ := List.mem_map.1 hf
        simp [hA.a q hq]
    rw [e]
    exact hpm.filter _
  · simp only [foot, List.mem_cons, List.mem_flatMap]
    exact .inr (.inr ⟨p, by simp, hx⟩)
  · simp only [foot, List.mem_cons, List.flatMap_append, List.mem_append] at hx2
    rw [List.nodup_append, List.nodup_append] at n3
    rcases hx2 with h | h | h | h
    · subst h; exact n1 (List.mem_cons_of_mem _ (by simp [hx]))
    · subst h; exact n2 (by simp [hx])
    · exact n3.2.2 x h x (List.mem_append_left _ hx) rfl
    · exact n3.2.1.2.2 x hx x h rfl
theorem putF_new {l : List Fl} {x : Fl} (hg : getF l x.name = none) : (putF x l).Perm (x :: l) := by
  unfold putF
  refine (List.perm_middle).trans (.cons _ ?_)
  have e : (l.filter fun f => decide (x.name < f.name)) = l.filter fun f => !decide (f.name < x.name) := by
    refine List.filter_congr fun f hf => ?_
    have hne := getF_none hg f hf
    rcases lt_or hne with h | h
    · have : ¬ x.name < f.name := fun h2 => lt_irrefl' _ (lt_trans' h h2)
      simp [h, this]
    · have : ¬ f.name < x.name := fun h2 => lt_irrefl' _ (lt_trans' h h2)
      simp [h, this]
  rw [e]
  exact List.filter_append_perm _ _
theorem DiskAt.come {σ : St} {r rm : Nat} {d : Dk} {fs : List Ent} {p : Ent} (h : DiskAt σ r d rm fs) (hok : d.Ok) (hF : FAt σ.objs p) (hnd : p.2.ids.Nodup) (hdj : ∀ x ∈ p.2.ids, x ∉ foot r rm fs) :
    ∃ σ' fs', vmapSet Try.prog σ 55 (.omap rm) (.str p.1.name) (.optr p.2.rf 0) = some σ' ∧ DiskAt σ' r { d with files := putF p.1 d.files } rm fs' ∧ KS [rm] σ σ' ∧ ∀ x ∈ foot r rm fs', x ∈ foot r rm fs ∨ x ∈ p.2.ids := by
  have hlt := h.lt
  have hN := h.nd
  have hN0 := hN
  have hml := hlt rm (by simp [foot])
  unfold foot at hN
  rw [List.nodup_cons, List.nodup_cons] at hN
  obtain ⟨n1, n2, n3⟩ := hN
  have hkeep : ∀ q ∈ fs, ∀ o, FAt (σ.objs.set rm o) q := fun q hq o => (h.hf q hq).frame fun x hx o ho => by
    rw [List.getElem?_set_ne (fun e => n2 (by rw [e]; exact List.mem_flatMap.2 ⟨q, hq, hx⟩))]; exact ho
  have hkp : ∀ o, FAt (σ.objs.set rm o) p := fun o => hF.frame fun x hx o ho => by
    rw [List.getElem?_set_ne (fun e => hdj x hx (by rw [← e]; simp [foot]))]; exact ho
  have hrm : rm ≠ r := fun e => n1 (by rw [← e]; exact List.mem_cons_self ..)
  cases hg : getF d.files p.1.name with
  | none =>
    have hno := h.get_no hg
    refine ⟨⟨σ.objs.set rm (.mp ((fs ++ [p]).map fent)), σ.toks⟩, fs ++ [p], ?_, ⟨?_, ?_, ?_, ?_, ?_⟩, KS.set (.inl (by simp)) _, ?_⟩
    · simp only [vmapSet, pTM, h.hm, keyD, find_no hno]
      rw [List.map_append]
      rfl
    · simp only; rw [List.getElem?_set_ne hrm]; exact h.hd
    · simp only; rw [List.getElem?_set_self hml]
    · intro q hq
      rcases List.mem_append.1 hq with hq | hq
      · exact hkeep q hq _
      · rw [List.mem_singleton] at hq; subst hq; exact hkp _
    · have e : foot r rm (fs ++ [p]) = foot r rm fs ++ p.2.ids := by simp [foot]
      rw [e, List.nodup_append]
      exact ⟨hN0, hnd, fun x hx y hy e => hdj y hy (by rw [← e]; exact hx)⟩
    · simp only [List.map_append, List.map_cons, List.map_nil]
      exact (List.perm_append_singleton ..).trans ((h.pm.cons _).trans (putF_new hg).symm)
    · intro x hx
      have e : foot r rm (fs ++ [p]) = foot r rm fs ++ p.2.ids := by simp [foot]
      rw [e, List.mem_append] at hx
      exact hx
  | some f =>
    obtain ⟨a, q, b, hA⟩ := h.get_yes hok hg
    have hfs := hA.e
    subst hfs
    have hpm := h.pm
    have hv := find_yes (a := a) (b := b) (p := q) (by rw [hA.nm]; exact hA.a) 0
    rw [hA.nm] at hv
    have hmem : ∀ x ∈ foot r rm (a ++ p :: b), x ∈ foot r rm (a ++ q :: b) ∨ x ∈ p.2.ids := by
      intro x hx
      simp only [foot, List.mem_cons, List.flatMap_append, List.flatMap_cons, List.mem_append] at hx ⊢
      rcases hx with h | h | h | h | h
      · exact .inl (.inl h)
      · exact .inl (.inr (.inl h))
      · exact .inl (.inr (.inr (.inl h)))
      · exact .inr h
      · exact .inl (.inr (.inr (.inr (.inr h))))
    refine ⟨⟨σ.objs.set rm (.mp ((a ++ p :: b).map fent)), σ.toks⟩, a ++ p :: b, ?_, ⟨?_, ?_, ?_, ?_, ?_⟩, KS.set (.inl (by simp)) _, hmem⟩
    · simp only [vmapSet, pTM, h.hm, keyD, hv]
      congr 3
      rw [List.map_append, List.map_cons, Nat.zero_add, ← List.length_map (f := fent), List.set_append_right _ _ (Nat.le_refl _), Nat.sub_self, List.map_append]
      rfl
    · simp only; rw [List.getElem?_set_ne hrm]; exact h.hd
    · simp only; rw [List.getElem?_set_self hml]
    · intro x hx
      simp only [List.mem_append, List.mem_cons] at hx
      rcases hx with hx | rfl | hx
      · exact hkeep x (by simp [hx]) _
      · exact hkp _
      · exact hkeep x (by simp [hx]) _
    · unfold foot at hN0 ⊢
      rw [flat_mid] at hN0 ⊢
      have hdj2 : ∀ x ∈ p.2.ids, x ∉ r :: rm :: ((a.flatMap fun p => p.2.ids) ++ (q.2.ids ++ b.flatMap fun p => p.2.ids)) := fun x hx hx2 => hdj x hx (by unfold foot; rw [flat_mid]; exact hx2)
      rw [← List.cons_append, ← List.cons_append] at hN0 ⊢
      rw [List.nodup_append, List.nodup_append] at hN0 ⊢
      obtain ⟨m1, ⟨m2, m3, m4⟩, m5⟩ := hN0
      refine ⟨m1, ⟨hnd, m3, fun x hx y hy e => hdj2 x hx (by rw [e]; simp [hy])⟩, fun x hx y hy e => ?_⟩
      rcases List.mem_append.1 hy with hy | hy
      · refine hdj2 y hy ?_
        rw [← e]
        rw [← List.cons_append, ← List.cons_append]
        exact List.mem_append_left _ hx
      · exact m5 x hx y (List.mem_append_right _ hy) e
    · simp only [List.map_append, List.map_cons] at hpm ⊢
      exact putF_perm hok.rise hpm hA.nm.symm
end Go.Proofs.Ytnbmfhnfmhgaaaa.Q

/- Remove, Rename, and the small calls. -/
set_option linter.unusedVariables false
set_option linter.unusedSimpArgs false
set_option maxRecDepth 100000
namespace Go.Proofs.Ytnbmfhnfmhgaaaa.Q
open Go Go.RowKit Go.Proofs
theorem remove_sees {σ : St} {r rm : Nat} {d : Dk} {fs : List Ent} {n : List UInt8} (h : DiskAt σ r d rm fs) (hok : d.Ok) (hw : d.writes < 4611686018427387904) :
    ∃ q σ', Does Try.prog prims 28 [.optr r 0, .str n] σ q σ' ∧ (q = .ret (.int .i64 ((removeD n d).1 : Nat)) ∧ Next σ r rm fs σ' (removeD n d).2) := by
  apply k28_is.does (by simp)
  simp only [k28_a, WK, vop, evAll, evOpt, evParts, vbuiltin, vun, vextract, Nat.reduceLT, Nat.reduceEqDiff, ↓reduceIte, reduceCtorEq, Nat.reduceAdd, Int.reduceLT, Int.reduceNeg, valloc_std, noSB, vhot, List.getD_cons_zero, List.getD_cons_succ]
  by_cases hz : thereD d n = 0
  · obtain ⟨a, b, p, hA, hr⟩ := there_ok h hok hz
    refine KD.ret (there_yes h hr hA) ?_
    obtain ⟨σ1, r1, D1, r3, r4, σ2, r5, r6⟩ := rawNext h hok hw
    obtain ⟨f1, f2, f3, f4, f5⟩ := raw_files d
    simp only [k28_a, WK, vop, evAll, evOpt, evParts, vbuiltin, vun, vextract, Nat.reduceLT, Nat.reduceEqDiff, ↓reduceIte, reduceCtorEq, Nat.reduceAdd, Int.reduceLT, Int.reduceNeg, valloc_std, noSB, vhot]
    refine KD.ret r1 ?_
    have hz' : ¬ thereD d n ≠ 0 := fun h => h hz
    cases hgo : (rawD d).1 with
    | true =>
      have e : removeD n d = (20, offD d.keep (rawD d).2) := by unfold removeD; rw [if_neg hz', if_pos hgo]
      simp only [k28_a, WK, vop, evAll, evOpt, evParts, vbuiltin, vun, vextract, Nat.reduceLT, Nat.reduceEqDiff, ↓reduceIte, reduceCtorEq, Nat.reduceAdd, Int.reduceLT, Int.reduceNeg, valloc_std, noSB, vhot]
      refine KD.ret r5 ?_
      simp only [k28_a, WK, vop, evAll, evOpt, evParts, vbuiltin, vun, vextract, Nat.reduceLT, Nat.reduceEqDiff, ↓reduceIte, reduceCtorEq, Nat.reduceAdd, Int.reduceLT, Int.reduceNeg, valloc_std, noSB, vhot, e]
      exact ⟨rfl, r6⟩
    | false =>
      have A1 := hA.files (d2 := (rawD d).2) f1
      have e : removeD n d = (0, { (rawD d).2 with files := dropF n d.files }) := by
        unfold removeD; rw [if_neg hz', if_neg (by rw [hgo]; simp)]
      have lm : vload Try.prog σ1.objs 55 (.optr r 0) = some (.omap rm) := by rw [vload_obj D1.hd pGM]; rfl
      obtain ⟨σb, hdl, N1, K1, _, _, _, I1⟩ := D1.gone hok.raw A1
      simp only [k28_a, WK, vop, evAll, evOpt, evParts, vbuiltin, vun, vextract, Nat.reduceLT, Nat.reduceEqDiff, ↓reduceIte, reduceCtorEq, Nat.reduceAdd, Int.reduceLT, Int.reduceNeg, valloc_std, noSB, vhot, pFA r 0 (by omega), lm, hdl, e]
      rw [f1] at N1
      exact ⟨rfl, Next.trans r3 (fun x hx => .inl hx) ⟨_, N1, K1.mono fun x hx => .inl (by rw [List.mem_singleton] at hx; subst hx; simp [foot]), fun x hx => .inl (I1 x hx)⟩⟩
  · refine KD.ret (there_no h n hz) ?_
    have hz' : ¬ ((thereD d n : Nat) : Int) = 0 := by omega
    have e : removeD n d = (thereD d n, d) := by unfold removeD; rw [if_pos hz]
    simp only [k28_a, WK, vop, evAll, evOpt, evParts, vbuiltin, vun, vextract, Nat.reduceLT, Nat.reduceEqDiff, ↓reduceIte, reduceCtorEq, Nat.reduceAdd, Int.reduceLT, Int.reduceNeg, valloc_std, noSB, vhot, hz', e]
    exact Next.refl h
theorem thereD_cases (d : Dk) (n : List UInt8) : (namedD n = false → thereD d n = 1) ∧ (namedD n = true → thereD d n = 0 ∨ thereD d n = 20 ∨ thereD d n = 21) := by
  unfold thereD readyD
  cases h1 : namedD n <;> cases h2 : d.on <;> cases h3 : (getF d.files n).isNone <;> simp
theorem rename_sees {σ : St} {r rm : Nat} {d : Dk} {fs : List Ent} {n m : List UInt8} (h : DiskAt σ r d rm fs) (hok : d.Ok) (hw : d.writes < 4611686018427387904) :
    ∃ q σ', Does Try.prog prims 27 [.optr r 0, .str n, .str m] σ q σ' ∧ (q = .ret (.int .i64 ((renameD n m d).1 : Nat)) ∧ Next σ r rm fs σ' (renameD n m d).2) := by
  apply k27_is.does (by simp)
  simp only [k27_a, WK, vop, evAll, evOpt, evParts, vbuiltin, vun, vextract, Nat.reduceLT, Nat.reduceEqDiff, ↓reduceIte, reduceCtorEq, Nat.reduceAdd, Int.reduceLT, Int.reduceNeg, valloc_std, noSB, vhot, List.getD_cons_zero, List.getD_cons_succ]
  obtain ⟨c1, c2⟩ := thereD_cases d n
  by_cases hz : thereD d n = 0
  · obtain ⟨a, b, p, hA, hr⟩ := there_ok h hok hz
    have hn := (readyD_named hr).1
    refine KD.ret (there_yes h hr hA) ?_
    have z2 : ¬ (0 : Int) = 2 := by decide
    have z1 : ¬ (0 : Int) = 1 := by decide
    simp only [k27_a, WK, vop, evAll, evOpt, evParts, vbuiltin, vun, vextract, Nat.reduceLT, Nat.reduceEqDiff, ↓reduceIte, reduceCtorEq, Nat.reduceAdd, Int.reduceLT, Int.reduceNeg, valloc_std, noSB, vhot, z2, z1, decide_false]
    refine KD.ret (named_does m σ) ?_
    have hz' : ¬ thereD d n ≠ 0 := fun h => h hz
    cases hm : namedD m with
    | false =>
      have e : renameD n m d = (1, d) := by unfold renameD; rw [if_pos (.inr hm)]
      simp only [k27_a, WK, vop, evAll, evOpt, evParts, vbuiltin, vun, vextract, Nat.reduceLT, Nat.reduceEqDiff, ↓reduceIte, reduceCtorEq, Nat.reduceAdd, Int.reduceLT, Int.reduceNeg, valloc_std, noSB, vhot, Bool.not_false, e]
      exact ⟨rfl, Next.refl h⟩
    | true =>
      have hnm : ¬ (namedD n = false ∨ namedD m = false) := by rw [hn, hm]; simp
      obtain ⟨σ1, r1, D1, r3, r4, σ2, r5, r6⟩ := rawNext h hok hw
      obtain ⟨f1, f2, f3, f4, f5⟩ := raw_files d
      simp only [k27_a, WK, vop, evAll, evOpt, evParts, vbuiltin, vun, vextract, Nat.reduceLT, Nat.reduceEqDiff, ↓reduceIte, reduceCtorEq, Nat.reduceAdd, Int.reduceLT, Int.reduceNeg, valloc_std, noSB, vhot, Bool.not_true]
      refine KD.ret r1 ?_
      cases hgo : (rawD d).1 with
      | true =>
        have e : renameD n m d = (20, offD d.keep (rawD d).2) := by unfold renameD; rw [if_neg hnm, if_neg hz', if_pos hgo]
        simp only [k27_a, WK, vop, evAll, evOpt, evParts, vbuiltin, vun, vextract, Nat.reduceLT, Nat.reduceEqDiff, ↓reduceIte, reduceCtorEq, Nat.reduceAdd, Int.reduceLT, Int.reduceNeg, valloc_std, noSB, vhot]
        refine KD.ret r5 ?_
        simp only [k27_a, WK, vop, evAll, evOpt, evParts, vbuiltin, vun, vextract, Nat.reduceLT, Nat.reduceEqDiff, ↓reduceIte, reduceCtorEq, Nat.reduceAdd, Int.reduceLT, Int.reduceNeg, valloc_std, noSB, vhot, e]
        exact ⟨rfl, r6⟩
      | false =>
        have A1 := hA.files (d2 := (rawD d).2) f1
        have e : renameD n m d = (0, { (rawD d).2 with files := putF ⟨m, p.1.safe, p.1.wait⟩ (dropF n d.files) }) := by
          unfold renameD; rw [if_neg hnm, if_neg hz', if_neg (by rw [hgo]; simp), hA.g]; rfl
        have lm : vload Try.prog σ1.objs 55 (.optr r 0) = some (.omap rm) := by rw [vload_obj D1.hd pGM]; rfl
        obtain ⟨σb, hdl, N1, K1, F1, Q1, J1, I1⟩ := D1.gone hok.raw A1
        have lm2 : vload Try.prog σb.objs 55 (.optr r 0) = some (.omap rm) := by rw [vload_obj N1.hd pGM]; rfl
        obtain ⟨σc, fs', hst, N2, K2, I2⟩ := N1.come (p := (⟨m, p.1.safe, p.1.wait⟩, p.2)) (hok.raw.drop n) ⟨F1.ob, F1.s, F1.w, F1.cs, F1.ds⟩ Q1 (fun x hx => (J1 x hx).2)
        simp only [k27_a, WK, vop, evAll, evOpt, evParts, vbuiltin, vun, vextract, Nat.reduceLT, Nat.reduceEqDiff, ↓reduceIte, reduceCtorEq, Nat.reduceAdd, Int.reduceLT, Int.reduceNeg, valloc_std, noSB, vhot, pFA r 0 (by omega), lm, hdl, lm2, hst, e]
        rw [f1] at N2
        have hrm : ∀ x ∈ [rm], x ∈ foot r rm fs ∨ σ1.objs.length ≤ x := fun x hx => .inl (by rw [List.mem_singleton] at hx; subst hx; simp [foot])
        refine ⟨rfl, Next.trans r3 (fun x hx => .inl hx) ⟨_, N2, (K1.mono hrm).trans K2 hrm, fun x hx => ?_⟩⟩
        rcases I2 x hx with h | h
        · exact .inl (I1 x h)
        · exact .inl (J1 x h).1
  · refine KD.ret (there_no h n hz) ?_
    have hz' : ¬ ((thereD d n : Nat) : Int) = 0 := by omega
    cases hn : namedD n with
    | false =>
      have ht := c1 hn
      have e : renameD n m d = (1, d) := by unfold renameD; rw [if_pos (.inl hn)]
      have z2 : ¬ (1 : Int) = 2 := by decide
      have ht' : ((thereD d n : Nat) : Int) = 1 := by omega
      rw [e]
      simp only [k27_a, WK, vop, evAll, evOpt, evParts, vbuiltin, vun, vextract, Nat.reduceLT, Nat.reduceEqDiff, ↓reduceIte, reduceCtorEq, Nat.reduceAdd, Int.reduceLT, Int.reduceNeg, valloc_std, noSB, vhot, ht', z2, decide_false, decide_true]
      exact ⟨rfl, Next.refl h⟩
    | true =>
      have h2 : ¬ ((thereD d n : Nat) : Int) = 2 := by have := c2 hn; omega
      have h1 : ¬ ((thereD d n : Nat) : Int) = 1 := by have := c2 hn; omega
      simp only [k27_a, WK, vop, evAll, evOpt, evParts, vbuiltin, vun, vextract, Nat.reduceLT, Nat.reduceEqDiff, ↓reduceIte, reduceCtorEq, Nat.reduceAdd, Int.reduceLT, Int.reduceNeg, valloc_std, noSB, vhot, h1, h2, decide_false]
      refine KD.ret (named_does m σ) ?_
      cases hm : namedD m with
      | false =>
        have e : renameD n m d = (1, d) := by unfold renameD; rw [if_pos (.inr hm)]
        simp only [k27_a, WK, vop, evAll, evOpt, evParts, vbuiltin, vun, vextract, Nat.reduceLT, Nat.reduceEqDiff, ↓reduceIte, reduceCtorEq, Nat.reduceAdd, Int.reduceLT, Int.reduceNeg, valloc_std, noSB, vhot, Bool.not_false, e]
        exact ⟨rfl, Next.refl h⟩
      | true =>
        have hnm : ¬ (namedD n = false ∨ namedD m = false) := by rw [hn, hm]; simp
        have e : renameD n m d = (thereD d n, d) := by unfold renameD; rw [if_neg hnm, if_pos hz]
        simp only [k27_a, WK, vop, evAll, evOpt, evParts, vbuiltin, vun, vextract, Nat.reduceLT, Nat.reduceEqDiff, ↓reduceIte, reduceCtorEq, Nat.reduceAdd, Int.reduceLT, Int.reduceNeg, valloc_std, noSB, vhot, Bool.not_true, hz', decide_false, e]
        exact Next.refl h
end Go.Proofs.Ytnbmfhnfmhgaaaa.Q

/- Concat, Read and Names. -/
set_option linter.unusedVariables false
set_option linter.unusedSimpArgs false
set_option maxRecDepth 100000
namespace Go.Proofs.Ytnbmfhnfmhgaaaa.Q
open Go Go.RowKit Go.Proofs
theorem TBB : Try.prog.underlying 22 = some (.slice 28) := by kernel_rfl
theorem grow_does {σ : St} {n : Nat} (hn : n ≤ 1000000000) : ∃ v q σ', Does Try.prog prims 50 [.nils, .int .i64 (n : Int)] σ (.ret v) σ' ∧ rowOf σ'.objs v = some (q, []) ∧ KS [] σ σ' ∧ ∀ x ∈ q.toList, σ.objs.length ≤ x := by
  have key : ∃ r σ', Does Try.prog prims 50 [.nils, .int .i64 (n : Int)] σ r σ' ∧ ∃ v q, r = .ret v ∧ rowOf σ'.objs v = some (q, []) ∧ KS [] σ σ' ∧ ∀ x ∈ q.toList, σ.objs.length ≤ x := by
    apply k50_is.does (by simp)
    have h0 : ¬ (n : Int) < 0 := by omega
    have hvc : vcap Try.prog 28 .nils = some (.int .i64 0) := by kernel_rfl
    have hvl : vlen Try.prog 28 .nils = some (.int .i64 0) := by kernel_rfl
    have hw0 : IntKind.i64.wrap ((0 : Int) - 0) = 0 := by decide
    have hwn : IntKind.i64.wrap ((n : Int) - 0) = n := by rw [wrap_i64 (by omega) (by omega)]; omega
    have hsl : vslice Try.prog 28 .nils none (some (.int .i64 0)) none = some .nils := by kernel_rfl
    by_cases hz : n = 0
    · have h1 : ¬ (0 : Int) < (n : Int) := by omega
      simp only [k50_a, WK, vop, evAll, evOpt, evParts, vbuiltin, vun, vextract, Nat.reduceLT, Nat.reduceEqDiff, ↓reduceIte, reduceCtorEq, Nat.reduceAdd, Int.reduceLT, Int.reduceNeg, valloc_std, noSB, vhot, List.getD_cons_zero, List.getD_cons_succ, h0, hvc, hvl, hw0, hwn, nilEP, h1, decide_false]
      exact ⟨.nils, none, rfl, rfl, KS.refl _ _, fun x hx => by cases hx⟩
    · have h1 : (0 : Int) < (n : Int) := by omega
      have hno : vappendRow Try.prog σ 28 3 .nils (.int .i64 (n : Int)) = none := by
        simp [vappendRow, pTB, bInfo, pS1, bZero, vnewsO, vnews, T3]
      have hmk : vappendMake Try.prog σ 28 3 .nils (.int .i64 (n : Int)) = some (.hslice σ.objs.length 0 1 n, ⟨σ.objs ++ [.cells []], σ.toks⟩) := by
        have : 0 < n := by omega
        have h9 : n ≤ 140737488355328 := by omega
        simp [vappendMake, pTB, bInfo, pS1, bZero, T3, vcells, this, h9]
      have hb := vbounds_hi (k := .i64) (n := 0) (len := n) (by omega) (by omega)
      have hs2 : vslice Try.prog 28 (.hslice σ.objs.length 0 1 n) none (some (.int .i64 0)) none = some (.hslice σ.objs.length 0 1 0) := by
        simp only [vslice, pTB, pS1, hb]
        simp
      simp only [k50_a, WK, vop, evAll, evOpt, evParts, vbuiltin, vun, vextract, Nat.reduceLT, Nat.reduceEqDiff, ↓reduceIte, reduceCtorEq, Nat.reduceAdd, Int.reduceLT, Int.reduceNeg, valloc_std, noSB, vhot, List.getD_cons_zero, List.getD_cons_succ, h0, hvc, hvl, hw0, hwn, nilEP, h1, decide_true, hsl, pTB, hno, hmk, hs2]
      refine ⟨_, some σ.objs.length, rfl, ?_, KS.push _ _ _, fun x hx => by simp at hx; omega⟩
      simp [rowOf]
  obtain ⟨r, σ', h1, v, q, rfl, h2⟩ := key
  exact ⟨v, q, σ', h1, h2⟩
/-- Rows put behind each other. -/
theorem concat_does {σ : St} {pm : Perm} {vs : List V} {bss : List (List UInt8)} (hl : vs.length = bss.length) (hb : ∀ (i : Nat) (h : i < vs.length) (h' : i < bss.length), RB σ vs[i] bss[i]) (hlen : bss.flatten.length ≤ 1000000000) (hcl : bss.length ≤ 1000000000) :
    ∃ v q σ', Does Try.prog prims 36 [.slice pm 1 vs vs.length] σ (.ret v) σ' ∧ rowOf σ'.objs v = some (q, bss.flatten.map byteV) ∧ KS [] σ σ' ∧ ∀ x ∈ q.toList, σ.objs.length ≤ x := by
  have key : ∃ r σ', Does Try.prog prims 36 [.slice pm 1 vs vs.length] σ r σ' ∧ ∃ v q, r = .ret v ∧ rowOf σ'.objs v = some (q, bss.flatten.map byteV) ∧ KS [] σ σ' ∧ ∀ x ∈ q.toList, σ.objs.length ≤ x := by
    apply k36_is.does (by simp)
    have hvl : vlen Try.prog 22 (.slice pm 1 vs vs.length) = some (.int .i64 (vs.length : Nat)) := by simp [vlen, TBB]
    have haddr : ∀ i : Nat, i < vs.length → vindexAddr Try.prog 22 (.slice pm 1 vs vs.length) (.int .i64 (i : Int)) = some (.eptr vs i) := by
      intro i hi
      have h1 : vs.isEmpty = false := by cases vs with | nil => simp at hi | cons => rfl
      have h2 : (i : Int) < vs.length := by omega
      simp [vindexAddr, TBB, SBB, h1, h2]
    have hload : ∀ (s : St) (i : Nat) (hi : i < vs.length), vload Try.prog s.objs 28 (.eptr vs i) = some vs[i] := by
      intro s i hi
      simp [vload, vcellsAt, vpart, pGB, hi]
    have hsum : ∀ i, i ≤ bss.length → (bss.take i).flatten.length ≤ bss.flatten.length := by
      intro i hi
      have := congrArg List.length (congrArg List.flatten (List.take_append_drop i bss))
      rw [List.flatten_append, List.length_append] at this
      omega
    have hstep : ∀ i (h : i < bss.length), (bss.take (i + 1)).flatten = (bss.take i).flatten ++ bss[i] := by
      intro i h
      rw [List.take_succ_eq_append_getElem h, List.flatten_append]
      simp
    simp only [k36_a, WK, vop, evAll, evOpt, evParts, vbuiltin, vun, vextract, Nat.reduceLT, Nat.reduceEqDiff, ↓reduceIte, reduceCtorEq, Nat.reduceAdd, Int.reduceLT, Int.reduceNeg, valloc_std, noSB, vhot, List.getD_cons_zero, List.getD_cons_succ, hvl, nilEP]
    refine Ev.loopF (fun (i : Nat) e σ' => σ' = σ ∧ e 11 = .int .i64 (i : Nat) ∧ i ≤ vs.length ∧ e 3 = .int .i64 ((bss.take i).flatten.length : Nat)) (fun i => vs.length - i) 0 ⟨rfl, by simp [upd_some], Nat.zero_le _, by simp [upd_some]⟩ ?_
    rintro i e σ' ⟨rfl, h11, hi, h3⟩ hf
    have h0 : e 0 = .slice pm 1 vs vs.length := (hf 0 (by decide)).trans (by simp [upd_some])
    have h9 : e 9 = .slice pm 1 vs vs.length := (hf 9 (by decide)).trans (by simp [upd_some])
    have h10 : e 10 = .int .i64 (vs.length : Nat) := (hf 10 (by decide)).trans (by simp [upd_some])
    clear hf
    by_cases hlt : i < vs.length
    · have hlt' : (i : Int) < vs.length := by omega
      have hlb : i < bss.length := by omega
      have hwi : IntKind.i64.wrap ((i : Int) + 1) = ((i + 1 : Nat) : Int) := by rw [show ((i : Int) + 1) = ((i + 1 : Nat) : Int) from by omega]; exact wrap_nat (by omega)
      have hle := hsum (i + 1) (by omega)
      have hst := hstep i hlb
      have hws : IntKind.i64.wrap (((bss.take i).flatten.length : Nat) + (bss[i].length : Nat) : Int) = (((bss.take (i + 1)).flatten.length : Nat) : Int) := by
        rw [hst, List.length_append] at hle ⊢
        rw [wrap_i64 (by omega) (by omega)]; omega
      have hn0 : ¬ (((bss.take (i + 1)).flatten.length : Nat) : Int) < 0 := by omega
      simp only [k36_a, WK, vop, evAll, evOpt, evParts, vbuiltin, vun, vextract, Nat.reduceLT, Nat.reduceEqDiff, ↓reduceIte, reduceCtorEq, Nat.reduceAdd, Int.reduceLT, Int.reduceNeg, valloc_std, noSB, vhot, h9, h10, h11, h3, hlt', haddr i hlt, hload _ i hlt, (hb i hlt hlb).len, hws, hn0, hwi, decide_true, decide_false]
      exact ⟨i + 1, ⟨by simp [upd_some], by omega, by simp [upd_some]⟩, by omega⟩
    · have hlt' : ¬ (i : Int) < vs.length := by omega
      have hall : bss.take i = bss := List.take_of_length_le (by omega)
      rw [hall] at h3
      obtain ⟨v1, q1, s1, g1, g2, g3, g4⟩ := grow_does (σ := σ') hlen
      simp only [k36_a, WK, vop, evAll, evOpt, evParts, vbuiltin, vun, vextract, Nat.reduceLT, Nat.reduceEqDiff, ↓reduceIte, reduceCtorEq, Nat.reduceAdd, Int.reduceLT, Int.reduceNeg, valloc_std, noSB, vhot, h9, h10, h11, h3, hlt', decide_false, nilEP]
      refine KD.ret g1 ?_
      simp only [k36_a, WK, vop, evAll, evOpt, evParts, vbuiltin, vun, vextract, Nat.reduceLT, Nat.reduceEqDiff, ↓reduceIte, reduceCtorEq, Nat.reduceAdd, Int.reduceLT, Int.reduceNeg, valloc_std, noSB, vhot, h0, hvl]
      refine Ev.loopF (fun (j : Nat) e s => ∃ q, e 27 = .int .i64 (j : Nat) ∧ j ≤ vs.length ∧ rowOf s.objs (e 6) = some (q, (bss.take j).flatten.map byteV) ∧ KS [] σ' s ∧ ∀ x ∈ q.toList, σ'.objs.length ≤ x) (fun i => vs.length - i) 0 ⟨q1, by simp [upd_some], Nat.zero_le _, by simpa [upd_some] using g2, g3, g4⟩ ?_
      rintro j e2 s ⟨q, k27, hj, k6, kk, kq⟩ hf2
      have k25 : e2 25 = .slice pm 1 vs vs.length := (hf2 25 (by decide)).trans (by simp [upd_some])
      have k26 : e2 26 = .int .i64 (vs.length : Nat) := (hf2 26 (by decide)).trans (by simp [upd_some])
      clear hf2
      by_cases hlt2 : j < vs.length
      · have hlt2' : (j : Int) < vs.length := by omega
        have hlb : j < bss.length := by omega
        have hwi : IntKind.i64.wrap ((j : Int) + 1) = ((j + 1 : Nat) : Int) := by rw [show ((j : Int) + 1) = ((j + 1 : Nat) : Int) from by omega]; exact wrap_nat (by omega)
        have hR := (hb j hlt2 hlb).ks kk (fun q hq => by cases hq)
        have hle := hsum (j + 1) (by omega)
        rw [hstep j hlb, List.length_append] at hle
        have hbn := hR.news
        rw [← List.length_map (f := byteV)] at hbn
        obtain ⟨v', q', s2, a1, a2, a3, a4, a5⟩ := rowApp k6 hbn (byteV_one _) (by rw [List.length_map, List.length_map]; omega)
        simp only [k36_a, WK, vop, evAll, evOpt, evParts, vbuiltin, vun, vextract, Nat.reduceLT, Nat.reduceEqDiff, ↓reduceIte, reduceCtorEq, Nat.reduceAdd, Int.reduceLT, Int.reduceNeg, valloc_std, noSB, vhot, k25, k26, k27, hlt2', haddr j hlt2, hload _ j hlt2, hwi, a1, decide_true]
        refine ⟨j + 1, ⟨q', by simp [upd_some], by omega, ?_, kk.trans a3 fun x hx => .inr (kq x hx), fun x hx => ?_⟩, by omega⟩
        · rw [hstep j hlb, List.map_append]; simpa [upd_some] using a2
        · rcases a4 x hx with h | h
          · exact kq x h
          · have := kk.le; omega
      · have hlt2' : ¬ (j : Int) < vs.length := by omega
        have hall2 : bss.take j = bss := List.take_of_length_le (by omega)
        rw [hall2] at k6
        simp only [k36_a, WK, vop, evAll, evOpt, evParts, vbuiltin, vun, vextract, Nat.reduceLT, Nat.reduceEqDiff, ↓reduceIte, reduceCtorEq, Nat.reduceAdd, Int.reduceLT, Int.reduceNeg, valloc_std, noSB, vhot, k25, k26, k27, hlt2', decide_false]
        exact ⟨_, q, rfl, k6, kk, kq⟩
  obtain ⟨r, σ', h1, v, q, rfl, h2⟩ := key
  exact ⟨v, q, σ', h1, h2⟩
theorem mkRows2 (a b : V) (h1 : one a = true) (h2 : one b = true) : vbuildSlice Try.prog 22 2 [(0, a), (1, b)] = some (.slice .exact 1 [a, b] 2) := by
  have hz : zeroT Try.prog 28 = some .nils := by kernel_rfl
  have e : List.range 2 = [0, 1] := by decide
  have hn : vcells V.nils = [V.nils] := rfl
  simp [vbuildSlice, TBB, SBB, hz, hn, zeroCellsV, vfill, setAll, e, vcells_one h1, vcells_one h2, h1, h2]
theorem read_sees {σ : St} {r rm : Nat} {d : Dk} {fs : List Ent} {n : List UInt8} (h : DiskAt σ r d rm fs) (hok : d.Ok) :
    ∃ p σ', Does Try.prog prims 12 [.optr r 0, .str n] σ p σ' ∧ ∃ v q, p = .ret (.tuple [v, .int .i64 ((readD n d).1 : Nat)]) ∧ rowOf σ'.objs v = some (q, (readD n d).2.map byteV) ∧ KS [] σ σ' ∧ ∀ x ∈ q.toList, σ.objs.length ≤ x := by
  apply k12_is.does (by simp)
  simp only [k12_a, WK, vop, evAll, evOpt, evParts, vbuiltin, vun, vextract, Nat.reduceLT, Nat.reduceEqDiff, ↓reduceIte, reduceCtorEq, Nat.reduceAdd, Int.reduceLT, Int.reduceNeg, valloc_std, noSB, vhot, List.getD_cons_zero, List.getD_cons_succ, nilEP]
  by_cases hz : thereD d n = 0
  · obtain ⟨a, b, p, hA, hr⟩ := there_ok h hok hz
    have hz' : ¬ thereD d n ≠ 0 := fun h => h hz
    have e : readD n d = (0, p.1.safe ++ p.1.wait) := by unfold readD; rw [if_neg hz', hA.g]; rfl
    obtain ⟨g1, g2, g3⟩ := hA.ids h
    obtain ⟨l1, l2, v1, v2, hl, hn, hnd, hrf⟩ := hA.facts h hok
    obtain ⟨v, q, σ', c1, c2, c3, c4⟩ := concat_does (σ := σ) (pm := .exact) (vs := [p.2.s, p.2.w]) (bss := [p.1.safe, p.1.wait]) rfl (fun i h h' => by
      match i, h with
      | 0, _ => exact rowOf_rb g1.s
      | 1, _ => exact rowOf_rb g1.w) (by simp; omega) (by simp)
    refine KD.ret (there_yes h hr hA) ?_
    simp only [k12_a, WK, vop, evAll, evOpt, evParts, vbuiltin, vun, vextract, Nat.reduceLT, Nat.reduceEqDiff, ↓reduceIte, reduceCtorEq, Nat.reduceAdd, Int.reduceLT, Int.reduceNeg, valloc_std, noSB, vhot, pFF0, pFF1, l1, l2, mkRows2 p.2.s p.2.w (rowOf_one g1.s) (rowOf_one g1.w), nilEP]
    refine KD.ret c1 ?_
    simp only [k12_a, WK, vop, evAll, evOpt, evParts, vbuiltin, vun, vextract, Nat.reduceLT, Nat.reduceEqDiff, ↓reduceIte, reduceCtorEq, Nat.reduceAdd, Int.reduceLT, Int.reduceNeg, valloc_std, noSB, vhot, pFF0, pFF1, l1, l2, e]
    refine ⟨v, q, rfl, ?_, c3, c4⟩
    simpa using c2
  · refine KD.ret (there_no h n hz) ?_
    have hz' : ¬ ((thereD d n : Nat) : Int) = 0 := by omega
    have e : readD n d = (thereD d n, []) := by unfold readD; rw [if_pos hz]
    simp only [k12_a, WK, vop, evAll, evOpt, evParts, vbuiltin, vun, vextract, Nat.reduceLT, Nat.reduceEqDiff, ↓reduceIte, reduceCtorEq, Nat.reduceAdd, Int.reduceLT, Int.reduceNeg, valloc_std, noSB, vhot, hz', e, nilEP]
    exact ⟨.nils, none, rfl, rfl, KS.refl _ _, fun x hx => by cases hx⟩
end Go.Proofs.Ytnbmfhnfmhgaaaa.Q

/- Names, and the small calls. -/
set_option linter.unusedVariables false
set_option linter.unusedSimpArgs false
set_option maxRecDepth 100000
namespace Go.Proofs.Ytnbmfhnfmhgaaaa.Q
open Go Go.RowKit Go.Proofs
theorem keys_does {σ : St} {rm : Nat} : ∃ t, Does Try.prog prims 34 [.omap rm] σ (.ret (.func 49 [.optr σ.objs.length 0])) ⟨σ.objs ++ [.tcells t [.omap rm]], σ.toks⟩ := by
  have key : ∃ r σ', Does Try.prog prims 34 [.omap rm] σ r σ' ∧ (r = .ret (.func 49 [.optr σ.objs.length 0]) ∧ ∃ t, σ' = ⟨σ.objs ++ [.tcells t [.omap rm]], σ.toks⟩) := by
    apply k34_is.does (by simp)
    have hn : ofVal .nilFunc = some .nilf := by kernel_rfl
    have hc : vcells (.omap rm) = [.omap rm] := rfl
    simp only [k34_a, WK, vop, evAll, evOpt, evParts, vbuiltin, vun, vextract, Nat.reduceLT, Nat.reduceEqDiff, ↓reduceIte, reduceCtorEq, Nat.reduceAdd, Int.reduceLT, Int.reduceNeg, valloc_std, noSB, vhot, List.getD_cons_zero, List.getD_cons_succ, hn, vboxT, hc]
    exact ⟨_, rfl⟩
  obtain ⟨r, σ', h, rfl, t, rfl⟩ := key
  exact ⟨t, h⟩
theorem strs_ents {fs : List Ent} : strsOf (fs.map fent) = some (fs.map fun p => p.1.name) := by
  induction fs with
  | nil => rfl
  | cons p fs ih => simp only [List.map_cons, fent, strsOf] at ih ⊢; rw [ih]; rfl
theorem leS_trans (a b c : List UInt8) : leS a b = true → leS b c = true → leS a c = true := by
  simp only [leS, decide_eq_true_eq]; exact List.le_trans
theorem leS_total (a b : List UInt8) : (leS a b || leS b a) = true := by
  simp only [leS, Bool.or_eq_true, decide_eq_true_eq]; exact List.le_total a b
theorem sort_names {d : Dk} (hok : d.Ok) {ks : List (List UInt8)} (h : ks.Perm (d.files.map Fl.name)) : ks.mergeSort leS = d.files.map Fl.name := by
  have h1 : (d.files.map Fl.name).Pairwise fun a b => a ≤ b := by
    rw [List.pairwise_map]
    exact hok.rise.imp fun {f g} hlt => List.le_of_lt hlt
  have h2 := (List.mergeSort_perm ks leS).trans h
  have h3 : (ks.mergeSort leS).Pairwise fun a b => a ≤ b := (List.pairwise_mergeSort leS_trans leS_total ks).imp fun {a b} hab => by simpa [leS] using hab
  exact h2.eq_of_pairwise (le := fun a b => a ≤ b) (fun a b _ _ hab hba => List.le_antisymm hab hba) h3 h1
theorem names_sees {σ : St} {r rm : Nat} {d : Dk} {fs : List Ent} (h : DiskAt σ r d rm fs) (hok : d.Ok) :
    ∃ p σ', Does Try.prog prims 11 [.optr r 0] σ p σ' ∧ ∃ v q, p = .ret v ∧ rowOf σ'.objs v = some (q, (namesD d).map V.str) ∧ KS [] σ σ' ∧ ∀ x ∈ q.toList, σ.objs.length ≤ x := by
  apply k11_is.does (by simp)
  have lo : vload Try.prog σ.objs 4 (.optr r 2) = some (.bool (!d.on)) := by rw [vload_obj h.hd G4]; rfl
  have lm : vload Try.prog σ.objs 55 (.optr r 0) = some (.omap rm) := by rw [vload_obj h.hd pGM]; rfl
  cases hon : d.on with
  | false =>
    rw [hon] at lo
    have e : namesD d = [] := by simp [namesD, hon]
    simp only [k11_a, WK, vop, evAll, evOpt, evParts, vbuiltin, vun, vextract, Nat.reduceLT, Nat.reduceEqDiff, ↓reduceIte, reduceCtorEq, Nat.reduceAdd, Int.reduceLT, Int.reduceNeg, valloc_std, noSB, vhot, List.getD_cons_zero, List.getD_cons_succ, nilEP, ofNilP, eql_optr pTD, pFA r 2 (by omega), lo, Bool.not_false, e]
    exact ⟨.nils, none, rfl, rfl, KS.refl _ _, fun x hx => by cases hx⟩
  | true =>
    rw [hon] at lo
    have e : namesD d = d.files.map Fl.name := by simp [namesD, hon]
    obtain ⟨t, hk⟩ := keys_does (σ := σ) (rm := rm)
    obtain ⟨s1, hs1⟩ : ∃ s1 : St, s1 = ⟨σ.objs ++ [.tcells t [.omap rm]], σ.toks⟩ := ⟨_, rfl⟩
    rw [← hs1] at hk
    have K1 : KS [] σ s1 := by rw [hs1]; exact KS.push _ _ _
    have D1 : DiskAt s1 r d rm fs := by rw [hs1]; exact h.pushed _
    have L1 : s1.objs.length = σ.objs.length + 1 := by rw [hs1]; simp
    have hb : s1.objs[σ.objs.length]? = some (.tcells t [.omap rm]) := by rw [hs1]; exact push_new _ _
    have hperm : (fs.map fun p => p.1.name).Perm (d.files.map Fl.name) := by
      have := h.pm.map Fl.name
      rw [List.map_map] at this
      exact this
    have hsort := sort_names hok hperm
    have hnd := h.names hok
    have hlen : (fs.map fun p => p.1.name).length ≤ 16 := by rw [hperm.length_eq, List.length_map]; exact hok.few
    have hsm : ((fs.map fun p => p.1.name).all fun s => decide (s.length ≤ 140737488355328)) = true := by
      rw [List.all_eq_true]
      intro s hs
      obtain ⟨f, hf, rfl⟩ := List.mem_map.1 (hperm.mem_iff.1 hs)
      have := hok.nm f hf
      simp only [namedD, decide_eq_true_eq] at this ⊢
      omega
    have hp : ∃ v s2 q, Does Try.prog prims 33 [.func 49 [.optr σ.objs.length 0]] s1 (.ret v) s2 ∧ rowOf s2.objs v = some (q, (namesD d).map V.str) ∧ KS [] s1 s2 ∧ ∀ x ∈ q.toList, s1.objs.length ≤ x := by
      by_cases h0 : (fs.map fun p => p.1.name) = []
      · refine ⟨.nils, s1, none, Does.prim (by kernel_rfl) ?_, ?_, KS.refl _ _, fun x hx => by cases hx⟩
        · simp only [prims]
          rw [if_neg (by decide +kernel), if_neg (by decide +kernel), if_pos trivial]
          simp only [sortedP, hb, D1.hm, strs_ents, ↓reduceIte]
          rw [if_pos ⟨hnd, by omega, hsm⟩, if_pos h0]
        · rw [e, ← hsort, h0, List.mergeSort_nil]; rfl
      · refine ⟨.hslice s1.objs.length 0 1 (fs.map fun p => p.1.name).length, ⟨s1.objs ++ [.cells (((fs.map fun p => p.1.name).mergeSort leS).map V.str)], s1.toks⟩, some s1.objs.length, Does.prim (by kernel_rfl) ?_, ?_, KS.push _ _ _, fun x hx => by simp at hx; omega⟩
        · simp only [prims]
          rw [if_neg (by decide +kernel), if_neg (by decide +kernel), if_pos trivial]
          simp only [sortedP, hb, D1.hm, strs_ents, ↓reduceIte]
          rw [if_pos ⟨hnd, by omega, hsm⟩, if_neg h0]
        · have hl : (fs.map fun p => p.1.name).length = (((fs.map fun p => p.1.name).mergeSort leS).map V.str).length := by simp [List.length_mergeSort]
          have hpn := push_new s1.objs (.cells (((fs.map fun p => p.1.name).mergeSort leS).map V.str))
          simp only [rowOf, hpn]
          rw [if_pos (by rw [← hl]; exact Nat.le_refl _), hl, List.take_of_length_le (Nat.le_refl _), hsort, e]
    obtain ⟨v, s2, q, h1, h2, h3, h4⟩ := hp
    simp only [k11_a, WK, vop, evAll, evOpt, evParts, vbuiltin, vun, vextract, Nat.reduceLT, Nat.reduceEqDiff, ↓reduceIte, reduceCtorEq, Nat.reduceAdd, Int.reduceLT, Int.reduceNeg, valloc_std, noSB, vhot, List.getD_cons_zero, List.getD_cons_succ, nilEP, ofNilP, eql_optr pTD, pFA r 2 (by omega), pFA r 0 (by omega), lo, lm, Bool.not_true]
    refine KD.ret hk ?_
    simp only [k11_a, WK, vop, evAll, evOpt, evParts, vbuiltin, vun, vextract, Nat.reduceLT, Nat.reduceEqDiff, ↓reduceIte, reduceCtorEq, Nat.reduceAdd, Int.reduceLT, Int.reduceNeg, valloc_std, noSB, vhot]
    refine KD.ret h1 ?_
    simp only [k11_a, WK, vop, evAll, evOpt, evParts, vbuiltin, vun, vextract, Nat.reduceLT, Nat.reduceEqDiff, ↓reduceIte, reduceCtorEq, Nat.reduceAdd, Int.reduceLT, Int.reduceNeg, valloc_std, noSB, vhot]
    exact ⟨v, q, rfl, h2, K1.trans' h3, fun x hx => by have := h4 x hx; omega⟩
/-! ### The small calls -/
theorem room_does {σ : St} {r rm : Nat} {d : Dk} {fs : List Ent} (h : DiskAt σ r d rm fs) (n : Int) : ∃ σ', Does Try.prog prims 25 [.optr r 0, .int .i64 n] σ (.ret (.tuple [])) σ' ∧ Next σ r rm fs σ' { d with room := n } := by
  have key : ∃ p σ', Does Try.prog prims 25 [.optr r 0, .int .i64 n] σ p σ' ∧ (p = .ret (.tuple []) ∧ Next σ r rm fs σ' { d with room := n }) := by
    apply k25_is.does (by simp)
    obtain ⟨s1, hs1⟩ : ∃ s1 : St, s1 = ⟨σ.objs.set r (.cells (dcells rm { d with room := n })), σ.toks⟩ := ⟨_, rfl⟩
    have st1 : vstore Try.prog σ 3 (.optr r 1) (.int .i64 n) = some s1 := by rw [vstore_obj h.hd S3 rfl (by simp [dcells]), hs1]; rfl
    obtain ⟨D1, K1⟩ := h.head (d2 := { d with room := n }) rfl hs1
    simp only [k25_a, WK, vop, evAll, evOpt, evParts, vbuiltin, vun, vextract, Nat.reduceLT, Nat.reduceEqDiff, ↓reduceIte, reduceCtorEq, Nat.reduceAdd, Int.reduceLT, Int.reduceNeg, valloc_std, noSB, vhot, List.getD_cons_zero, List.getD_cons_succ, ofNilP, neq_optr pTD, pFA r 1 (by omega), st1]
    exact ⟨fs, D1, K1, fun x hx => .inl hx⟩
  obtain ⟨p, σ', h1, rfl, h2⟩ := key
  exact ⟨σ', h1, h2⟩
theorem on_does {σ : St} {r rm : Nat} {d : Dk} {fs : List Ent} (h : DiskAt σ r d rm fs) : ∃ σ', Does Try.prog prims 17 [.optr r 0] σ (.ret (.tuple [])) σ' ∧ Next σ r rm fs σ' { d with on := true } := by
  have key : ∃ p σ', Does Try.prog prims 17 [.optr r 0] σ p σ' ∧ (p = .ret (.tuple []) ∧ Next σ r rm fs σ' { d with on := true }) := by
    apply k17_is.does (by simp)
    obtain ⟨s1, hs1⟩ : ∃ s1 : St, s1 = ⟨σ.objs.set r (.cells (dcells rm { d with on := true })), σ.toks⟩ := ⟨_, rfl⟩
    have st1 : vstore Try.prog σ 4 (.optr r 2) (.bool false) = some s1 := by rw [vstore_obj h.hd S4 rfl (by simp [dcells]), hs1]; rfl
    obtain ⟨D1, K1⟩ := h.head (d2 := { d with on := true }) rfl hs1
    simp only [k17_a, WK, vop, evAll, evOpt, evParts, vbuiltin, vun, vextract, Nat.reduceLT, Nat.reduceEqDiff, ↓reduceIte, reduceCtorEq, Nat.reduceAdd, Int.reduceLT, Int.reduceNeg, valloc_std, noSB, vhot, List.getD_cons_zero, List.getD_cons_succ, ofNilP, neq_optr pTD, pFA r 2 (by omega), st1]
    exact ⟨fs, D1, K1, fun x hx => .inl hx⟩
  obtain ⟨p, σ', h1, rfl, h2⟩ := key
  exact ⟨σ', h1, h2⟩
theorem arm_does {σ : St} {r rm : Nat} {d : Dk} {fs : List Ent} (h : DiskAt σ r d rm fs) (n k : Int) : ∃ σ', Does Try.prog prims 24 [.optr r 0, .int .i64 n, .int .i64 k] σ (.ret (.tuple [])) σ' ∧ Next σ r rm fs σ' (armD n k d) := by
  have key : ∃ p σ', Does Try.prog prims 24 [.optr r 0, .int .i64 n, .int .i64 k] σ p σ' ∧ (p = .ret (.tuple []) ∧ Next σ r rm fs σ' (armD n k d)) := by
    apply k24_is.does (by simp)
    have hmx : vmm true (.int .i64 n) (.int .i64 0) = some (.int .i64 (n.toNat : Nat)) := by
      simp only [vmm, ↓reduceIte]
      congr 2
      split <;> omega
    obtain ⟨s1, hs1⟩ : ∃ s1 : St, s1 = ⟨σ.objs.set r (.cells (dcells rm { d with armed := n.toNat })), σ.toks⟩ := ⟨_, rfl⟩
    have st1 : vstore Try.prog σ 3 (.optr r 4) (.int .i64 (n.toNat : Nat)) = some s1 := by rw [vstore_obj h.hd S3 rfl (by simp [dcells]), hs1]; rfl
    obtain ⟨D1, K1⟩ := h.head (d2 := { d with armed := n.toNat }) rfl hs1
    obtain ⟨s2, hs2⟩ : ∃ s2 : St, s2 = ⟨s1.objs.set r (.cells (dcells rm (armD n k d))), s1.toks⟩ := ⟨_, rfl⟩
    have st2 : vstore Try.prog s1 3 (.optr r 5) (.int .i64 k) = some s2 := by rw [vstore_obj D1.hd S3 rfl (by simp [dcells]), hs2]; rfl
    obtain ⟨D2, K2⟩ := D1.head (d2 := armD n k d) rfl hs2
    simp only [k24_a, WK, vop, evAll, evOpt, evParts, vbuiltin, vun, vextract, Nat.reduceLT, Nat.reduceEqDiff, ↓reduceIte, reduceCtorEq, Nat.reduceAdd, Int.reduceLT, Int.reduceNeg, valloc_std, noSB, vhot, List.getD_cons_zero, List.getD_cons_succ, ofNilP, neq_optr pTD, pFA r 4 (by omega), pFA r 5 (by omega), hmx, st1, st2]
    exact ⟨fs, D2, K1.trans' K2, fun x hx => .inl hx⟩
  obtain ⟨p, σ', h1, rfl, h2⟩ := key
  exact ⟨σ', h1, h2⟩
theorem down_does {σ : St} {r rm : Nat} {d : Dk} {fs : List Ent} (h : DiskAt σ r d rm fs) : Does Try.prog prims 16 [.optr r 0] σ (.ret (.bool (!d.on))) σ := by
  apply k16_is.ret (by simp)
  have lo : vload Try.prog σ.objs 4 (.optr r 2) = some (.bool (!d.on)) := by rw [vload_obj h.hd G4]; rfl
  simp only [k16_a, WK, vop, evAll, evOpt, evParts, vbuiltin, vun, vextract, Nat.reduceLT, Nat.reduceEqDiff, ↓reduceIte, reduceCtorEq, Nat.reduceAdd, Int.reduceLT, Int.reduceNeg, valloc_std, noSB, vhot, List.getD_cons_zero, List.getD_cons_succ, ofNilP, neq_optr pTD, pFA r 2 (by omega), lo]
theorem writes_does {σ : St} {r rm : Nat} {d : Dk} {fs : List Ent} (h : DiskAt σ r d rm fs) : Does Try.prog prims 23 [.optr r 0] σ (.ret (.int .i64 (d.writes : Nat))) σ := by
  apply k23_is.ret (by simp)
  have lo : vload Try.prog σ.objs 3 (.optr r 3) = some (.int .i64 (d.writes : Nat)) := by rw [vload_obj h.hd G3]; rfl
  simp only [k23_a, WK, vop, evAll, evOpt, evParts, vbuiltin, vun, vextract, Nat.reduceLT, Nat.reduceEqDiff, ↓reduceIte, reduceCtorEq, Nat.reduceAdd, Int.reduceLT, Int.reduceNeg, valloc_std, noSB, vhot, List.getD_cons_zero, List.getD_cons_succ, ofNilP, eql_optr pTD, pFA r 3 (by omega), lo]
def newD (n : Int) : Dk := ⟨[], n, true, 0, 0, 0⟩
theorem newdisk_does (σ : St) (n : Int) : ∃ σ' r rm, Does Try.prog prims 9 [.int .i64 n] σ (.ret (.optr r 0)) σ' ∧ DiskAt σ' r (newD n) rm [] ∧ KS [] σ σ' ∧ ∀ x ∈ foot r rm [], σ.objs.length ≤ x := by
  have key : ∃ p σ', Does Try.prog prims 9 [.int .i64 n] σ p σ' ∧ ∃ r rm, p = .ret (.optr r 0) ∧ DiskAt σ' r (newD n) rm [] ∧ KS [] σ σ' ∧ ∀ x ∈ foot r rm [], σ.objs.length ≤ x := by
    apply k9_is.does (by simp)
    have hb : ∀ m : Nat, vbuild Try.prog 57 [(0, .omap m), (1, .int .i64 n)] = some (.agg [.omap m, .int .i64 n, .bool false, .int .i64 0, .int .i64 0, .int .i64 0]) := fun m => by kernel_rfl
    simp only [k9_a, WK, vop, evAll, evOpt, evParts, vbuiltin, vun, vextract, Nat.reduceLT, Nat.reduceEqDiff, ↓reduceIte, reduceCtorEq, Nat.reduceAdd, Int.reduceLT, Int.reduceNeg, valloc_std, noSB, vhot, List.getD_cons_zero, List.getD_cons_succ, ofNilP, vmakeMap, hb, vbox, vcells]
    refine ⟨σ.objs.length + 1, σ.objs.length, by simp, ⟨?_, ?_, fun p hp => (by cases hp), by simp [foot], by simp [newD]⟩, (KS.push [] σ (.mp [])).trans' (KS.push [] ⟨σ.objs ++ [.mp []], σ.toks⟩ _), fun x hx => by simp [foot] at hx; omega⟩
    · have := push_new (σ.objs ++ [Ob.mp []]) (.cells (dcells σ.objs.length (newD n)))
      simp only [List.length_append, List.length_cons, List.length_nil, Nat.zero_add] at this
      exact this
    · simp only
      rw [List.getElem?_append_left (by simp)]
      exact push_new _ _
  obtain ⟨p, σ', h1, r, rm, rfl, h2⟩ := key
  exact ⟨σ', r, rm, h1, h2⟩
theorem newD_ok {n : Int} (h : InI64 n) : (newD n).Ok := ⟨by simp [newD], fun f hf => (by cases hf), by simp [newD], fun f hf => (by cases hf), by simp [newD], h, by unfold InI64; simp [newD]⟩
end Go.Proofs.Ytnbmfhnfmhgaaaa.Q

/- The document's disk as it lies in memory. -/
set_option linter.unusedVariables false
set_option linter.unusedSimpArgs false
set_option maxRecDepth 100000
namespace Go.Proofs.Ytnbmfhnfmhgaaaa.Q
open Go Go.RowKit Go.Proofs
theorem TFS : Try.prog.underlying 69 = some (.slice 77) := by kernel_rfl
theorem GFi : isAggT Try.prog 77 = some true := by kernel_rfl
theorem SFi : sizeT Try.prog 77 = some 3 := by kernel_rfl
theorem ZFi : zeroT Try.prog 77 = some (.agg [.str [], .nils, .nils]) := by kernel_rfl
theorem bFi : (Try.prog.info? 77).map (·.bytes) = some 64 := by kernel_rfl
theorem sbN {a b : List UInt8} : strBin .neq a b = some (.bool (!decide (a = b))) := rfl
/-- A file of the document's. -/
structure RE where
  f : Fl
  s : V
  w : V
def RE.cells (x : RE) : List V := [.str x.f.name, x.s, x.w]
def RE.Ok (x : RE) : Prop := BtsV x.s x.f.safe ∧ BtsV x.w x.f.wait
def rcells (rs : List RE) : List V := rs.flatMap RE.cells
theorem RE.cells_len (x : RE) : x.cells.length = 3 := rfl
theorem rcells_len (rs : List RE) : (rcells rs).length = rs.length * 3 := flat_len RE.cells_len rs
theorem RE.one {x : RE} (h : x.Ok) : x.cells.all one = true := by
  simp only [RE.cells, List.all_cons, List.all_nil, h.1.one, h.2.one, Bool.and_true, Bool.and_self]
  rfl
/-- A row of files. -/
def RRow (objs : List Ob) (fv : V) (q : Option Nat) (rs : List RE) : Prop := (fv = .nils ∧ q = none ∧ rs = []) ∨ ∃ ro, fv = .hslice ro 0 3 rs.length ∧ q = some ro ∧ objs[ro]? = some (.cells (rcells rs))
theorem RRow.len {objs : List Ob} {fv : V} {q : Option Nat} {rs : List RE} (h : RRow objs fv q rs) : vlen Try.prog 69 fv = some (.int .i64 (rs.length : Nat)) := by
  rcases h with ⟨rfl, rfl, rfl⟩ | ⟨ro, rfl, _⟩ <;> simp [vlen, TFS]
theorem RRow.keep {σ σ' : St} {fv : V} {q : Option Nat} {rs : List RE} {S : List Nat} (h : RRow σ.objs fv q rs) (hk : KS S σ σ') (hs : ∀ x ∈ q.toList, x ∉ S) : RRow σ'.objs fv q rs := by
  rcases h with h | ⟨ro, h1, h2, h3⟩
  · exact .inl h
  · exact .inr ⟨ro, h1, h2, hk.ko _ _ (hs ro (by simp [h2])) h3⟩
theorem RRow.lt {objs : List Ob} {fv : V} {q : Option Nat} {rs : List RE} (h : RRow objs fv q rs) : ∀ x ∈ q.toList, x < objs.length := by
  rcases h with ⟨_, rfl, _⟩ | ⟨ro, _, rfl, h3⟩
  · intro x hx; cases hx
  · intro x hx; simp at hx; subst hx; exact (List.getElem?_eq_some_iff.1 h3).1
theorem RRow.one {objs : List Ob} {fv : V} {q : Option Nat} {rs : List RE} (h : RRow objs fv q rs) : one fv = true := by
  rcases h with ⟨rfl, _⟩ | ⟨ro, rfl, _⟩ <;> rfl
/-- One of them. -/
theorem RRow.at {objs : List Ob} {fv : V} {q : Option Nat} {rs : List RE} (h : RRow objs fv q rs) {i : Nat} (hi : i < rs.length) : ∃ ro, q = some ro ∧ objs[ro]? = some (.cells (rcells rs)) ∧ vindexAddr Try.prog 69 fv (.int .i64 (i : Int)) = some (.optr ro (i * 3)) ∧ vload Try.prog objs 77 (.optr ro (i * 3)) = some (.agg rs[i].cells) := by
  rcases h with ⟨_, _, rfl⟩ | ⟨ro, rfl, rfl, h3⟩
  · simp at hi
  · have hi' : (i : Int) < rs.length := by omega
    refine ⟨ro, rfl, h3, by simp [vindexAddr, TFS, SFi, hi'], ?_⟩
    rw [vload_sub h3 GFi SFi (by rw [rcells_len]; omega)]
    unfold rcells
    rw [flat_part RE.cells_len hi]
/-- One more. -/
theorem RRow.push {σ : St} {fv : V} {q : Option Nat} {rs : List RE} (h : RRow σ.objs fv q rs) (hok : ∀ x ∈ rs, x.Ok) {x : RE} (hx : x.Ok) (hl : rs.length ≤ 1000000) :
    ∃ y s1 fv' q' s2, vbuildRow Try.prog σ 69 1 [(0, .agg x.cells)] = some (y, s1) ∧ vappendRow Try.prog s1 69 69 fv y = some (fv', s2) ∧ RRow s2.objs fv' q' (rs ++ [x]) ∧ KS q.toList σ s2 ∧ ∀ z ∈ q'.toList, σ.objs.length ≤ z := by
  have hone := RE.one hx
  have hz : vcells (V.agg [.str [], .nils, .nils]) = [.str [], .nils, .nils] := rfl
  have hc : vcells (V.agg x.cells) = x.cells := rfl
  have e3 : List.range 3 = [0, 1, 2] := by decide
  have hb0 : ∀ a b c : V, [a, b, c].all Q.one = true → vbuildRow Try.prog σ 69 1 [(0, .agg [a, b, c])] = some (.hslice σ.objs.length 0 3 1, ⟨σ.objs ++ [.cells [a, b, c]], σ.toks⟩) := by
    intro a b c h
    have hc : vcells (V.agg [a, b, c]) = [a, b, c] := rfl
    simp only [List.all_cons, List.all_nil, Bool.and_true, Bool.and_eq_true] at h
    simp [vbuildRow, TFS, SFi, ZFi, hz, zeroCellsV, vfill, e3, hc, setAll, h.1, h.2.1, h.2.2]
  have hb : vbuildRow Try.prog σ 69 1 [(0, .agg x.cells)] = some (.hslice σ.objs.length 0 3 1, ⟨σ.objs ++ [.cells x.cells], σ.toks⟩) := hb0 _ _ _ hone
  obtain ⟨s1, hs1⟩ : ∃ s1 : St, s1 = ⟨σ.objs ++ [.cells x.cells], σ.toks⟩ := ⟨_, rfl⟩
  rw [← hs1] at hb
  have K1 : KS [] σ s1 := by rw [hs1]; exact KS.push _ _ _
  have h1 : RRow s1.objs fv q rs := h.keep K1 fun x _ => by simp
  have hy : s1.objs[σ.objs.length]? = some (.cells x.cells) := by rw [hs1]; exact push_new _ _
  have L1 : s1.objs.length = σ.objs.length + 1 := by rw [hs1]; simp
  have hn : vnewsO Try.prog s1.objs 69 (.hslice σ.objs.length 0 3 1) 3 = some (x.cells, 1) := by
    have : List.take 3 x.cells = x.cells := by simp [RE.cells]
    simp [vnewsO, vnews, TFS, hy, RE.cells_len, this]
  have hxl : x.cells.length = 3 := rfl
  rcases h1 with ⟨rfl, rfl, rfl⟩ | ⟨ro, rfl, rfl, h3⟩
  · refine ⟨_, s1, .hslice s1.objs.length 0 3 1, some s1.objs.length, ⟨s1.objs ++ [.cells x.cells], s1.toks⟩, hb, ?_, .inr ⟨_, rfl, rfl, ?_⟩, K1.trans (KS.push [] s1 _) fun x hx => .inl hx, fun z hz => ?_⟩
    · simp [vappendRow, TFS, bFi, SFi, ZFi, hz, hn]
    · have := push_new s1.objs (.cells x.cells)
      simp only [List.nil_append, rcells, List.flatMap_cons, List.flatMap_nil, List.append_nil]
      exact this
    · simp at hz; omega
  · refine ⟨_, s1, .hslice s1.objs.length 0 3 (rs.length + 1), some s1.objs.length, ⟨s1.objs.set ro .dead ++ [.cells (rcells rs ++ x.cells)], s1.toks⟩, hb, ?_, .inr ⟨_, by simp, rfl, ?_⟩, ?_, fun z hz => ?_⟩
    · have h4 : List.take (rs.length * 3) (rcells rs) = rcells rs := List.take_of_length_le (by rw [rcells_len]; omega)
      have h5 : rs.length + 1 ≤ 140737488355328 := by omega
      have h6 : (rs.length + 1) * 64 ≤ 140737488355328 := by omega
      have h7 := rcells_len rs
      simp [vappendRow, TFS, bFi, SFi, ZFi, hz, hn, h3, h4, h5, h6, h7, hone]
    · have := push_new (s1.objs.set ro .dead) (.cells (rcells rs ++ x.cells))
      rw [List.length_set] at this
      simp only [rcells, List.flatMap_append, List.flatMap_cons, List.flatMap_nil, List.append_nil] at this ⊢
      exact this
    · refine (K1.mono fun x hx => by cases hx).trans' ⟨fun p o hp ho => ?_, by simp, Nat.le_refl _, fun _ h => h⟩
      have hpl := (List.getElem?_eq_some_iff.1 ho).1
      simp only
      rw [List.getElem?_append_left (by rw [List.length_set]; exact hpl), List.getElem?_set_ne (fun e => hp (by simp [e]))]
      exact ho
    · simp at hz; omega
structure RefAt (σ : St) (r : Nat) (d : Dk) (q : Option Nat) (rs : List RE) : Prop where
  hd : ∃ fv, σ.objs[r]? = some (.cells [fv, .int .i64 d.room, .bool d.on, .int .i64 (d.writes : Nat), .int .i64 (d.armed : Nat), .int .i64 d.keep]) ∧ RRow σ.objs fv q rs
  ok : ∀ x ∈ rs, x.Ok
  fl : rs.map RE.f = d.files
  ne : r ∉ q.toList
theorem RefAt.keep {σ σ' : St} {r : Nat} {d : Dk} {q : Option Nat} {rs : List RE} {S : List Nat} (h : RefAt σ r d q rs) (hk : KS S σ σ') (hs : ∀ x ∈ r :: q.toList, x ∉ S) : RefAt σ' r d q rs := by
  obtain ⟨⟨fv, h1, h2⟩, h3, h4, h5⟩ := h
  exact ⟨⟨fv, hk.ko _ _ (hs r (by simp)) h1, h2.keep hk fun x hx => hs x (List.mem_cons_of_mem _ hx)⟩, h3, h4, h5⟩
theorem RefAt.lt {σ : St} {r : Nat} {d : Dk} {q : Option Nat} {rs : List RE} (h : RefAt σ r d q rs) : ∀ x ∈ r :: q.toList, x < σ.objs.length := by
  obtain ⟨⟨fv, h1, h2⟩, _⟩ := h
  intro x hx
  rcases List.mem_cons.1 hx with rfl | hx
  · exact (List.getElem?_eq_some_iff.1 h1).1
  · exact h2.lt x hx
/-- What the document's disk is behind a call. -/
def RNext (σ : St) (r : Nat) (q : Option Nat) (σ' : St) (d' : Dk) : Prop := ∃ q' rs', RefAt σ' r d' q' rs' ∧ KS (r :: q.toList) σ σ' ∧ ∀ x ∈ r :: q'.toList, x ∈ r :: q.toList ∨ σ.objs.length ≤ x
theorem RNext.refl {σ : St} {r : Nat} {d : Dk} {q : Option Nat} {rs : List RE} (h : RefAt σ r d q rs) : RNext σ r q σ d := ⟨q, rs, h, KS.refl _ _, fun x hx => .inl hx⟩
theorem RNext.trans {σ σ1 σ2 : St} {r : Nat} {d : Dk} {q q1 : Option Nat} (hk : KS (r :: q.toList) σ σ1) (hs : ∀ x ∈ r :: q1.toList, x ∈ r :: q.toList ∨ σ.objs.length ≤ x) (h : RNext σ1 r q1 σ2 d) : RNext σ r q σ2 d := by
  obtain ⟨q', rs', h1, h2, h3⟩ := h
  refine ⟨q', rs', h1, hk.trans h2 hs, fun x hx => ?_⟩
  have := hk.le
  rcases h3 x hx with h | h
  · exact hs x h
  · exact .inr (by omega)
/-- Pushes only. -/
theorem RNext.only {σ σ1 : St} {r : Nat} {d : Dk} {q : Option Nat} {rs : List RE} (h : RefAt σ r d q rs) (hk : KS [] σ σ1) : RNext σ r q σ1 d := ⟨q, rs, h.keep hk fun x _ => by simp, hk.mono (fun x hx => by cases hx), fun x hx => .inl hx⟩
/-- Only its head changes. -/
theorem RefAt.head {σ : St} {r : Nat} {d d2 : Dk} {q : Option Nat} {rs : List RE} (h : RefAt σ r d q rs) (hf : d2.files = d.files) {fv : V} (hv : RRow σ.objs fv q rs) {σ' : St} (hs : σ' = ⟨σ.objs.set r (.cells [fv, .int .i64 d2.room, .bool d2.on, .int .i64 (d2.writes : Nat), .int .i64 (d2.armed : Nat), .int .i64 d2.keep]), σ.toks⟩) : RefAt σ' r d2 q rs ∧ KS (r :: q.toList) σ σ' := by
  have hrl := h.lt r (by simp)
  have hne := h.ne
  have K : KS [r] σ σ' := by rw [hs]; exact KS.set (.inl (by simp)) _
  refine ⟨⟨⟨fv, by rw [hs]; simp only; rw [List.getElem?_set_self hrl], hv.keep K fun x hx hx2 => ?_⟩, h.ok, by rw [hf]; exact h.fl, h.ne⟩, K.mono fun x hx => .inl (by rw [List.mem_singleton] at hx; subst hx; simp)⟩
  rw [List.mem_singleton] at hx2
  subst hx2
  exact hne hx
end Go.Proofs.Ytnbmfhnfmhgaaaa.Q

/- The document's disk: its small functions. -/
set_option linter.unusedVariables false
set_option linter.unusedSimpArgs false
set_option maxRecDepth 100000
namespace Go.Proofs.Ytnbmfhnfmhgaaaa.Q
open Go Go.RowKit Go.Proofs
end Go.Proofs.Ytnbmfhnfmhgaaaa.Q

/- The document's disk: put, drop, Off. -/
set_option linter.unusedVariables false
set_option linter.unusedSimpArgs false
set_option maxRecDepth 100000
namespace Go.Proofs.Ytnbmfhnfmhgaaaa.Q
open Go Go.RowKit Go.Proofs
/-- The loop of put, plainly. -/
def putI (x : Fl) (pre : List RE) : List RE := pre.filter fun g => decide (g.f.name < x.name)
def putJ (x : Fl) (pre : List RE) : List RE := pre.filter fun g => decide (x.name < g.f.name)
end Go.Proofs.Ytnbmfhnfmhgaaaa.Q

/- The document's disk: drop, Off. -/
set_option linter.unusedVariables false
set_option linter.unusedSimpArgs false
set_option maxRecDepth 100000
namespace Go.Proofs.Ytnbmfhnfmhgaaaa.Q
open Go Go.RowKit Go.Proofs
/-- A file of the row changes. -/
theorem RRow.set {σ : St} {fv : V} {q : Option Nat} {rs : List RE} (h : RRow σ.objs fv q rs) {i : Nat} (hi : i < rs.length) {y : RE} (hy : y.Ok) : ∃ ro σ', q = some ro ∧ vindexAddr Try.prog 69 fv (.int .i64 (i : Int)) = some (.optr ro (i * 3)) ∧ vstore Try.prog σ 77 (.optr ro (i * 3)) (.agg y.cells) = some σ' ∧ RRow σ'.objs fv q (rs.set i y) ∧ KS q.toList σ σ' ∧ σ'.objs.length = σ.objs.length := by
  obtain ⟨ro, hq, ho, ha, hl⟩ := h.at hi
  have hle : i * 3 + 3 ≤ rs.length * 3 := by omega
  have hc : vcells (.agg y.cells) = y.cells := rfl
  have hflat : ∀ (l : List RE) (i : Nat), i < l.length → setAll (rcells l) (i * 3) y.cells = rcells (l.set i y) := by
    intro l
    induction l with
    | nil => intro i hi; simp at hi
    | cons a l ih =>
      intro i hi
      cases i with
      | zero => simp [rcells, RE.cells, setAll]
      | succ i =>
        have h1 := ih i (by simpa using hi)
        rw [setAll_take _ _ _ (by rw [rcells_len, RE.cells_len]; simp at hi; omega)] at h1
        rw [setAll_take _ _ _ (by rw [rcells_len, RE.cells_len]; simp at hi ⊢; omega)]
        have e1 : (i + 1) * 3 = 3 + i * 3 := by omega
        have e2 : rcells (a :: l) = a.cells ++ rcells l := rfl
        have e3 : a.cells.length = 3 := rfl
        have t1 : (a.cells ++ rcells l).take (3 + i * 3) = a.cells ++ (rcells l).take (i * 3) := by rw [← e3, List.take_length_add_append]
        have t2 : (a.cells ++ rcells l).drop (3 + i * 3 + y.cells.length) = (rcells l).drop (i * 3 + y.cells.length) := by
          rw [show 3 + i * 3 + y.cells.length = a.cells.length + (i * 3 + y.cells.length) by rw [e3]; omega, List.drop_length_add_append]
        rw [e1, e2, t1, t2, List.set_cons_succ]
        show _ = a.cells ++ rcells (l.set i y)
        rw [← h1]
        simp [List.append_assoc]
  refine ⟨ro, ⟨σ.objs.set ro (.cells (rcells (rs.set i y))), σ.toks⟩, hq, ha, ?_, ?_, KS.set (.inl (by simp [hq])) _, by simp⟩
  · simp only [vstore, ho, hc, RE.one hy, SFi, RE.cells_len, rcells_len]
    rw [if_pos ⟨trivial, by omega, trivial⟩, hflat rs i hi]
  · rcases h with ⟨_, _, rfl⟩ | ⟨ro', e1, e2, e3⟩
    · simp at hi
    · rw [hq] at e2
      injection e2 with e2
      subst e2
      exact .inr ⟨ro, by rw [List.length_set]; exact e1, hq, obj_set ho⟩
end Go.Proofs.Ytnbmfhnfmhgaaaa.Q

/- The document's disk: its calls. -/
set_option linter.unusedVariables false
set_option linter.unusedSimpArgs false
set_option maxRecDepth 100000
namespace Go.Proofs.Ytnbmfhnfmhgaaaa.Q
open Go Go.RowKit Go.Proofs
theorem RefAt.get_no {σ : St} {r : Nat} {d : Dk} {q : Option Nat} {rs : List RE} (h : RefAt σ r d q rs) {n : List UInt8} (hn : ∀ x ∈ rs, x.f.name ≠ n) : getF d.files n = none := by
  rw [← h.fl]
  unfold getF
  rw [List.find?_eq_none]
  intro f hf
  obtain ⟨x, hx, rfl⟩ := List.mem_map.1 hf
  simp [hn x hx]
theorem RefAt.get_yes {σ : St} {r : Nat} {d : Dk} {q : Option Nat} {rs : List RE} (h : RefAt σ r d q rs) (hok : d.Ok) {n : List UInt8} {i : Nat} (hi : i < rs.length) (hn : rs[i].f.name = n) : getF d.files n = some rs[i].f := by
  rw [← hn]
  exact getF_mem hok.nodup (by rw [← h.fl]; exact List.mem_map_of_mem (List.getElem_mem hi))
theorem RefAt.few {σ : St} {r : Nat} {d : Dk} {q : Option Nat} {rs : List RE} (h : RefAt σ r d q rs) (hok : d.Ok) : rs.length ≤ 16 ∧ rs.length = d.files.length := by
  have h1 := congrArg List.length h.fl
  have h2 := hok.few
  rw [List.length_map] at h1
  omega
end Go.Proofs.Ytnbmfhnfmhgaaaa.Q

/- The document's disk: Sync, Truncate, Rename, Remove, Read, Arm, Names. -/
set_option linter.unusedVariables false
set_option linter.unusedSimpArgs false
set_option maxRecDepth 100000
namespace Go.Proofs.Ytnbmfhnfmhgaaaa.Q
open Go Go.RowKit Go.Proofs
theorem putF_set {l : List Fl} {x : Fl} {i : Nat} (hr : l.Pairwise fun f g => f.name < g.name) (hi : i < l.length) (hn : l[i].name = x.name) : l.set i x = putF x l := by
  have hl : l = l.take i ++ l[i] :: l.drop (i + 1) := by rw [← List.drop_eq_getElem_cons hi, List.take_append_drop]
  have hset : l.set i x = l.take i ++ x :: l.drop (i + 1) := by rw [List.set_eq_take_append_cons_drop, if_pos hi]
  have hA : ∀ f ∈ l.take i, f.name < x.name := by
    intro f hf
    obtain ⟨j, hj, rfl⟩ := List.mem_iff_getElem.1 hf
    rw [List.length_take] at hj
    rw [List.getElem_take, ← hn]
    exact List.pairwise_iff_getElem.1 hr j i (by omega) hi (by omega)
  have hB : ∀ f ∈ l.drop (i + 1), x.name < f.name := by
    intro f hf
    obtain ⟨j, hj, rfl⟩ := List.mem_iff_getElem.1 hf
    rw [List.length_drop] at hj
    rw [List.getElem_drop, ← hn]
    exact List.pairwise_iff_getElem.1 hr i (i + 1 + j) hi (by omega) (by omega)
  have a1 : (l.take i).filter (fun f => decide (f.name < x.name)) = l.take i := List.filter_eq_self.2 fun f hf => by simpa using hA f hf
  have a2 : (l.drop (i + 1)).filter (fun f => decide (f.name < x.name)) = [] := List.filter_eq_nil_iff.2 fun f hf h => lt_irrefl' _ (lt_trans' (hB f hf) (by simpa using h))
  have a3 : (l.take i).filter (fun f => decide (x.name < f.name)) = [] := List.filter_eq_nil_iff.2 fun f hf h => lt_irrefl' _ (lt_trans' (hA f hf) (by simpa using h))
  have a4 : (l.drop (i + 1)).filter (fun f => decide (x.name < f.name)) = l.drop (i + 1) := List.filter_eq_self.2 fun f hf => by simpa using hB f hf
  have n1 : ¬ l[i].name < x.name := by rw [hn]; exact lt_irrefl' _
  have n2 : ¬ x.name < l[i].name := by rw [hn]; exact lt_irrefl' _
  have h1 : l.filter (fun f => decide (f.name < x.name)) = l.take i := by
    have : l.filter (fun f => decide (f.name < x.name)) = (l.take i ++ l[i] :: l.drop (i + 1)).filter (fun f => decide (f.name < x.name)) := by rw [← hl]
    rw [this, List.filter_append, List.filter_cons, a1, a2, decide_eq_false n1]
    simp
  have h2 : l.filter (fun f => decide (x.name < f.name)) = l.drop (i + 1) := by
    have : l.filter (fun f => decide (x.name < f.name)) = (l.take i ++ l[i] :: l.drop (i + 1)).filter (fun f => decide (x.name < f.name)) := by rw [← hl]
    rw [this, List.filter_append, List.filter_cons, a3, a4, decide_eq_false n2]
    simp
  rw [hset, putF, h1, h2]
/-- A file of the row is put anew. -/
theorem RefAt.set {σ : St} {r : Nat} {d : Dk} {q : Option Nat} {rs : List RE} (h : RefAt σ r d q rs) (hok : d.Ok) {i : Nat} (hi : i < rs.length) {y : RE} (hy : y.Ok) (hn : rs[i].f.name = y.f.name) {fv : V} (hR : RRow σ.objs fv q rs) :
    ∃ ro σ', vindexAddr Try.prog 69 fv (.int .i64 (i : Int)) = some (.optr ro (i * 3)) ∧ vstore Try.prog σ 77 (.optr ro (i * 3)) (.agg y.cells) = some σ' ∧ (∀ fv2, σ.objs[r]? = some (.cells [fv2, .int .i64 d.room, .bool d.on, .int .i64 (d.writes : Nat), .int .i64 (d.armed : Nat), .int .i64 d.keep]) → fv2 = fv → RNext σ r q σ' { d with files := putF y.f d.files }) := by
  obtain ⟨ro, σ', hq, ha, hs, hR2, K2, L2⟩ := hR.set hi hy
  refine ⟨ro, σ', ha, hs, fun fv2 o e => ?_⟩
  subst e
  refine ⟨q, rs.set i y, ⟨⟨fv2, K2.ko _ _ h.ne o, hR2⟩, fun x hx => ?_, ?_, h.ne⟩, K2.mono fun x hx => .inl (List.mem_cons_of_mem _ hx), fun x hx => .inl hx⟩
  · rcases List.mem_or_eq_of_mem_set hx with h1 | h1
    · exact h.ok x h1
    · subst h1; exact hy
  · simp only
    rw [List.map_set, h.fl]
    have hl : i < d.files.length := by rw [← h.fl, List.length_map]; exact hi
    refine putF_set hok.rise hl ?_
    have : d.files[i] = rs[i].f := by simp [← h.fl]
    rw [this, hn]
end Go.Proofs.Ytnbmfhnfmhgaaaa.Q

/- The document's disk: Truncate, Remove, Rename, Read, Arm, Names. -/
set_option linter.unusedVariables false
set_option linter.unusedSimpArgs false
set_option maxRecDepth 100000
namespace Go.Proofs.Ytnbmfhnfmhgaaaa.Q
open Go Go.RowKit Go.Proofs
end Go.Proofs.Ytnbmfhnfmhgaaaa.Q

/- The document's disk: Remove, Rename, Read, Arm, Names. -/
set_option linter.unusedVariables false
set_option linter.unusedSimpArgs false
set_option maxRecDepth 100000
namespace Go.Proofs.Ytnbmfhnfmhgaaaa.Q
open Go Go.RowKit Go.Proofs
end Go.Proofs.Ytnbmfhnfmhgaaaa.Q

/- Rows, written or not. -/
set_option linter.unusedVariables false
set_option linter.unusedSimpArgs false
set_option maxRecDepth 100000
namespace Go.Proofs.Ytnbmfhnfmhgaaaa.Q
open Go Go.RowKit Go.Proofs
/-- w is a row of n elements of k cells each; it may be a part of an object. -/
def RowS (σ : St) (k : Nat) (w : V) (cs : List V) (n : Nat) : Prop := RowV k w cs n ∨ (cs.length = n * k ∧ ∃ r off c, w = .hslice r off k n ∧ σ.objs[r]? = some (.cells c) ∧ off + n * k ≤ c.length ∧ (c.drop off).take (n * k) = cs)
section
variable {σ : St} {k n : Nat} {w : V} {cs : List V}
theorem RowS.keep {σ' : St} (h : RowS σ k w cs n) (hk : Keep σ σ') : RowS σ' k w cs n := by
  rcases h with h | ⟨h0, r, off, c, h1, h2, h3⟩
  · exact .inl h
  · exact .inr ⟨h0, r, off, c, h1, hk.1 _ _ h2, h3⟩
theorem RowS.size (h : RowS σ k w cs n) : cs.length = n * k := by
  rcases h with h | ⟨h0, _⟩
  · exact h.1
  · exact h0
theorem RowS.one (h : RowS σ k w cs n) : one w = true := by
  rcases h with h | ⟨h0, r, off, c, rfl, _⟩
  · exact h.one
  · rfl
theorem RowS.len (h : RowS σ k w cs n) {t e : TypeId} (ht : Try.prog.underlying t = some (.slice e)) : vlen Try.prog t w = some (.int .i64 (n : Nat)) := by
  rcases h with h | ⟨h0, r, off, c, rfl, _⟩
  · exact h.len ht
  · simp [vlen, ht]
/-- The place of an element: what may be read there. -/
def At (σ : St) (p : V) (c : List V) : Prop := (∃ cs o, p = .eptr cs o ∧ o + c.length ≤ cs.length ∧ (cs.drop o).take c.length = c) ∨ ∃ r o cs, p = .optr r o ∧ σ.objs[r]? = some (.cells cs) ∧ o + c.length ≤ cs.length ∧ (cs.drop o).take c.length = c
theorem RowS.at (h : RowS σ k w cs n) {t e : TypeId} (ht : Try.prog.underlying t = some (.slice e)) (hs : sizeT Try.prog e = some k) (hk : 0 < k) {i : Nat} (hi : i < n) {kk : IntKind} :
    ∃ p, vindexAddr Try.prog t w (.int kk (i : Int)) = some p ∧ At σ p ((cs.drop (i * k)).take k) := by
  have hsz := h.size
  have hle : i * k + k ≤ n * k := by
    have : (i + 1) * k ≤ n * k := Nat.mul_le_mul_right k hi
    rwa [Nat.add_mul, Nat.one_mul] at this
  have hpl : ((cs.drop (i * k)).take k).length = k := by rw [List.length_take, List.length_drop]; omega
  rcases h with h | ⟨h0, r, off, c, rfl, h2, h3, h4⟩
  · refine ⟨_, RowV.addr h ht hs hk (kk := kk) (i := (i : Int)) (by omega) (by omega), .inl ⟨cs, i * k, by rw [Int.toNat_natCast], by rw [hpl]; omega, by rw [hpl]⟩⟩
  · have hi' : (i : Int) < n := by omega
    refine ⟨.optr r (off + i * k), by simp [vindexAddr, ht, hs, hi'], .inr ⟨r, _, c, rfl, h2, by rw [hpl]; omega, ?_⟩⟩
    rw [hpl, ← h4, List.drop_take, List.drop_drop, List.take_take]
    congr 1
    omega
theorem At.keep {σ' : St} {p : V} {c : List V} (h : At σ p c) (hk : Keep σ σ') : At σ' p c := by
  rcases h with h | ⟨r, o, cs, h1, h2, h3⟩
  · exact .inl h
  · exact .inr ⟨r, o, cs, h1, hk.1 _ _ h2, h3⟩
theorem At.load {p : V} {c : List V} (h : At σ p c) {e : TypeId} (ha : isAggT Try.prog e = some true) (hs : sizeT Try.prog e = some c.length) : vload Try.prog σ.objs e p = some (.agg c) := by
  rcases h with ⟨cs, o, rfl, h1, h2⟩ | ⟨r, o, cs, rfl, hr, h1, h2⟩
  · simp only [vload, vcellsAt, vpart, ha, hs, if_pos h1, h2]
  · simp only [vload, vcellsAt, hr, vpart, ha, hs, if_pos h1, h2]
theorem At.load1 {p : V} {v : V} (h : At σ p [v]) {e : TypeId} (ha : isAggT Try.prog e = some false) : vload Try.prog σ.objs e p = some v := by
  have key : ∀ (cs : List V) (o : Nat), o + 1 ≤ cs.length → (cs.drop o).take 1 = [v] → cs[o]? = some v := by
    intro cs o h1 h2
    have := congrArg (·[0]?) h2
    simpa using this
  rcases h with ⟨cs, o, rfl, h1, h2⟩ | ⟨r, o, cs, rfl, hr, h1, h2⟩
  · simp only [vload, vcellsAt, vpart, ha]; exact key cs o h1 h2
  · simp only [vload, vcellsAt, hr, vpart, ha]; exact key cs o h1 h2
/-- A cell of what lies there. -/
theorem At.part {p : V} {c : List V} (h : At σ p c) {j m : Nat} (hj : j + m ≤ c.length) : ∃ p', (∀ (e : TypeId) (f : Nat), (∀ q o, vfieldAddr Try.prog e (.optr q o) f = some (.optr q (o + j))) → (∀ cs o, vfieldAddr Try.prog e (.eptr cs o) f = some (.eptr cs (o + j))) → vfieldAddr Try.prog e p f = some p') ∧ At σ p' ((c.drop j).take m) := by
  have hpl : ((c.drop j).take m).length = m := by rw [List.length_take, List.length_drop]; omega
  have cut : ∀ (cs : List V) (o : Nat), o + c.length ≤ cs.length → (cs.drop o).take c.length = c → (cs.drop (o + j)).take m = (c.drop j).take m := by
    intro cs o h1 h2
    have h3 : c.drop j = ((cs.drop o).take c.length).drop j := by rw [h2]
    rw [h3, List.drop_take, List.drop_drop, List.take_take]
    congr 1
    omega
  rcases h with ⟨cs, o, rfl, h1, h2⟩ | ⟨r, o, cs, rfl, hr, h1, h2⟩
  · exact ⟨.eptr cs (o + j), fun e f _ h => h cs o, .inl ⟨cs, o + j, rfl, by rw [hpl]; omega, by rw [hpl]; exact cut cs o h1 h2⟩⟩
  · exact ⟨.optr r (o + j), fun e f h _ => h r o, .inr ⟨r, o + j, cs, rfl, hr, by rw [hpl]; omega, by rw [hpl]; exact cut cs o h1 h2⟩⟩
end
end Go.Proofs.Ytnbmfhnfmhgaaaa.Q

/- A step of a disk, plainly. -/
set_option linter.unusedVariables false
set_option linter.unusedSimpArgs false
set_option maxRecDepth 100000
namespace Go.Proofs.Ytnbmfhnfmhgaaaa.Q
open Go Go.RowKit Go.Proofs
structure Opn where
  kind : Int
  f : List UInt8
  g : List UInt8
  n : Int
  k : Int
  bv : V
  b : List UInt8
def Opn.cells (o : Opn) : List V := [.int .i64 o.kind, .str o.f, .str o.g, .int .i64 o.n, .int .i64 o.k, o.bv]
structure Opn.Ok (o : Opn) : Prop where
  b : BtsV o.bv o.b
  bl : o.b.length ≤ 1000000000
  n : InI64 o.n
  k : InI64 o.k
/-- The bytes read, what went wrong, and the disk behind it. -/
def stepD (o : Opn) (d : Dk) : (List UInt8 × Nat) × Dk :=
  if o.kind = 0 then (([], (appendD o.f o.b d).1), (appendD o.f o.b d).2) else
  if o.kind = 1 then (([], (syncD o.f d).1), (syncD o.f d).2) else
  if o.kind = 2 then (([], (truncD o.f o.n d).1), (truncD o.f o.n d).2) else
  if o.kind = 3 then (([], (renameD o.f o.g d).1), (renameD o.f o.g d).2) else
  if o.kind = 4 then (([], (removeD o.f d).1), (removeD o.f d).2) else
  if o.kind = 5 then (((readD o.f d).2, (readD o.f d).1), d) else
  if o.kind = 6 then (([], 0), { d with room := o.n }) else
  if o.kind = 7 then (([], 0), armD o.n o.k d) else
  if o.kind = 8 then (([], 0), offD o.k d) else
  if o.kind = 9 then (([], 0), { d with on := true }) else (([], 0), d)
theorem off_writes (k : Int) (d : Dk) : (offD k d).writes = d.writes := by unfold offD; split <;> rfl
theorem goes_ok {d : Dk} (h : d.Ok) (k : Int) : (offD k (rawD d).2).Ok := h.raw.off k
theorem append_ok {n b : List UInt8} {d : Dk} (h : d.Ok) : (appendD n b d).2.Ok ∧ (appendD n b d).2.writes ≤ d.writes + 1 := by
  unfold appendD
  split
  · exact ⟨h, by simp⟩
  · rename_i hr
    have hr0 : readyD d n = 0 := Classical.byContradiction hr
    have hn := (readyD_named hr0).1
    simp only
    split
    · exact ⟨h, by simp⟩
    · rename_i hl
      split
      · exact ⟨h, by simp⟩
      · rename_i hf
        have ok2 : ({ d with files := putF ⟨n, ((getF d.files n).getD ⟨n, [], []⟩).safe, ((getF d.files n).getD ⟨n, [], []⟩).wait ++ b⟩ d.files } : Dk).Ok := by
          refine h.put hn ?_ fun hno => ?_
          · simp only [Fl.len, List.length_append] at hl ⊢; omega
          · have : ¬ 16 ≤ d.files.length := fun h1 => hf (.inl ⟨hno, h1⟩)
            omega
        have rf := raw_files { d with files := putF ⟨n, ((getF d.files n).getD ⟨n, [], []⟩).safe, ((getF d.files n).getD ⟨n, [], []⟩).wait ++ b⟩ d.files }
        split
        · exact ⟨goes_ok ok2 _, by rw [off_writes, rf.2.2.2.2]; simp⟩
        · exact ⟨ok2.raw, by rw [rf.2.2.2.2]; simp⟩
theorem put_same {d : Dk} (h : d.Ok) {n : List UInt8} (ht : thereD d n = 0) {s w : List UInt8} (hl : s.length + w.length ≤ 1048576) : ({ (rawD d).2 with files := putF ⟨n, s, w⟩ d.files } : Dk).Ok := by
  obtain ⟨hr, f, hg⟩ := thereD_zero ht
  have h1 : ({ (rawD d).2 with files := putF ⟨n, s, w⟩ (rawD d).2.files } : Dk).Ok := h.raw.put (readyD_named hr).1 (by simp only [Fl.len]; omega) fun hno => by
    rw [(raw_files d).1, hg] at hno; cases hno
  rw [(raw_files d).1] at h1
  exact h1
theorem raw_w (d : Dk) : (rawD d).2.writes = d.writes + 1 := (raw_files d).2.2.2.2
theorem sync_ok {n : List UInt8} {d : Dk} (h : d.Ok) : (syncD n d).2.Ok ∧ (syncD n d).2.writes ≤ d.writes + 1 := by
  unfold syncD
  split
  · exact ⟨h, by simp⟩
  · rename_i ht
    have ht0 : thereD d n = 0 := Classical.byContradiction ht
    obtain ⟨hr, f, hg⟩ := thereD_zero ht0
    have hl := (h.get hg).2.2.2
    split
    · exact ⟨goes_ok h _, by rw [off_writes, raw_w]; simp⟩
    · simp only [hg, Option.getD_some]
      exact ⟨put_same h ht0 (by simpa [Fl.len] using hl), by rw [raw_w]; simp⟩
theorem trunc_ok {n : List UInt8} {k : Int} {d : Dk} (h : d.Ok) : (truncD n k d).2.Ok ∧ (truncD n k d).2.writes ≤ d.writes + 1 := by
  unfold truncD
  split
  · exact ⟨h, by simp⟩
  · rename_i ht
    have ht0 : thereD d n = 0 := Classical.byContradiction ht
    obtain ⟨hr, f, hg⟩ := thereD_zero ht0
    have hl := (h.get hg).2.2.2
    simp only [hg, Option.getD_some]
    split
    · exact ⟨h, by simp⟩
    · split
      · exact ⟨goes_ok h _, by rw [off_writes, raw_w]; simp⟩
      · refine ⟨put_same h ht0 ?_, by rw [raw_w]; simp⟩
        simp only [Fl.len, List.length_take] at hl ⊢; omega
theorem rename_ok {n m : List UInt8} {d : Dk} (h : d.Ok) : (renameD n m d).2.Ok ∧ (renameD n m d).2.writes ≤ d.writes + 1 := by
  unfold renameD
  split
  · exact ⟨h, by simp⟩
  · rename_i hnm
    split
    · exact ⟨h, by simp⟩
    · rename_i ht
      have ht0 : thereD d n = 0 := Classical.byContradiction ht
      obtain ⟨hr, f, hg⟩ := thereD_zero ht0
      have hl := (h.get hg).2.2.2
      split
      · exact ⟨goes_ok h _, by rw [off_writes, raw_w]; simp⟩
      · simp only [hg, Option.getD_some]
        have hm : namedD m = true := by
          cases hm : namedD m with
          | true => rfl
          | false => exact absurd (.inr hm) hnm
        have ok1 : ({ (rawD d).2 with files := dropF n d.files } : Dk).Ok := by
          have := h.raw.drop n
          rw [(raw_files d).1] at this
          exact this
        have hlen : (dropF n d.files).length < 16 := by
          have hf := h.few
          have hmem := (getF_some hg)
          have : (dropF n d.files).length < d.files.length := by
            unfold dropF
            exact List.length_filter_lt_length_iff_exists.2 ⟨f, hmem.1, by simp [hmem.2]⟩
          omega
        exact ⟨ok1.put hm (by simpa [Fl.len] using hl) fun _ => hlen, by rw [raw_w]; simp⟩
theorem remove_ok {n : List UInt8} {d : Dk} (h : d.Ok) : (removeD n d).2.Ok ∧ (removeD n d).2.writes ≤ d.writes + 1 := by
  unfold removeD
  split
  · exact ⟨h, by simp⟩
  · split
    · exact ⟨goes_ok h _, by rw [off_writes, raw_w]; simp⟩
    · have := h.raw.drop n
      rw [(raw_files d).1] at this
      exact ⟨this, by rw [raw_w]; simp⟩
theorem step_ok {o : Opn} {d : Dk} (h : d.Ok) (ho : o.Ok) : (stepD o d).2.Ok ∧ (stepD o d).2.writes ≤ d.writes + 1 := by
  have hn := ho.n
  have hk := ho.k
  unfold InI64 at hn
  unfold stepD
  repeat' split
  · exact append_ok h
  · exact sync_ok h
  · exact trunc_ok h
  · exact rename_ok h
  · exact remove_ok h
  · exact ⟨h, by simp⟩
  · exact ⟨h.head rfl h.arm ho.n h.kp, by simp⟩
  · exact ⟨h.head rfl (by simp only [armD]; omega) h.rm hk, by simp [armD]⟩
  · exact ⟨h.off _, by simp only [off_writes]; omega⟩
  · exact ⟨h.head rfl h.arm h.rm h.kp, by simp⟩
  · exact ⟨h, by simp⟩
end Go.Proofs.Ytnbmfhnfmhgaaaa.Q

/- The law's helpers: does, says. -/
set_option linter.unusedVariables false
set_option linter.unusedSimpArgs false
set_option maxRecDepth 100000
namespace Go.Proofs.Ytnbmfhnfmhgaaaa.Q
open Go Go.RowKit Go.Proofs
theorem oFA0 (r : Nat) : vfieldAddr Try.prog 46 (.optr r 0) 0 = some (.optr r 0) := by kernel_rfl
theorem oFA1 (r : Nat) : vfieldAddr Try.prog 46 (.optr r 0) 1 = some (.optr r 1) := by kernel_rfl
theorem oFA2 (r : Nat) : vfieldAddr Try.prog 46 (.optr r 0) 2 = some (.optr r 2) := by kernel_rfl
theorem oFA3 (r : Nat) : vfieldAddr Try.prog 46 (.optr r 0) 3 = some (.optr r 3) := by kernel_rfl
theorem oFA4 (r : Nat) : vfieldAddr Try.prog 46 (.optr r 0) 4 = some (.optr r 4) := by kernel_rfl
theorem oFA5 (r : Nat) : vfieldAddr Try.prog 46 (.optr r 0) 5 = some (.optr r 5) := by kernel_rfl
theorem OpAt {σ : St} {q : Nat} {o : Opn} (h : σ.objs[q]? = some (.cells o.cells)) :
    vload Try.prog σ.objs 3 (.optr q 0) = some (.int .i64 o.kind) ∧ vload Try.prog σ.objs 9 (.optr q 1) = some (.str o.f) ∧ vload Try.prog σ.objs 9 (.optr q 2) = some (.str o.g) ∧ vload Try.prog σ.objs 3 (.optr q 3) = some (.int .i64 o.n) ∧ vload Try.prog σ.objs 3 (.optr q 4) = some (.int .i64 o.k) ∧ vload Try.prog σ.objs 28 (.optr q 5) = some o.bv := by
  refine ⟨?_, ?_, ?_, ?_, ?_, ?_⟩
  · rw [vload_obj h G3]; rfl
  · rw [vload_obj h G9]; rfl
  · rw [vload_obj h G9]; rfl
  · rw [vload_obj h G3]; rfl
  · rw [vload_obj h G3]; rfl
  · rw [vload_obj h pGB]; rfl
theorem does_sees {σ : St} {r rm : Nat} {d : Dk} {fs : List Ent} {o : Opn} (h : DiskAt σ r d rm fs) (hok : d.Ok) (ho : o.Ok) (hw : d.writes < 4611686018427387904) :
    ∃ p σ', Does Try.prog prims 20 [.optr r 0, .agg o.cells] σ p σ' ∧ ∃ v q, p = .ret (.tuple [v, .int .i64 ((stepD o d).1.2 : Nat)]) ∧ rowOf σ'.objs v = some (q, (stepD o d).1.1.map byteV) ∧ Next σ r rm fs σ' (stepD o d).2 ∧ ∀ x ∈ q.toList, σ.objs.length ≤ x := by
  apply k20_is.does (by simp)
  obtain ⟨s, hs⟩ : ∃ s : St, s = ⟨σ.objs ++ [.cells o.cells], σ.toks⟩ := ⟨_, rfl⟩
  have hc : vcells (.agg o.cells) = o.cells := rfl
  have K0 : KS (foot r rm fs) σ s := by rw [hs]; exact KS.push _ _ _
  have H0 : DiskAt s r d rm fs := by rw [hs]; exact h.pushed _
  have ob : s.objs[σ.objs.length]? = some (.cells o.cells) := by rw [hs]; exact push_new _ _
  have L0 : s.objs.length = σ.objs.length + 1 := by rw [hs]; simp
  obtain ⟨l0, l1, l2, l3, l4, l5⟩ := OpAt ob
  have toσ : ∀ (u : St) (d' : Dk), Next s r rm fs u d' → Next σ r rm fs u d' := fun u d' hN => Next.trans K0 (fun x hx => .inl hx) hN
  have nn : ∀ (u : St), rowOf u.objs .nils = some (none, ([] : List UInt8).map byteV) := fun u => rfl
  simp only [k20_a, WK, vop, evAll, evOpt, evParts, vbuiltin, vun, vextract, Nat.reduceLT, Nat.reduceEqDiff, ↓reduceIte, reduceCtorEq, Nat.reduceAdd, Int.reduceLT, Int.reduceNeg, valloc_std, noSB, vhot, List.getD_cons_zero, List.getD_cons_succ, nilEP, vbox, hc, ← hs, oFA0, oFA1, oFA2, oFA3, oFA4, oFA5, l0]
  by_cases k0 : o.kind = 0
  · obtain ⟨p, σ', h1, rfl, h2⟩ := append_sees (n := o.f) H0 hok hw (.inl ho.b : RB s o.bv o.b) ho.bl
    have e : stepD o d = (([], (appendD o.f o.b d).1), (appendD o.f o.b d).2) := by unfold stepD; rw [if_pos k0]
    simp only [k20_a, WK, vop, evAll, evOpt, evParts, vbuiltin, vun, vextract, Nat.reduceLT, Nat.reduceEqDiff, ↓reduceIte, reduceCtorEq, Nat.reduceAdd, Int.reduceLT, Int.reduceNeg, valloc_std, noSB, vhot, k0, eq_self, decide_true, oFA1, oFA5, l1, l5]
    refine KD.ret h1 ?_
    simp only [k20_a, WK, vop, evAll, evOpt, evParts, vbuiltin, vun, vextract, Nat.reduceLT, Nat.reduceEqDiff, ↓reduceIte, reduceCtorEq, Nat.reduceAdd, Int.reduceLT, Int.reduceNeg, valloc_std, noSB, vhot, e, nilEP]
    exact ⟨.nils, none, rfl, rfl, toσ _ _ h2, fun x hx => by cases hx⟩
  by_cases k1 : o.kind = 1
  · obtain ⟨p, σ', h1, rfl, h2⟩ := sync_sees (n := o.f) H0 hok hw
    have e : stepD o d = (([], (syncD o.f d).1), (syncD o.f d).2) := by unfold stepD; rw [if_neg k0, if_pos k1]
    have z : ¬ (1 : Int) = 0 := by decide
    simp only [k20_a, WK, vop, evAll, evOpt, evParts, vbuiltin, vun, vextract, Nat.reduceLT, Nat.reduceEqDiff, ↓reduceIte, reduceCtorEq, Nat.reduceAdd, Int.reduceLT, Int.reduceNeg, valloc_std, noSB, vhot, k1, z, eq_self, decide_true, decide_false, oFA1, l1]
    refine KD.ret h1 ?_
    simp only [k20_a, WK, vop, evAll, evOpt, evParts, vbuiltin, vun, vextract, Nat.reduceLT, Nat.reduceEqDiff, ↓reduceIte, reduceCtorEq, Nat.reduceAdd, Int.reduceLT, Int.reduceNeg, valloc_std, noSB, vhot, e, nilEP]
    exact ⟨.nils, none, rfl, rfl, toσ _ _ h2, fun x hx => by cases hx⟩
  by_cases k2 : o.kind = 2
  · obtain ⟨p, σ', h1, rfl, h2⟩ := trunc_sees (n := o.f) (k := o.n) H0 hok hw
    have e : stepD o d = (([], (truncD o.f o.n d).1), (truncD o.f o.n d).2) := by unfold stepD; rw [if_neg k0, if_neg k1, if_pos k2]
    simp only [k20_a, WK, vop, evAll, evOpt, evParts, vbuiltin, vun, vextract, Nat.reduceLT, Nat.reduceEqDiff, ↓reduceIte, reduceCtorEq, Nat.reduceAdd, Int.reduceLT, Int.reduceNeg, valloc_std, noSB, vhot, k0, k1, k2, (by decide : ¬ (2 : Int) = 0), (by decide : ¬ (2 : Int) = 1), eq_self, decide_true, decide_false, oFA1, oFA3, l1, l3]
    refine KD.ret h1 ?_
    simp only [k20_a, WK, vop, evAll, evOpt, evParts, vbuiltin, vun, vextract, Nat.reduceLT, Nat.reduceEqDiff, ↓reduceIte, reduceCtorEq, Nat.reduceAdd, Int.reduceLT, Int.reduceNeg, valloc_std, noSB, vhot, e, nilEP]
    exact ⟨.nils, none, rfl, rfl, toσ _ _ h2, fun x hx => by cases hx⟩
  by_cases k3 : o.kind = 3
  · obtain ⟨p, σ', h1, rfl, h2⟩ := rename_sees (n := o.f) (m := o.g) H0 hok hw
    have e : stepD o d = (([], (renameD o.f o.g d).1), (renameD o.f o.g d).2) := by unfold stepD; rw [if_neg k0, if_neg k1, if_neg k2, if_pos k3]
    simp only [k20_a, WK, vop, evAll, evOpt, evParts, vbuiltin, vun, vextract, Nat.reduceLT, Nat.reduceEqDiff, ↓reduceIte, reduceCtorEq, Nat.reduceAdd, Int.reduceLT, Int.reduceNeg, valloc_std, noSB, vhot, k3, (by decide : ¬ (3 : Int) = 0), (by decide : ¬ (3 : Int) = 1), (by decide : ¬ (3 : Int) = 2), eq_self, decide_true, decide_false, oFA1, oFA2, l1, l2]
    refine KD.ret h1 ?_
    simp only [k20_a, WK, vop, evAll, evOpt, evParts, vbuiltin, vun, vextract, Nat.reduceLT, Nat.reduceEqDiff, ↓reduceIte, reduceCtorEq, Nat.reduceAdd, Int.reduceLT, Int.reduceNeg, valloc_std, noSB, vhot, e, nilEP]
    exact ⟨.nils, none, rfl, rfl, toσ _ _ h2, fun x hx => by cases hx⟩
  by_cases k4 : o.kind = 4
  · obtain ⟨p, σ', h1, rfl, h2⟩ := remove_sees (n := o.f) H0 hok hw
    have e : stepD o d = (([], (removeD o.f d).1), (removeD o.f d).2) := by unfold stepD; rw [if_neg k0, if_neg k1, if_neg k2, if_neg k3, if_pos k4]
    simp only [k20_a, WK, vop, evAll, evOpt, evParts, vbuiltin, vun, vextract, Nat.reduceLT, Nat.reduceEqDiff, ↓reduceIte, reduceCtorEq, Nat.reduceAdd, Int.reduceLT, Int.reduceNeg, valloc_std, noSB, vhot, k4, (by decide : ¬ (4 : Int) = 0), (by decide : ¬ (4 : Int) = 1), (by decide : ¬ (4 : Int) = 2), (by decide : ¬ (4 : Int) = 3), eq_self, decide_true, decide_false, oFA1, oFA2, l1, l2]
    refine KD.ret h1 ?_
    simp only [k20_a, WK, vop, evAll, evOpt, evParts, vbuiltin, vun, vextract, Nat.reduceLT, Nat.reduceEqDiff, ↓reduceIte, reduceCtorEq, Nat.reduceAdd, Int.reduceLT, Int.reduceNeg, valloc_std, noSB, vhot, e, nilEP]
    exact ⟨.nils, none, rfl, rfl, toσ _ _ h2, fun x hx => by cases hx⟩
  by_cases k5 : o.kind = 5
  · obtain ⟨p, σ', h1, v, q, rfl, h2, h3, h4⟩ := read_sees (n := o.f) H0 hok
    have e : stepD o d = (((readD o.f d).2, (readD o.f d).1), d) := by unfold stepD; rw [if_neg k0, if_neg k1, if_neg k2, if_neg k3, if_neg k4, if_pos k5]
    simp only [k20_a, WK, vop, evAll, evOpt, evParts, vbuiltin, vun, vextract, Nat.reduceLT, Nat.reduceEqDiff, ↓reduceIte, reduceCtorEq, Nat.reduceAdd, Int.reduceLT, Int.reduceNeg, valloc_std, noSB, vhot, k5, (by decide : ¬ (5 : Int) = 0), (by decide : ¬ (5 : Int) = 1), (by decide : ¬ (5 : Int) = 2), (by decide : ¬ (5 : Int) = 3), (by decide : ¬ (5 : Int) = 4), eq_self, decide_true, decide_false, oFA1, oFA2, l1, l2]
    refine KD.ret h1 ?_
    simp only [k20_a, WK, vop, evAll, evOpt, evParts, vbuiltin, vun, vextract, Nat.reduceLT, Nat.reduceEqDiff, ↓reduceIte, reduceCtorEq, Nat.reduceAdd, Int.reduceLT, Int.reduceNeg, valloc_std, noSB, vhot, e, nilEP]
    exact ⟨v, q, rfl, h2, toσ _ _ ⟨fs, H0.keep h3 fun x _ => by simp, h3.mono (fun x hx => by cases hx), fun x hx => .inl hx⟩, fun x hx => by have := h4 x hx; omega⟩
  by_cases k6 : o.kind = 6
  · obtain ⟨σ', h1, h2⟩ := room_does H0 o.n
    have e : stepD o d = (([], 0), { d with room := o.n }) := by unfold stepD; rw [if_neg k0, if_neg k1, if_neg k2, if_neg k3, if_neg k4, if_neg k5, if_pos k6]
    simp only [k20_a, WK, vop, evAll, evOpt, evParts, vbuiltin, vun, vextract, Nat.reduceLT, Nat.reduceEqDiff, ↓reduceIte, reduceCtorEq, Nat.reduceAdd, Int.reduceLT, Int.reduceNeg, valloc_std, noSB, vhot, k6, (by decide : ¬ (6 : Int) = 0), (by decide : ¬ (6 : Int) = 1), (by decide : ¬ (6 : Int) = 2), (by decide : ¬ (6 : Int) = 3), (by decide : ¬ (6 : Int) = 4), (by decide : ¬ (6 : Int) = 5), eq_self, decide_true, decide_false, oFA3, l3]
    refine KD.ret h1 ?_
    simp only [k20_a, WK, vop, evAll, evOpt, evParts, vbuiltin, vun, vextract, Nat.reduceLT, Nat.reduceEqDiff, ↓reduceIte, reduceCtorEq, Nat.reduceAdd, Int.reduceLT, Int.reduceNeg, valloc_std, noSB, vhot, e, nilEP]
    exact ⟨.nils, none, rfl, rfl, toσ _ _ h2, fun x hx => by cases hx⟩
  by_cases k7 : o.kind = 7
  · obtain ⟨σ', h1, h2⟩ := arm_does H0 o.n o.k
    have e : stepD o d = (([], 0), armD o.n o.k d) := by unfold stepD; rw [if_neg k0, if_neg k1, if_neg k2, if_neg k3, if_neg k4, if_neg k5, if_neg k6, if_pos k7]
    simp only [k20_a, WK, vop, evAll, evOpt, evParts, vbuiltin, vun, vextract, Nat.reduceLT, Nat.reduceEqDiff, ↓reduceIte, reduceCtorEq, Nat.reduceAdd, Int.reduceLT, Int.reduceNeg, valloc_std, noSB, vhot, k7, (by decide : ¬ (7 : Int) = 0), (by decide : ¬ (7 : Int) = 1), (by decide : ¬ (7 : Int) = 2), (by decide : ¬ (7 : Int) = 3), (by decide : ¬ (7 : Int) = 4), (by decide : ¬ (7 : Int) = 5), (by decide : ¬ (7 : Int) = 6), eq_self, decide_true, decide_false, oFA3, oFA4, l3, l4]
    refine KD.ret h1 ?_
    simp only [k20_a, WK, vop, evAll, evOpt, evParts, vbuiltin, vun, vextract, Nat.reduceLT, Nat.reduceEqDiff, ↓reduceIte, reduceCtorEq, Nat.reduceAdd, Int.reduceLT, Int.reduceNeg, valloc_std, noSB, vhot, e, nilEP]
    exact ⟨.nils, none, rfl, rfl, toσ _ _ h2, fun x hx => by cases hx⟩
  by_cases k8 : o.kind = 8
  · obtain ⟨σ', fs', h1, h2⟩ := off_does H0 hok o.k
    have e : stepD o d = (([], 0), offD o.k d) := by unfold stepD; rw [if_neg k0, if_neg k1, if_neg k2, if_neg k3, if_neg k4, if_neg k5, if_neg k6, if_neg k7, if_pos k8]
    simp only [k20_a, WK, vop, evAll, evOpt, evParts, vbuiltin, vun, vextract, Nat.reduceLT, Nat.reduceEqDiff, ↓reduceIte, reduceCtorEq, Nat.reduceAdd, Int.reduceLT, Int.reduceNeg, valloc_std, noSB, vhot, k8, (by decide : ¬ (8 : Int) = 0), (by decide : ¬ (8 : Int) = 1), (by decide : ¬ (8 : Int) = 2), (by decide : ¬ (8 : Int) = 3), (by decide : ¬ (8 : Int) = 4), (by decide : ¬ (8 : Int) = 5), (by decide : ¬ (8 : Int) = 6), (by decide : ¬ (8 : Int) = 7), eq_self, decide_true, decide_false, oFA3, oFA4, l3, l4]
    refine KD.ret h1 ?_
    simp only [k20_a, WK, vop, evAll, evOpt, evParts, vbuiltin, vun, vextract, Nat.reduceLT, Nat.reduceEqDiff, ↓reduceIte, reduceCtorEq, Nat.reduceAdd, Int.reduceLT, Int.reduceNeg, valloc_std, noSB, vhot, e, nilEP]
    exact ⟨.nils, none, rfl, rfl, toσ _ _ ⟨fs', h2⟩, fun x hx => by cases hx⟩
  by_cases k9 : o.kind = 9
  · obtain ⟨σ', h1, h2⟩ := on_does H0
    have e : stepD o d = (([], 0), { d with on := true }) := by unfold stepD; rw [if_neg k0, if_neg k1, if_neg k2, if_neg k3, if_neg k4, if_neg k5, if_neg k6, if_neg k7, if_neg k8, if_pos k9]
    simp only [k20_a, WK, vop, evAll, evOpt, evParts, vbuiltin, vun, vextract, Nat.reduceLT, Nat.reduceEqDiff, ↓reduceIte, reduceCtorEq, Nat.reduceAdd, Int.reduceLT, Int.reduceNeg, valloc_std, noSB, vhot, k9, (by decide : ¬ (9 : Int) = 0), (by decide : ¬ (9 : Int) = 1), (by decide : ¬ (9 : Int) = 2), (by decide : ¬ (9 : Int) = 3), (by decide : ¬ (9 : Int) = 4), (by decide : ¬ (9 : Int) = 5), (by decide : ¬ (9 : Int) = 6), (by decide : ¬ (9 : Int) = 7), (by decide : ¬ (9 : Int) = 8), eq_self, decide_true, decide_false]
    refine KD.ret h1 ?_
    simp only [k20_a, WK, vop, evAll, evOpt, evParts, vbuiltin, vun, vextract, Nat.reduceLT, Nat.reduceEqDiff, ↓reduceIte, reduceCtorEq, Nat.reduceAdd, Int.reduceLT, Int.reduceNeg, valloc_std, noSB, vhot, e, nilEP]
    exact ⟨.nils, none, rfl, rfl, toσ _ _ h2, fun x hx => by cases hx⟩
  · have e : stepD o d = (([], 0), d) := by unfold stepD; rw [if_neg k0, if_neg k1, if_neg k2, if_neg k3, if_neg k4, if_neg k5, if_neg k6, if_neg k7, if_neg k8, if_neg k9]
    simp only [k20_a, WK, vop, evAll, evOpt, evParts, vbuiltin, vun, vextract, Nat.reduceLT, Nat.reduceEqDiff, ↓reduceIte, reduceCtorEq, Nat.reduceAdd, Int.reduceLT, Int.reduceNeg, valloc_std, noSB, vhot, k0, k1, k2, k3, k4, k5, k6, k7, k8, k9, decide_false, e, nilEP]
    exact ⟨.nils, none, rfl, rfl, toσ _ _ (Next.refl H0), fun x hx => by cases hx⟩
end Go.Proofs.Ytnbmfhnfmhgaaaa.Q

/- The law's helpers: says. -/
set_option linter.unusedVariables false
set_option linter.unusedSimpArgs false
set_option maxRecDepth 100000
namespace Go.Proofs.Ytnbmfhnfmhgaaaa.Q
open Go Go.RowKit Go.Proofs
end Go.Proofs.Ytnbmfhnfmhgaaaa.Q

/- The law's helpers: Names of the document's, same, long, alike. -/
set_option linter.unusedVariables false
set_option linter.unusedSimpArgs false
set_option maxRecDepth 100000
namespace Go.Proofs.Ytnbmfhnfmhgaaaa.Q
open Go Go.RowKit Go.Proofs
theorem TSS : Try.prog.underlying 31 = some (.slice 9) := by kernel_rfl
theorem SS9 : sizeT Try.prog 9 = some 1 := by kernel_rfl
theorem same3_does {v w : V} {xs bs : List UInt8} {σ : St} (hv : RB σ v xs) (hw : RB σ w bs) (hla : xs.length ≤ 140737488355328) : Does Try.prog prims 14 [v, w] σ (.ret (.bool (decide (xs = bs)))) σ := by
  apply k14_is.ret (by simp)
  by_cases hlen : xs.length = bs.length
  · have hne : decide ((xs.length : Int) = bs.length) = true := by simp [hlen]
    simp only [k14_a, WK, vop, evAll, evOpt, evParts, vbuiltin, vun, vextract, Nat.reduceLT, Nat.reduceEqDiff, ↓reduceIte, reduceCtorEq, Nat.reduceAdd, Int.reduceLT, Int.reduceNeg, valloc_std, noSB, vhot, List.getD_cons_zero, List.getD_cons_succ, hv.len, hw.len, hne]
    refine Ev.loopF (fun i e σ' => σ' = σ ∧ e 13 = .int .i64 (i : Nat) ∧ i ≤ xs.length ∧ xs.take i = bs.take i) (fun i => xs.length - i) 0 ⟨rfl, by simp [upd_some], by simp, by simp⟩ ?_
    rintro i e σ' ⟨rfl, h13, hi, htk⟩ hf
    have h0 : e 0 = v := (hf 0 (by decide)).trans (by simp [upd_some])
    have h1 : e 1 = w := (hf 1 (by decide)).trans (by simp [upd_some])
    have h12 : e 12 = .int .i64 xs.length := (hf 12 (by decide)).trans (by simp [upd_some])
    by_cases hlt : i < xs.length
    · have hlt' : (i : Int) < xs.length := by omega
      have hltb : i < bs.length := by omega
      have hwi : IntKind.i64.wrap ((i : Int) + 1) = ((i + 1 : Nat) : Int) := by rw [show ((i : Int) + 1) = ((i + 1 : Nat) : Int) from by omega]; exact wrap_nat (by omega)
      obtain ⟨p, hp, hlp⟩ := hv.at hlt
      obtain ⟨q, hq, hlq⟩ := hw.at hltb
      by_cases he : xs[i] = bs[i]
      · have hd : decide (((xs[i].toNat : Nat) : Int) = bs[i].toNat) = true := by simp [he]
        simp only [k14_a, WK, vop, evAll, evOpt, evParts, vbuiltin, vun, vextract, Nat.reduceLT, Nat.reduceEqDiff, ↓reduceIte, reduceCtorEq, Nat.reduceAdd, Int.reduceLT, Int.reduceNeg, valloc_std, noSB, vhot, h0, h1, h12, h13, hlt', hp, hq, hlp, hlq, hd, hwi]
        refine ⟨i + 1, ⟨rfl, hlt, ?_⟩, by omega⟩
        rw [List.take_succ_eq_append_getElem hlt, List.take_succ_eq_append_getElem hltb, htk, he]
      · have hd : decide (((xs[i].toNat : Nat) : Int) = bs[i].toNat) = false := by
          simp only [decide_eq_false_iff_not]
          intro h
          exact he (UInt8.toNat_inj.1 (by omega))
        simp only [k14_a, WK, vop, evAll, evOpt, evParts, vbuiltin, vun, vextract, Nat.reduceLT, Nat.reduceEqDiff, ↓reduceIte, reduceCtorEq, Nat.reduceAdd, Int.reduceLT, Int.reduceNeg, valloc_std, noSB, vhot, h0, h1, h12, h13, hlt', hp, hq, hlp, hlq, hd, hwi]
        have : xs ≠ bs := by rintro rfl; exact he rfl
        simp [this]
    · have hlt' : ¬ (i : Int) < xs.length := by omega
      simp only [k14_a, WK, vop, evAll, evOpt, evParts, vbuiltin, vun, vextract, Nat.reduceLT, Nat.reduceEqDiff, ↓reduceIte, reduceCtorEq, Nat.reduceAdd, Int.reduceLT, Int.reduceNeg, valloc_std, noSB, vhot, h0, h1, h12, h13, hlt']
      have : xs = bs := by
        rw [List.take_of_length_le (by omega), List.take_of_length_le (by omega)] at htk
        exact htk
      simp [this]
  · have hne : decide ((xs.length : Int) = bs.length) = false := by simp; omega
    simp only [k14_a, WK, vop, evAll, evOpt, evParts, vbuiltin, vun, vextract, Nat.reduceLT, Nat.reduceEqDiff, ↓reduceIte, reduceCtorEq, Nat.reduceAdd, Int.reduceLT, Int.reduceNeg, valloc_std, noSB, vhot, List.getD_cons_zero, List.getD_cons_succ, hv.len, hw.len, hne]
    have : xs ≠ bs := by rintro rfl; exact hlen rfl
    simp [this]
/-- A row of words, written or not. -/
theorem row_strs {σ : St} {v : V} {q : Option Nat} {l : List (List UInt8)} (h : rowOf σ.objs v = some (q, l.map V.str)) : RowS σ 1 v (l.map V.str) l.length := by
  rcases rowOf_spec h with ⟨rfl, rfl, h0⟩ | ⟨r, full, rfl, rfl, hr, hl, hc⟩
  · refine .inl ⟨by simp, .inl ⟨rfl, ?_⟩⟩
    have := congrArg List.length h0
    simpa using this
  · simp only [List.length_map] at hl hc ⊢
    exact .inr ⟨by simp, r, 0, full, rfl, hr, by omega, by rw [List.drop_zero, Nat.mul_one]; exact hc.symm⟩
theorem RowS.strAt {σ : St} {v : V} {l : List (List UInt8)} (h : RowS σ 1 v (l.map V.str) l.length) {i : Nat} (hi : i < l.length) : ∃ p, vindexAddr Try.prog 31 v (.int .i64 (i : Int)) = some p ∧ ∀ σ', KS [] σ σ' → vload Try.prog σ'.objs 9 p = some (.str l[i]) := by
  obtain ⟨p, h1, h2⟩ := h.at TSS SS9 (by omega) (i := i) (by simpa using hi) (kk := .i64)
  refine ⟨p, h1, fun σ' hk => ?_⟩
  have e : ((l.map V.str).drop (i * 1)).take 1 = [V.str l[i]] := by
    rw [Nat.mul_one, List.drop_eq_getElem_cons (by simpa using hi)]
    simp
  rw [e] at h2
  exact (h2.keep hk.keep).load1 G9
end Go.Proofs.Ytnbmfhnfmhgaaaa.Q

/- The law's helpers: alike, long. -/
set_option linter.unusedVariables false
set_option linter.unusedSimpArgs false
set_option maxRecDepth 100000
namespace Go.Proofs.Ytnbmfhnfmhgaaaa.Q
open Go Go.RowKit Go.Proofs
theorem KS.nils {S : List Nat} {σ σ' : St} (h : KS [] σ σ') : KS S σ σ' := h.mono fun x hx => by cases hx
theorem DiskAt.pushes {σ σ' : St} {r rm : Nat} {d : Dk} {fs : List Ent} (h : DiskAt σ r d rm fs) (hk : KS [] σ σ') : DiskAt σ' r d rm fs := h.keep hk fun x _ => by simp
theorem RefAt.pushes {σ σ' : St} {r : Nat} {d : Dk} {q : Option Nat} {rs : List RE} (h : RefAt σ r d q rs) (hk : KS [] σ σ') : RefAt σ' r d q rs := h.keep hk fun x _ => by simp
theorem readD_len {d : Dk} (hok : d.Ok) (n : List UInt8) : (readD n d).2.length ≤ 1048576 := by
  unfold readD
  split
  · simp
  · rename_i ht
    have ht0 : thereD d n = 0 := Classical.byContradiction ht
    obtain ⟨hr, f, hg⟩ := thereD_zero ht0
    have := (hok.get hg).2.2.2
    simp only [hg, Option.getD_some, List.length_append, Fl.len] at this ⊢
    exact this
theorem namesD_len {d : Dk} (hok : d.Ok) : (namesD d).length ≤ 16 := by
  have := hok.few
  unfold namesD
  split <;> simp
  omega
end Go.Proofs.Ytnbmfhnfmhgaaaa.Q

/- Operations as arguments; long. -/
set_option linter.unusedVariables false
set_option linter.unusedSimpArgs false
set_option maxRecDepth 100000
namespace Go.Proofs.Ytnbmfhnfmhgaaaa.Q
open Go Go.RowKit Go.Proofs
theorem FOOp : fieldsOf Try.prog 46 = [(3, 0), (9, 1), (9, 2), (3, 3), (3, 4), (28, 5)] := by kernel_rfl
theorem COi : Try.prog.cellsOf 3 = 1 := by kernel_rfl
theorem COs : Try.prog.cellsOf 9 = 1 := by kernel_rfl
theorem COb : Try.prog.cellsOf 28 = 1 := by kernel_rfl
theorem COo : Try.prog.cellsOf 46 = 6 := by kernel_rfl
theorem TOs : Try.prog.underlying 41 = some (.slice 46) := by kernel_rfl
theorem SOp : sizeT Try.prog 46 = some 6 := by kernel_rfl
theorem GOp : isAggT Try.prog 46 = some true := by kernel_rfl
theorem ZOp : zeroT Try.prog 46 = some (.agg [.int .i64 0, .str [], .str [], .int .i64 0, .int .i64 0, .nils]) := by kernel_rfl
theorem Opn.cells_len (o : Opn) : o.cells.length = 6 := rfl
theorem one_of' {cs : List V} {i : Nat} {v : V} (h : (cs.drop i).take 1 = [v]) : cs[i]? = some v := by
  have : ((cs.drop i).take 1)[0]? = some v := by rw [h]; rfl
  simpa using this
theorem bts_VT {k : Nat} {cs : List V} (h : VT Try.prog k 28 cs) : ∃ w bs, cs = [w] ∧ BtsV w bs := by
  obtain ⟨k', hc⟩ := VT_slice T22 h
  rcases hc with rfl | ⟨vs, len, rfl, h1, h2, h3⟩
  · exact ⟨.nils, [], rfl, .inl ⟨rfl, rfl⟩⟩
  · rw [C5] at h1 h3
    obtain ⟨l, rfl, hl, _⟩ := rows_of (f := fun b : UInt8 => [byteV b]) (R := fun _ => True) len vs h1 fun i hi => by
      obtain ⟨n, e, hw⟩ := VT_int T5 (h3 i hi)
      exact ⟨_, by rw [e, byteV_of hw], trivial⟩
    subst hl
    have e : l.flatMap (fun b : UInt8 => [byteV b]) = l.map byteV := by rw [List.map_eq_flatMap]
    refine ⟨_, l, rfl, .inr ⟨.ro, ?_⟩⟩
    rw [C5, e]
theorem op_VT {k : Nat} {cs : List V} (h : VT Try.prog k 46 cs) : ∃ o : Opn, cs = o.cells ∧ BtsV o.bv o.b ∧ InI64 o.n ∧ InI64 o.k := by
  obtain ⟨k', hl, hf⟩ := VT_struct FOOp h
  rw [COo] at hl
  simp only [List.mem_cons, List.not_mem_nil, or_false, forall_eq_or_imp, forall_eq, COi, COs, COb] at hf
  obtain ⟨f0, f1, f2, f3, f4, f5⟩ := hf
  obtain ⟨a, h0, w0⟩ := VT_int T3 f0
  obtain ⟨s, h1, w1⟩ := VT_str T9 f1
  obtain ⟨t, h2, w2⟩ := VT_str T9 f2
  obtain ⟨n, h3, w3⟩ := VT_int T3 f3
  obtain ⟨m, h4, w4⟩ := VT_int T3 f4
  obtain ⟨w, bs, h5, hb⟩ := bts_VT f5
  refine ⟨⟨a, s, t, n, m, w, bs⟩, ?_, hb, InI64_of w3, InI64_of w4⟩
  have h0 := one_of' h0
  have h1 := one_of' h1
  have h2 := one_of' h2
  have h3 := one_of' h3
  have h4 := one_of' h4
  have h5 := one_of' h5
  match cs, hl with
  | [x0, x1, x2, x3, x4, x5], _ =>
    simp at h0 h1 h2 h3 h4 h5
    simp [Opn.cells, h0, h1, h2, h3, h4, h5]
def OpsV (w : V) (l : List Opn) : Prop := RowV 6 w (l.flatMap Opn.cells) l.length
theorem bts_bulk {v : V} {bs : List UInt8} (h : BtsV v bs) : bs.length ≤ vbulk v := by
  rcases h with ⟨rfl, rfl⟩ | ⟨p, rfl⟩
  · simp
  · have := vbulks_len (bs.map byteV)
    simp only [vbulk, List.length_map] at this ⊢
    omega
theorem ops_arg {x : V} (h : ArgT Try.prog 41 x) (hb : vbulk x ≤ 2000000) : ∃ l, OpsV x l ∧ (∀ o ∈ l, o.Ok) ∧ l.length ≤ vbulk x := by
  obtain ⟨k, hv⟩ : ∃ k, VT Try.prog k 41 [x] := by
    unfold ArgT at h
    rw [TOs] at h
    exact h
  obtain ⟨k', hc⟩ := VT_slice TOs hv
  rcases hc with hc | ⟨vs, len, hc, h1, h2, h3⟩
  · injection hc with hc
    subst hc
    exact ⟨[], ⟨rfl, .inl ⟨rfl, rfl⟩⟩, fun o ho => (by cases ho), by simp⟩
  · injection hc with hc
    subst hc
    rw [COo] at h1 h3 ⊢
    obtain ⟨l, rfl, hl, hR⟩ := rows_of (f := Opn.cells) (R := fun o : Opn => BtsV o.bv o.b ∧ InI64 o.n ∧ InI64 o.k) len vs h1 fun i hi => by
      obtain ⟨o, e, ho⟩ := op_VT (h3 i hi)
      exact ⟨o, e, ho⟩
    subst hl
    have hbl := bulk_len Opn.cells_len (by omega) l
    refine ⟨l, ⟨flat_len Opn.cells_len l, .inr ⟨.ro, rfl⟩⟩, fun o ho => ?_, ?_⟩
    · obtain ⟨b1, b2, b3⟩ := hR o ho
      have h4 := bulk_mem (f := Opn.cells) ho
      have h5 := bts_bulk b1
      simp only [Opn.cells, vbulks] at h4
      rw [COo] at hb
      simp only [vbulk] at hb
      exact ⟨b1, by omega, b2, b3⟩
    · simp only [vbulk]; omega
theorem OpsV.len {v : V} {l : List Opn} (h : OpsV v l) : vlen Try.prog 41 v = some (.int .i64 l.length) := RowV.len h TOs
theorem OpsV.addr {v : V} {l : List Opn} (h : OpsV v l) {i : Nat} (hi : i < l.length) : vindexAddr Try.prog 41 v (.int .i64 i) = some (.eptr (l.flatMap Opn.cells) (i * 6)) := by
  have := RowV.addr h TOs SOp (by omega) (kk := .i64) (i := i) (by omega) (by omega)
  rwa [Int.toNat_natCast] at this
theorem OpsV.load {l : List Opn} {i : Nat} (hi : i < l.length) {objs : List Ob} : vload Try.prog objs 46 (.eptr (l.flatMap Opn.cells) (i * 6)) = some (.agg l[i].cells) := load_part Opn.cells_len hi GOp SOp
theorem Opn.one {o : Opn} (h : BtsV o.bv o.b) : o.cells.all Q.one = true := by
  simp only [Opn.cells, List.all_cons, List.all_nil, h.one, Bool.and_true]
  rfl
theorem opNew {σ : St} {o : Opn} (h : BtsV o.bv o.b) : vstore Try.prog ⟨σ.objs ++ [.cells [.int .i64 0, .str [], .str [], .int .i64 0, .int .i64 0, .nils]], σ.toks⟩ 46 (.optr σ.objs.length 0) (.agg o.cells) = some ⟨σ.objs ++ [.cells o.cells], σ.toks⟩ := by
  rw [vstore_agg (cs := [.int .i64 0, .str [], .str [], .int .i64 0, .int .i64 0, .nils]) (cs' := o.cells) (push_new _ _) (by rw [SOp]; rfl) rfl (Opn.one h)]
  simp
/-- Whether there is too much of it. -/
theorem long_sees {σ : St} {w : V} {l : List Opn} (hw : OpsV w l) (ho : ∀ o ∈ l, o.Ok) (hl : l.length ≤ 2000000) :
    ∃ p σ', Does Try.prog prims 18 [w] σ p σ' ∧ ∃ b, p = .ret (.bool b) ∧ KS [] σ σ' ∧ (b = false → l.length ≤ 65536) := by
  apply k18_is.does (by simp)
  simp only [k18_a, WK, vop, evAll, evOpt, evParts, vbuiltin, vun, vextract, Nat.reduceLT, Nat.reduceEqDiff, ↓reduceIte, reduceCtorEq, Nat.reduceAdd, Int.reduceLT, Int.reduceNeg, valloc_std, noSB, vhot, List.getD_cons_zero, hw.len]
  refine Ev.loopF (fun (i : Nat) e s => ∃ n : Nat, e 8 = .int .i64 (i : Nat) ∧ i ≤ l.length ∧ KS [] σ s ∧ e 3 = .int .i64 (n : Nat) ∧ 64 * i ≤ n ∧ n ≤ 4194304) (fun i => l.length - i) 0 ⟨0, by simp [upd_some], Nat.zero_le _, KS.refl _ _, by simp [upd_some], by omega, by omega⟩ ?_
  rintro i e s ⟨n, h8, hi, hk, h3, hn1, hn2⟩ hf
  have h6 : e 6 = w := (hf 6 (by decide)).trans (by simp [upd_some])
  have h7 : e 7 = .int .i64 (l.length : Nat) := (hf 7 (by decide)).trans (by simp [upd_some])
  clear hf
  by_cases hlt : i < l.length
  · have hlt' : (i : Int) < (l.length : Nat) := by omega
    have hwi : IntKind.i64.wrap ((i : Int) + 1) = ((i + 1 : Nat) : Int) := by rw [show ((i : Int) + 1) = ((i + 1 : Nat) : Int) from by omega]; exact wrap_nat (by omega)
    have hO := ho l[i] (List.getElem_mem hlt)
    obtain ⟨s1, hs1⟩ : ∃ s1 : St, s1 = ⟨s.objs ++ [.cells l[i].cells], s.toks⟩ := ⟨_, rfl⟩
    have hst := opNew (σ := s) hO.b
    rw [← hs1] at hst
    have K1 : KS [] s s1 := by rw [hs1]; exact KS.push _ _ _
    have ob : s1.objs[s.objs.length]? = some (.cells l[i].cells) := by rw [hs1]; exact push_new _ _
    have hz : vcells (V.agg [.int .i64 0, .str [], .str [], .int .i64 0, .int .i64 0, .nils]) = [.int .i64 0, .str [], .str [], .int .i64 0, .int .i64 0, .nils] := rfl
    have hlb := hO.bl
    have w1 : IntKind.i64.wrap ((l[i].b.length : Int) + 64) = ((l[i].b.length + 64 : Nat) : Int) := by rw [wrap_i64 (by omega) (by omega)]; omega
    have w2 : IntKind.i64.wrap ((n : Int) + ((l[i].b.length + 64 : Nat) : Int)) = ((n + (l[i].b.length + 64) : Nat) : Int) := by rw [wrap_i64 (by omega) (by omega)]; omega
    by_cases hbig : 4194304 < n + (l[i].b.length + 64)
    · have hbig' : (4194304 : Int) < ((n + (l[i].b.length + 64) : Nat) : Int) := by omega
      simp only [k18_a, WK, vop, evAll, evOpt, evParts, vbuiltin, vun, vextract, Nat.reduceLT, Nat.reduceEqDiff, ↓reduceIte, reduceCtorEq, Nat.reduceAdd, Int.reduceLT, Int.reduceNeg, valloc_std, noSB, vhot, h8, h7, h6, h3, hlt', decide_true, hw.addr hlt, OpsV.load hlt, ZOp, vbox, hz, hst, oFA5, (OpAt ob).2.2.2.2.2, hO.b.len T22, w1, w2, hbig']
      exact ⟨true, rfl, hk.trans' K1, by simp⟩
    · have hbig' : ¬ (4194304 : Int) < ((n + (l[i].b.length + 64) : Nat) : Int) := by omega
      simp only [k18_a, WK, vop, evAll, evOpt, evParts, vbuiltin, vun, vextract, Nat.reduceLT, Nat.reduceEqDiff, ↓reduceIte, reduceCtorEq, Nat.reduceAdd, Int.reduceLT, Int.reduceNeg, valloc_std, noSB, vhot, h8, h7, h6, h3, hlt', decide_true, decide_false, hw.addr hlt, OpsV.load hlt, ZOp, vbox, hz, hst, oFA5, (OpAt ob).2.2.2.2.2, hO.b.len T22, w1, w2, hbig', hwi]
      exact ⟨i + 1, ⟨n + (l[i].b.length + 64), by simp [upd_some], by omega, hk.trans' K1, by simp [upd_some], by omega, by omega⟩, by omega⟩
  · have hlt' : ¬ (i : Int) < (l.length : Nat) := by omega
    simp only [k18_a, WK, vop, evAll, evOpt, evParts, vbuiltin, vun, vextract, Nat.reduceLT, Nat.reduceEqDiff, ↓reduceIte, reduceCtorEq, Nat.reduceAdd, Int.reduceLT, Int.reduceNeg, valloc_std, noSB, vhot, h8, h7, hlt', decide_false]
    exact ⟨false, rfl, hk, fun _ => by omega⟩
end Go.Proofs.Ytnbmfhnfmhgaaaa.Q

/- Rows of rows of bytes as arguments; and of truths. -/
set_option linter.unusedVariables false
set_option linter.unusedSimpArgs false
set_option maxRecDepth 100000
namespace Go.Proofs.Ytnbmfhnfmhgaaaa.Q
open Go Go.RowKit Go.Proofs
abbrev BV := V × List UInt8
theorem CBB : Try.prog.cellsOf 28 = 1 := by kernel_rfl
theorem SBs : sizeT Try.prog 28 = some 1 := pSB
/-- A row of rows of bytes. -/
def PtsV (w : V) (l : List BV) : Prop := RowV 1 w (l.map Prod.fst) l.length
theorem pts_arg {x : V} (h : ArgT Try.prog 22 x) : ∃ l : List BV, PtsV x l ∧ (∀ p ∈ l, BtsV p.1 p.2 ∧ p.2.length ≤ vbulk x) ∧ l.length ≤ vbulk x := by
  obtain ⟨k, hv⟩ : ∃ k, VT Try.prog k 22 [x] := by
    unfold ArgT at h
    rw [TBB] at h
    exact h
  obtain ⟨k', hc⟩ := VT_slice TBB hv
  rcases hc with hc | ⟨vs, len, hc, h1, h2, h3⟩
  · injection hc with hc
    subst hc
    exact ⟨[], ⟨rfl, .inl ⟨rfl, rfl⟩⟩, fun o ho => (by cases ho), by simp⟩
  · injection hc with hc
    subst hc
    rw [CBB] at h1 h3 ⊢
    obtain ⟨l, rfl, hl, hR⟩ := rows_of (f := fun p : BV => [p.1]) (R := fun p : BV => BtsV p.1 p.2) len vs h1 fun i hi => by
      obtain ⟨w, bs, e, hb⟩ := bts_VT (h3 i hi)
      exact ⟨(w, bs), e, hb⟩
    subst hl
    have e : l.flatMap (fun p : BV => [p.1]) = l.map Prod.fst := by rw [List.map_eq_flatMap]
    have hbl := bulk_len (f := fun p : BV => [p.1]) (k := 1) (fun _ => rfl) (by omega) l
    refine ⟨l, ⟨by simp, .inr ⟨.ro, by rw [e]⟩⟩, fun p hp => ⟨hR p hp, ?_⟩, ?_⟩
    · have h4 := bulk_mem (f := fun p : BV => [p.1]) hp
      have h5 := bts_bulk (hR p hp)
      simp only [vbulks] at h4
      simp only [vbulk]
      omega
    · simp only [vbulk]; omega
theorem PtsV.len {v : V} {l : List BV} (h : PtsV v l) : vlen Try.prog 22 v = some (.int .i64 l.length) := RowV.len h TBB
theorem PtsV.addr {v : V} {l : List BV} (h : PtsV v l) {i : Nat} (hi : i < l.length) : vindexAddr Try.prog 22 v (.int .i64 i) = some (.eptr (l.map Prod.fst) i) := by
  have := RowV.addr h TBB SBs (by omega) (kk := .i64) (i := i) (by omega) (by omega)
  rwa [Int.toNat_natCast, Nat.mul_one] at this
theorem PtsV.load {l : List BV} {i : Nat} (hi : i < l.length) {objs : List Ob} : vload Try.prog objs 28 (.eptr (l.map Prod.fst) i) = some l[i].1 := by
  simp [vload, vcellsAt, vpart, pGB, hi]
end Go.Proofs.Ytnbmfhnfmhgaaaa.Q

/- The waking. -/
set_option linter.unusedVariables false
set_option linter.unusedSimpArgs false
set_option maxRecDepth 100000
namespace Go.Proofs.Ytnbmfhnfmhgaaaa.Q
open Go Go.RowKit Go.Proofs
theorem wakes_run : isTrue (vcall Try.prog prims 300 8 [] st0) = true := by kernel_rfl
theorem wakes_does : ∃ σ, Does Try.prog prims 8 [] st0 (.ret (.bool true)) σ := by
  obtain ⟨σ, h⟩ := isTrue_eq wakes_run
  exact ⟨σ, 300, h⟩
end Go.Proofs.Ytnbmfhnfmhgaaaa.Q

/- DiskFull: for every input of bulk at most 1048576 the law answers true. -/
set_option linter.unusedVariables false
set_option linter.unusedSimpArgs false
set_option maxRecDepth 100000
namespace Go.Proofs.Ytnbmfhnfmhgaaaa.Q
open Go Go.RowKit Go.Proofs
/-! ### Sizes, plainly -/
theorem sizeD_perm {l m : List Fl} (h : l.Perm m) : sizeD l = sizeD m := (h.map Fl.len).sum_nat
theorem sizeD_cons (f : Fl) (l : List Fl) : sizeD (f :: l) = f.len + sizeD l := by simp [sizeD]
theorem size_putF {l : List Fl} {x : Fl} (hr : l.Pairwise fun f g => f.name < g.name) : sizeD (putF x l) + (match getF l x.name with | some f => f.len | none => 0) = sizeD l + x.len := by
  cases h : getF l x.name with
  | none =>
    rw [sizeD_perm (putF_new h), sizeD_cons]; simp only; omega
  | some f =>
    obtain ⟨hm, hn⟩ := getF_some h
    obtain ⟨A, B, rfl⟩ := List.append_of_mem hm
    have hp := putF_perm (x := x) hr (List.Perm.refl _) hn.symm
    rw [← sizeD_perm hp]
    simp only [sizeD, List.map_append, List.map_cons, List.sum_append, List.sum_cons]
    omega
theorem size_mem {l : List Fl} {f : Fl} (h : f ∈ l) : f.len ≤ sizeD l := by
  obtain ⟨A, B, rfl⟩ := List.append_of_mem h
  simp only [sizeD, List.map_append, List.map_cons, List.sum_append, List.sum_cons]
  omega
theorem readyD_yes {d : Dk} {n : List UInt8} (h : namedD n = true) (ho : d.on = true) : readyD d n = 0 := by
  unfold readyD; rw [if_neg (by simp [h]), if_neg (by simp [ho])]
/-- An append where no power goes. -/
theorem append_plain {d : Dk} (hok : d.Ok) {n b : List UInt8} (hn : namedD n = true) (ho : d.on = true) (ha : d.armed = 0) (hs : sizeD d.files + b.length ≤ 1048576) (hl : d.files.length < 16) :
    (d.room < ((sizeD d.files + b.length : Nat) : Int) ∧ appendD n b d = (22, d)) ∨ (¬ d.room < ((sizeD d.files + b.length : Nat) : Int) ∧
      appendD n b d = (0, { d with files := putF ⟨n, ((getF d.files n).getD ⟨n, [], []⟩).safe, ((getF d.files n).getD ⟨n, [], []⟩).wait ++ b⟩ d.files, writes := d.writes + 1 }) ∧
      sizeD (putF ⟨n, ((getF d.files n).getD ⟨n, [], []⟩).safe, ((getF d.files n).getD ⟨n, [], []⟩).wait ++ b⟩ d.files) = sizeD d.files + b.length) := by
  have hle : ((getF d.files n).getD ⟨n, [], []⟩).len ≤ sizeD d.files := by
    cases h : getF d.files n with
    | none => simp [Fl.len]
    | some f => exact size_mem (getF_some h).1
  have hrd : ¬ readyD d n ≠ 0 := by rw [readyD_yes hn ho]; simp
  have hlong : ¬ 1048576 < ((getF d.files n).getD ⟨n, [], []⟩).len + b.length := by omega
  by_cases hf : d.room < ((sizeD d.files + b.length : Nat) : Int)
  · refine .inl ⟨hf, ?_⟩
    unfold appendD
    rw [if_neg hrd]
    simp only
    rw [if_neg hlong, if_pos (.inr hf)]
  · refine .inr ⟨hf, ?_, ?_⟩
    · unfold appendD
      rw [if_neg hrd]
      simp only
      rw [if_neg hlong, if_neg (by rintro (h | h); · omega
                                   · exact hf h)]
      simp [rawD, ha]
    · have h := size_putF (x := ⟨n, ((getF d.files n).getD ⟨n, [], []⟩).safe, ((getF d.files n).getD ⟨n, [], []⟩).wait ++ b⟩) hok.rise
      cases hg : getF d.files n with
      | none => rw [hg] at h; simp [Fl.len] at h ⊢; exact h
      | some f => rw [hg] at h; simp [Fl.len] at h ⊢; omega
def nmA : List UInt8 := [97]
def nmB : List UInt8 := [98]
theorem two_names {l : List Fl} (hr : l.Pairwise fun f g => f.name < g.name) (h : ∀ f ∈ l, f.name = nmA ∨ f.name = nmB) : l.length ≤ 2 := by
  match l, hr, h with
  | [], _, _ => simp
  | [_], _, _ => simp
  | [_, _], _, _ => simp
  | a :: b :: c :: l, hr, h =>
    exfalso
    simp only [List.pairwise_cons, List.mem_cons, forall_eq_or_imp] at hr h
    obtain ⟨⟨h1, h2, _⟩, ⟨h3, _⟩, _⟩ := hr
    obtain ⟨a1, b1, c1, _⟩ := h
    rcases a1 with a1 | a1 <;> rcases b1 with b1 | b1 <;> rcases c1 with c1 | c1 <;> rw [a1, b1] at h1 <;> rw [a1, c1] at h2 <;> rw [b1, c1] at h3 <;>
      first | exact lt_irrefl' _ h1 | exact lt_irrefl' _ h2 | exact lt_irrefl' _ h3
/-! ### The walk -/
theorem T27 : Try.prog.underlying 27 = some (.array 3 9) := by kernel_rfl
theorem S27 : sizeT Try.prog 27 = some 3 := by kernel_rfl
theorem Z27 : zeroT Try.prog 27 = some (.agg [.str [], .str [], .str []]) := by kernel_rfl
theorem bld27 (a b c : List UInt8) : vbuild Try.prog 27 [(0, .str a), (1, .str b), (2, .str c)] = some (.agg [.str a, .str b, .str c]) := by kernel_rfl
theorem nameAt (q : Nat) (k : Nat) (hk : k < 3) : vindexAddr Try.prog 27 (.optr q 0) (.int .i64 (k : Int)) = some (.optr q k) := by
  have h2 : (k : Int) < 3 := by omega
  simp [vindexAddr, T27, SS9, h2]
theorem neqB (t : TypeId) (ht : t = 4) (a b : Operand) (x y : Bool) : vbin Try.prog .neq t a b (.bool x) (.bool y) = some (.bool (!(x == y))) := by
  subst ht
  cases x <;> cases y <;> kernel_rfl
theorem and_one (z : Int) : ∃ k : Nat, k < 2 ∧ bitOp .and .i64 z 1 = some ((k : Nat) : Int) := by
  have h1 : (BitVec.ofInt 64 z &&& BitVec.ofInt 64 1).toNat < 2 := by
    rw [BitVec.toNat_and]
    exact Nat.lt_of_le_of_lt Nat.and_le_right (by decide)
  refine ⟨_, h1, ?_⟩
  show some (IntKind.i64.wrap (((BitVec.ofInt 64 z &&& BitVec.ofInt 64 1).toNat : Nat) : Int)) = _
  rw [wrap_i64 (by omega) (by omega)]
structure Full (d : Dk) (n : Int) (i : Nat) : Prop where
  ok : d.Ok
  on : d.on = true
  arm : d.armed = 0
  room : d.room = n
  two : ∀ f ∈ d.files, f.name = nmA ∨ f.name = nmB
  sz : sizeD d.files ≤ 1024 * i
  wr : d.writes ≤ i
theorem Full.new {n : Int} (h : InI64 n) : Full (newD n) n 0 := ⟨newD_ok h, rfl, rfl, rfl, fun f hf => (by cases hf), by simp [newD, sizeD], Nat.le_refl _⟩
theorem Full.step {d : Dk} {n : Int} {i : Nat} (h : Full d n i) (hi : i < 512) {nm b : List UInt8} (hn : nm = nmA ∨ nm = nmB) (hb : b.length ≤ 1024) :
    (n < ((sizeD d.files + b.length : Nat) : Int) ∧ appendD nm b d = (22, d) ∧ Full d n (i + 1)) ∨ (¬ n < ((sizeD d.files + b.length : Nat) : Int) ∧ (appendD nm b d).1 = 0 ∧ Full (appendD nm b d).2 n (i + 1) ∧ sizeD (appendD nm b d).2.files = sizeD d.files + b.length) := by
  have hnm : namedD nm = true := by rcases hn with rfl | rfl <;> decide
  have h2 := two_names h.ok.rise h.two
  have hsz := h.sz
  have hwr := h.wr
  have hr := h.room
  rcases append_plain h.ok hnm h.on h.arm (b := b) (by omega) (by omega) with ⟨h3, h4⟩ | ⟨h3, h4, h5⟩
  · rw [hr] at h3
    exact .inl ⟨h3, h4, h.ok, h.on, h.arm, h.room, h.two, by omega, by omega⟩
  · rw [hr] at h3
    have hok := (append_ok (n := nm) (b := b) h.ok).1
    rw [h4] at hok ⊢
    refine .inr ⟨h3, rfl, ⟨hok, h.on, h.arm, h.room, fun f hf => ?_, ?_, ?_⟩, h5⟩
    · simp only [mem_putF] at hf
      rcases hf with rfl | hf
      · exact hn
      · exact h.two f hf.1
    · simp only [h5]; omega
    · simp only; omega
theorem read_file {d : Dk} (hok : d.Ok) (ho : d.on = true) {i : Nat} (hi : i < d.files.length) : (readD d.files[i].name d).2.length = d.files[i].len := by
  have hm := List.getElem_mem hi
  have hg := getF_mem hok.nodup hm
  have hn := hok.nm _ hm
  have ht : ¬ thereD d d.files[i].name ≠ 0 := by
    unfold thereD
    rw [if_neg (by rw [readyD_yes hn ho]; simp), hg]
    simp
  unfold readD
  rw [if_neg ht, hg]
  simp [Fl.len]
theorem diskfull_true : LawTrue Try.prog prims 3 [3, 22, 23] := by
  intro args hA hb
  match args, hA with
  | [v, w, x], ⟨hx, hx2, hx3, _⟩ =>
    obtain ⟨n, rfl, hn⟩ : ∃ n : Int, v = .int .i64 n ∧ InI64 n := int_arg T3 hx
    simp only [vbulks] at hb
    obtain ⟨l, hw, ho, hlen⟩ := pts_arg hx2
    obtain ⟨zs, hz, hzl⟩ := ints_arg IT.u IT.ue IT.c hx3
    have key : ∃ r σ', Does Try.prog prims 3 [.int .i64 n, w, x] st0 r σ' ∧ r = .ret (.bool true) := by
      apply k3_is.does (by simp)
      obtain ⟨s1, hwk⟩ := wakes_does
      obtain ⟨s2, r, rm, h3, D3, K3, I3⟩ := newdisk_does s1 n
      simp only [k3_a, WK, vop, evAll, evOpt, evParts, vbuiltin, vun, vextract, Nat.reduceLT, Nat.reduceEqDiff, ↓reduceIte, reduceCtorEq, Nat.reduceAdd, Int.reduceLT, Int.reduceNeg, valloc_std, noSB, vhot, List.getD_cons_zero, List.getD_cons_succ]
      refine KD.ret hwk ?_
      simp only [k3_a, WK, vop, evAll, evOpt, evParts, vbuiltin, vun, vextract, Nat.reduceLT, Nat.reduceEqDiff, ↓reduceIte, reduceCtorEq, Nat.reduceAdd, Int.reduceLT, Int.reduceNeg, valloc_std, noSB, vhot, List.getD_cons_zero, List.getD_cons_succ, Bool.not_true]
      refine KD.ret h3 ?_
      by_cases hbig : 512 < l.length
      · have hbig' : (512 : Int) < (l.length : Nat) := by omega
        simp only [k3_a, WK, vop, evAll, evOpt, evParts, vbuiltin, vun, vextract, Nat.reduceLT, Nat.reduceEqDiff, ↓reduceIte, reduceCtorEq, Nat.reduceAdd, Int.reduceLT, Int.reduceNeg, valloc_std, noSB, vhot, List.getD_cons_zero, List.getD_cons_succ, ofNilP, eql_optr pTD, neq_optr pTD, hw.len, hbig']
      · have hbig' : ¬ (512 : Int) < (l.length : Nat) := by omega
        obtain ⟨s3, hs3⟩ : ∃ s3 : St, s3 = ⟨s2.objs ++ [.cells [.str nmA, .str nmB, .str [99]]], s2.toks⟩ := ⟨_, rfl⟩
        have K3 : KS [] s2 s3 := by rw [hs3]; exact KS.push _ _ _
        have ob3 : s3.objs[s2.objs.length]? = some (.cells [.str nmA, .str nmB, .str [99]]) := by rw [hs3]; exact push_new _ _
        have D4 := D3.pushes K3
        have hst : vstore Try.prog ⟨s2.objs ++ [.cells [.str [], .str [], .str []]], s2.toks⟩ 27 (.optr s2.objs.length 0) (.agg [.str nmA, .str nmB, .str [99]]) = some s3 := by
          rw [vstore_agg (cs := [.str [], .str [], .str []]) (cs' := [.str nmA, .str nmB, .str [99]]) (push_new _ _) (by rw [S27]; rfl) rfl rfl, hs3]
          simp
        have hzc : vcells (V.agg [.str [], .str [], .str []]) = [.str [], .str [], .str []] := rfl
        have o1 : ofVal (Value.string { data := #[97] }) = some (.str nmA) := rfl
        have o2 : ofVal (Value.string { data := #[98] }) = some (.str nmB) := rfl
        have o3 : ofVal (Value.string { data := #[99] }) = some (.str [99]) := rfl
        have hbl : vbuild Try.prog 27 [(0, .str nmA), (1, .str nmB), (2, .str [99])] = some (.agg [.str nmA, .str nmB, .str [99]]) := bld27 _ _ _
        simp only [k3_a, WK, vop, evAll, evOpt, evParts, vbuiltin, vun, vextract, Nat.reduceLT, Nat.reduceEqDiff, ↓reduceIte, reduceCtorEq, Nat.reduceAdd, Int.reduceLT, Int.reduceNeg, valloc_std, noSB, vhot, List.getD_cons_zero, List.getD_cons_succ, ofNilP, eql_optr pTD, hw.len, hbig', decide_false, o1, o2, o3, hbl, Z27, vbox, hzc, hst]
        refine Ev.loopF (fun (i : Nat) e s => e 35 = .int .i64 (i : Nat) ∧ i ≤ l.length ∧ ∃ d fs, DiskAt s r d rm fs ∧ Full d n i ∧ e 8 = .int .i64 (sizeD d.files : Nat) ∧ s.objs[s2.objs.length]? = some (.cells [.str nmA, .str nmB, .str [99]]) ∧ s2.objs.length ∉ foot r rm fs) (fun i => l.length - i) 0 ?_ ?_
        · exact ⟨by simp [upd_some], Nat.zero_le _, newD n, [], D4, Full.new hn, by simp [upd_some, newD, sizeD], ob3, fun hx => by have := D3.lt _ hx; omega⟩
        rintro i e s ⟨h35, hi, d, fs, D, F, h8, ob, hnf⟩ hf
        have g0 : e 0 = .int .i64 n := (hf 0 (by decide)).trans (by simp [upd_some])
        have g2 : e 2 = x := (hf 2 (by decide)).trans (by simp [upd_some])
        have g7 : e 7 = .optr r 0 := (hf 7 (by decide)).trans (by simp [upd_some])
        have g9 : e 9 = .optr s2.objs.length 0 := (hf 9 (by decide)).trans (by simp [upd_some])
        have g33 : e 33 = w := (hf 33 (by decide)).trans (by simp [upd_some])
        have g34 : e 34 = .int .i64 (l.length : Nat) := (hf 34 (by decide)).trans (by simp [upd_some])
        clear hf
        have Fsz := F.sz
        by_cases hlt : i < l.length
        · have hlt' : (i : Int) < (l.length : Nat) := by omega
          have hwi : IntKind.i64.wrap ((i : Int) + 1) = ((i + 1 : Nat) : Int) := by rw [show ((i : Int) + 1) = ((i + 1 : Nat) : Int) from by omega]; exact wrap_nat (by omega)
          obtain ⟨hb1, hb2⟩ := ho l[i] (List.getElem_mem hlt)
          have hlb := hb1.len T22
          have hlx := hz.len IT
          by_cases hlong : 1024 < l[i].2.length
          · have hlong' : (1024 : Int) < (l[i].2.length : Nat) := by omega
            simp only [k3_a, WK, vop, evAll, evOpt, evParts, vbuiltin, vun, vextract, Nat.reduceLT, Nat.reduceEqDiff, ↓reduceIte, reduceCtorEq, Nat.reduceAdd, Int.reduceLT, Int.reduceNeg, valloc_std, noSB, vhot, h35, g33, g34, hlt', decide_true, hw.addr hlt, PtsV.load hlt, hlb, hlong']
          · have hlong' : ¬ (1024 : Int) < (l[i].2.length : Nat) := by omega
            have hws : IntKind.i64.wrap (((sizeD d.files : Nat) : Int) + (l[i].2.length : Nat)) = ((sizeD d.files + l[i].2.length : Nat) : Int) := by rw [wrap_i64 (by omega) (by omega)]; omega
            have tail : ∀ (k : Nat) (nm : List UInt8), (k = 0 ∧ nm = nmA ∨ k = 1 ∧ nm = nmB) → vload Try.prog s.objs 9 (.optr s2.objs.length k) = some (.str nm) ∧ ∃ p6 t, Does Try.prog prims 10 [.optr r 0, .str nm, l[i].1] s p6 t ∧ ∃ c : Int, p6 = .ret (.int .i64 c) ∧ (n < ((sizeD d.files + l[i].2.length : Nat) : Int) ∧ c = 22 ∨ ¬ n < ((sizeD d.files + l[i].2.length : Nat) : Int) ∧ c = 0) ∧
                ∃ d' fs', DiskAt t r d' rm fs' ∧ Full d' n (i + 1) ∧ (c = 22 → sizeD d'.files = sizeD d.files) ∧ (c = 0 → sizeD d'.files = sizeD d.files + l[i].2.length) ∧ t.objs[s2.objs.length]? = some (.cells [.str nmA, .str nmB, .str [99]]) ∧ s2.objs.length ∉ foot r rm fs' := by
              intro k nm hk
              refine ⟨?_, ?_⟩
              · rw [vload_obj ob G9]
                rcases hk with ⟨rfl, rfl⟩ | ⟨rfl, rfl⟩ <;> rfl
              · obtain ⟨p6, t, h6, rfl, fs', D6, K6, I6⟩ := append_sees (n := nm) D F.ok (by have := F.wr; omega) (.inl hb1 : RB s l[i].1 l[i].2) (by omega)
                have ob6 := K6.ko _ _ hnf ob
                have hnf6 : s2.objs.length ∉ foot r rm fs' := fun hx => by
                  rcases I6 _ hx with h | h
                  · exact hnf h
                  · have := (List.getElem?_eq_some_iff.1 ob).1; omega
                rcases F.step (by omega) (nm := nm) (b := l[i].2) (hk.imp (·.2) (·.2)) (by omega) with ⟨a1, a2, a3⟩ | ⟨a1, a2, a3, a4⟩
                · rw [a2] at h6 D6
                  exact ⟨_, t, h6, 22, rfl, .inl ⟨a1, rfl⟩, d, fs', D6, a3, fun _ => rfl, fun h => by omega, ob6, hnf6⟩
                · rw [a2] at h6
                  exact ⟨_, t, h6, 0, rfl, .inr ⟨a1, rfl⟩, _, fs', D6, a3, fun h => by omega, fun _ => a4, ob6, hnf6⟩
            by_cases hix : i < zs.length
            · have hix' : (i : Int) < (zs.length : Nat) := by omega
              obtain ⟨k, hk, hand⟩ := and_one zs[i]
              have hza : vindexAddr Try.prog 23 x (.int .i64 (i : Nat)) = some (.eptr (zs.map i64V) i) := by
                have := hz.addr IT (k := .i64) (n := (i : Int)) (by omega) (by omega)
                rwa [Int.toNat_natCast] at this
              have hzl := fun (objs : List Ob) => IntsV.load IT (objs := objs) hix
              obtain ⟨hnl, p6, t, h6, c, rfl, hc, d', fs', D', F', s22, s0, ob', hnf'⟩ := tail k (if k = 0 then nmA else nmB) (by rcases Nat.eq_zero_or_pos k with h | h <;> simp [h]; omega)
              have hna := nameAt s2.objs.length k (by omega)
              generalize (if k = 0 then nmA else nmB) = nm at hnl h6
              rcases hc with ⟨hn1, rfl⟩ | ⟨hn1, rfl⟩
              · simp only [k3_a, WK, vop, evAll, evOpt, evParts, vbuiltin, vun, vextract, Nat.reduceLT, Nat.reduceEqDiff, ↓reduceIte, reduceCtorEq, Nat.reduceAdd, Int.reduceLT, Int.reduceNeg, valloc_std, noSB, vhot, h35, g33, g34, g2, g9, g7, g0, h8, hlt', decide_true, decide_false, hw.addr hlt, PtsV.load hlt, hlb, hlong', hlx, hix', hza, hzl, hand, Option.map_some, hna, hnl]
                refine KD.ret h6 ?_
                simp only [k3_a, WK, vop, evAll, evOpt, evParts, vbuiltin, vun, vextract, Nat.reduceLT, Nat.reduceEqDiff, ↓reduceIte, reduceCtorEq, Nat.reduceAdd, Int.reduceLT, Int.reduceNeg, valloc_std, noSB, vhot, h35, g33, g34, g2, g9, g7, g0, h8, hlb, hws, hn1, decide_true, decide_false, neqB 4 rfl, eq_self, (by decide : ¬ (22 : Int) = 0), (by decide : ¬ (0 : Int) = 22), beq_self_eq_true, Bool.not_true, Bool.not_false, hwi]
                exact ⟨i + 1, ⟨by simp [upd_some], by omega, d', fs', D', F', by simp [upd_some, h8, s22 rfl], ob', hnf'⟩, by omega⟩
              · simp only [k3_a, WK, vop, evAll, evOpt, evParts, vbuiltin, vun, vextract, Nat.reduceLT, Nat.reduceEqDiff, ↓reduceIte, reduceCtorEq, Nat.reduceAdd, Int.reduceLT, Int.reduceNeg, valloc_std, noSB, vhot, h35, g33, g34, g2, g9, g7, g0, h8, hlt', decide_true, decide_false, hw.addr hlt, PtsV.load hlt, hlb, hlong', hlx, hix', hza, hzl, hand, Option.map_some, hna, hnl]
                refine KD.ret h6 ?_
                simp only [k3_a, WK, vop, evAll, evOpt, evParts, vbuiltin, vun, vextract, Nat.reduceLT, Nat.reduceEqDiff, ↓reduceIte, reduceCtorEq, Nat.reduceAdd, Int.reduceLT, Int.reduceNeg, valloc_std, noSB, vhot, h35, g33, g34, g2, g9, g7, g0, h8, hlb, hws, hn1, decide_true, decide_false, neqB 4 rfl, eq_self, (by decide : ¬ (22 : Int) = 0), (by decide : ¬ (0 : Int) = 22), beq_self_eq_true, Bool.not_true, Bool.not_false, hwi]
                exact ⟨i + 1, ⟨by simp [upd_some], by omega, d', fs', D', F', by simp [upd_some, h8, s0 rfl], ob', hnf'⟩, by omega⟩
            · have hix' : ¬ (i : Int) < (zs.length : Nat) := by omega
              obtain ⟨hnl, p6, t, h6, c, rfl, hc, d', fs', D', F', s22, s0, ob', hnf'⟩ := tail 0 nmA (.inl ⟨rfl, rfl⟩)
              have hna : vindexAddr Try.prog 27 (.optr s2.objs.length 0) (.int .i64 0) = some (.optr s2.objs.length 0) := nameAt s2.objs.length 0 (by omega)
              rcases hc with ⟨hn1, rfl⟩ | ⟨hn1, rfl⟩
              · simp only [k3_a, WK, vop, evAll, evOpt, evParts, vbuiltin, vun, vextract, Nat.reduceLT, Nat.reduceEqDiff, ↓reduceIte, reduceCtorEq, Nat.reduceAdd, Int.reduceLT, Int.reduceNeg, valloc_std, noSB, vhot, h35, g33, g34, g2, g9, g7, g0, h8, hlt', decide_true, decide_false, hw.addr hlt, PtsV.load hlt, hlb, hlong', hlx, hix', hna, hnl]
                refine KD.ret h6 ?_
                simp only [k3_a, WK, vop, evAll, evOpt, evParts, vbuiltin, vun, vextract, Nat.reduceLT, Nat.reduceEqDiff, ↓reduceIte, reduceCtorEq, Nat.reduceAdd, Int.reduceLT, Int.reduceNeg, valloc_std, noSB, vhot, h35, g33, g34, g2, g9, g7, g0, h8, hlb, hws, hn1, decide_true, decide_false, neqB 4 rfl, eq_self, (by decide : ¬ (22 : Int) = 0), (by decide : ¬ (0 : Int) = 22), beq_self_eq_true, Bool.not_true, Bool.not_false, hwi]
                exact ⟨i + 1, ⟨by simp [upd_some], by omega, d', fs', D', F', by simp [upd_some, h8, s22 rfl], ob', hnf'⟩, by omega⟩
              · simp only [k3_a, WK, vop, evAll, evOpt, evParts, vbuiltin, vun, vextract, Nat.reduceLT, Nat.reduceEqDiff, ↓reduceIte, reduceCtorEq, Nat.reduceAdd, Int.reduceLT, Int.reduceNeg, valloc_std, noSB, vhot, h35, g33, g34, g2, g9, g7, g0, h8, hlt', decide_true, decide_false, hw.addr hlt, PtsV.load hlt, hlb, hlong', hlx, hix', hna, hnl]
                refine KD.ret h6 ?_
                simp only [k3_a, WK, vop, evAll, evOpt, evParts, vbuiltin, vun, vextract, Nat.reduceLT, Nat.reduceEqDiff, ↓reduceIte, reduceCtorEq, Nat.reduceAdd, Int.reduceLT, Int.reduceNeg, valloc_std, noSB, vhot, h35, g33, g34, g2, g9, g7, g0, h8, hlb, hws, hn1, decide_true, decide_false, neqB 4 rfl, eq_self, (by decide : ¬ (22 : Int) = 0), (by decide : ¬ (0 : Int) = 22), beq_self_eq_true, Bool.not_true, Bool.not_false, hwi]
                exact ⟨i + 1, ⟨by simp [upd_some], by omega, d', fs', D', F', by simp [upd_some, h8, s0 rfl], ob', hnf'⟩, by omega⟩
        · have hlt' : ¬ (i : Int) < (l.length : Nat) := by omega
          obtain ⟨p7, s7, h7, v7, q7, rfl, n7, K7, I7⟩ := names_sees D F.ok
          have en : namesD d = d.files.map Fl.name := by unfold namesD; rw [if_pos F.on]
          rw [en] at n7
          have R7 : RowS s7 1 v7 ((d.files.map Fl.name).map V.str) (d.files.map Fl.name).length := row_strs n7
          have h2 := two_names F.ok.rise F.two
          have hln := R7.len TSS
          rw [List.length_map] at hln
          simp only [k3_a, WK, vop, evAll, evOpt, evParts, vbuiltin, vun, vextract, Nat.reduceLT, Nat.reduceEqDiff, ↓reduceIte, reduceCtorEq, Nat.reduceAdd, Int.reduceLT, Int.reduceNeg, valloc_std, noSB, vhot, h35, g33, g34, g7, hlt', decide_false]
          refine KD.ret h7 ?_
          simp only [k3_a, WK, vop, evAll, evOpt, evParts, vbuiltin, vun, vextract, Nat.reduceLT, Nat.reduceEqDiff, ↓reduceIte, reduceCtorEq, Nat.reduceAdd, Int.reduceLT, Int.reduceNeg, valloc_std, noSB, vhot, hln]
          refine Ev.loopF (fun (j : Nat) e2 t => e2 85 = .int .i64 (j : Nat) ∧ j ≤ d.files.length ∧ KS [] s7 t ∧ e2 14 = .int .i64 ((sizeD (d.files.take j) : Nat))) (fun j => d.files.length - j) 0 ⟨by simp [upd_some], Nat.zero_le _, KS.refl _ _, by simp [upd_some, sizeD]⟩ ?_
          rintro j e2 t ⟨k85, hj, kk, k14⟩ hf2
          have k7 : e2 7 = .optr r 0 := (hf2 7 (by decide)).trans (by simp [upd_some, g7])
          have k8 : e2 8 = .int .i64 (sizeD d.files : Nat) := (hf2 8 (by decide)).trans (by simp [upd_some, h8])
          have k83 : e2 83 = v7 := (hf2 83 (by decide)).trans (by simp [upd_some])
          have k84 : e2 84 = .int .i64 (d.files.length : Nat) := (hf2 84 (by decide)).trans (by simp [upd_some])
          clear hf2
          by_cases hjt : j < d.files.length
          · have hjt' : (j : Int) < (d.files.length : Nat) := by omega
            have hwj : IntKind.i64.wrap ((j : Int) + 1) = ((j + 1 : Nat) : Int) := by rw [show ((j : Int) + 1) = ((j + 1 : Nat) : Int) from by omega]; exact wrap_nat (by omega)
            obtain ⟨pa, ha, hl⟩ := R7.strAt (i := j) (by rw [List.length_map]; exact hjt)
            have hl := hl t kk
            rw [List.getElem_map] at hl
            obtain ⟨p8, t8, h8', v8, q8, rfl, n8, K8, I8⟩ := read_sees (n := d.files[j].name) ((D.pushes K7).pushes kk) F.ok
            have hl8 := rowOf_len n8
            rw [List.length_map, read_file F.ok F.on hjt] at hl8
            have hst : sizeD (d.files.take (j + 1)) = sizeD (d.files.take j) + d.files[j].len := by
              rw [List.take_succ_eq_append_getElem hjt]
              simp only [sizeD, List.map_append, List.map_cons, List.map_nil, List.sum_append, List.sum_cons, List.sum_nil, Nat.add_zero]
            have hb3 := size_mem (List.getElem_mem hjt)
            have hb4 := sizeD_le F.ok
            have hb5 : sizeD (d.files.take j) ≤ 16777216 := by
              have := congrArg sizeD (List.take_append_drop j d.files)
              simp only [sizeD, List.map_append, List.sum_append] at this hb4 ⊢
              omega
            have hws : IntKind.i64.wrap (((sizeD (d.files.take j) : Nat) : Int) + (d.files[j].len : Nat)) = ((sizeD (d.files.take (j + 1)) : Nat) : Int) := by rw [hst, wrap_i64 (by omega) (by omega)]; omega
            simp only [k3_a, WK, vop, evAll, evOpt, evParts, vbuiltin, vun, vextract, Nat.reduceLT, Nat.reduceEqDiff, ↓reduceIte, reduceCtorEq, Nat.reduceAdd, Int.reduceLT, Int.reduceNeg, valloc_std, noSB, vhot, k85, k84, k83, k7, hjt', decide_true, ha, hl]
            refine KD.ret h8' ?_
            simp only [k3_a, WK, vop, evAll, evOpt, evParts, vbuiltin, vun, vextract, Nat.reduceLT, Nat.reduceEqDiff, ↓reduceIte, reduceCtorEq, Nat.reduceAdd, Int.reduceLT, Int.reduceNeg, valloc_std, noSB, vhot, k85, k14, hl8, hws, hwj]
            exact ⟨j + 1, ⟨by simp [upd_some], by omega, kk.trans' K8, by simp [upd_some]⟩, by omega⟩
          · have hjt' : ¬ (j : Int) < (d.files.length : Nat) := by omega
            have e4 : d.files.take j = d.files := List.take_of_length_le (by omega)
            rw [e4] at k14
            simp only [k3_a, WK, vop, evAll, evOpt, evParts, vbuiltin, vun, vextract, Nat.reduceLT, Nat.reduceEqDiff, ↓reduceIte, reduceCtorEq, Nat.reduceAdd, Int.reduceLT, Int.reduceNeg, valloc_std, noSB, vhot, k85, k84, k14, k8, hjt', decide_false, eq_self, decide_true]
    obtain ⟨r, σ', ⟨m, h⟩, rfl⟩ := key
    exact ⟨m, σ', h⟩
end Go.Proofs.Ytnbmfhnfmhgaaaa.Q

