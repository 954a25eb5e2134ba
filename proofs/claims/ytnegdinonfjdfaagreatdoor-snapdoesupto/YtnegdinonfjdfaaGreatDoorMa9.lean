/- A part of the proof: Zb, Zc, Zd, Ze, Zf, Zg, Zh, Zi, Zj, Zk, Va, Sg, Si, Sj, Vb, Vc, Vd, Ua, Ub, Ve, Vf, Vg, Vh, Vi, Zl. -/
import Derived.Test.YtnegdinonfjdfaaGreatDoorMa8
set_option linter.unusedVariables false
set_option linter.unusedSimpArgs false
set_option maxRecDepth 100000
namespace Go.Proofs.YtnegdinonfjdfaaGreatDoor.Q
open Go Go.RowKit Go.Proofs
theorem rready_does {σ : St} {r : Nat} {d : Dk} {q : Option Nat} {rs : List RE} (h : RefAt σ r d q rs) (n : List UInt8) : Does Tryz.prog prims 41 [.optr r 0, .str n] σ (.ret (.int .i64 (readyD d n : Nat))) σ := by
  apply k41_is.ret (by simp)
  obtain ⟨fv, h1, h2⟩ := h.hd
  have lo : vload Tryz.prog σ.objs 4 (.optr r 2) = some (.bool d.on) := by rw [vload_obj h1 G4]; rfl
  have e : vlen Tryz.prog 9 (.str n) = some (.int .i64 (n.length : Nat)) := by simp [vlen, T9]
  by_cases a1 : n.length < 1
  · have a1' : (n.length : Int) < 1 := by omega
    have hn : namedD n = false := by simp [namedD]; omega
    simp only [k41_a, WK, vop, evAll, evOpt, evParts, vbuiltin, vun, vextract, Nat.reduceLT, Nat.reduceEqDiff, ↓reduceIte, reduceCtorEq, Nat.reduceAdd, Int.reduceLT, Int.reduceNeg, valloc_std, noSB, vhot, gD0, gD1, e, a1', decide_true]
    simp [readyD, hn]
  · have a1' : ¬ (n.length : Int) < 1 := by omega
    by_cases a2 : 16 < n.length
    · have a2' : (16 : Int) < (n.length : Int) := by omega
      have hn : namedD n = false := by simp [namedD]; omega
      simp only [k41_a, WK, vop, evAll, evOpt, evParts, vbuiltin, vun, vextract, Nat.reduceLT, Nat.reduceEqDiff, ↓reduceIte, reduceCtorEq, Nat.reduceAdd, Int.reduceLT, Int.reduceNeg, valloc_std, noSB, vhot, gD0, gD1, e, a1', a2', decide_true, decide_false]
      simp [readyD, hn]
    · have a2' : ¬ (16 : Int) < (n.length : Int) := by omega
      have hn : namedD n = true := by simp [namedD]; omega
      simp only [k41_a, WK, vop, evAll, evOpt, evParts, vbuiltin, vun, vextract, Nat.reduceLT, Nat.reduceEqDiff, ↓reduceIte, reduceCtorEq, Nat.reduceAdd, Int.reduceLT, Int.reduceNeg, valloc_std, noSB, vhot, gD0, gD1, e, a1', a2', decide_false, rFA r 2 (by omega), lo]
      cases ho : d.on <;> simp [k41_a, WK, vop, evAll, evOpt, evParts, vbuiltin, vun, vextract, Nat.reduceLT, Nat.reduceEqDiff, ↓reduceIte, reduceCtorEq, Nat.reduceAdd, Int.reduceLT, Int.reduceNeg, valloc_std, noSB, vhot, readyD, hn, ho]
theorem rat_does {σ : St} {r : Nat} {d : Dk} {q : Option Nat} {rs : List RE} (h : RefAt σ r d q rs) (hfew : rs.length ≤ 1000000) (n : List UInt8) :
    ∃ p σ', Does Tryz.prog prims 42 [.optr r 0, .str n] σ p σ' ∧ KS [] σ σ' ∧ ((p = .ret (.int .i64 (-1)) ∧ ∀ x ∈ rs, x.f.name ≠ n) ∨ ∃ i, ∃ hi : i < rs.length, p = .ret (.int .i64 (i : Nat)) ∧ rs[i].f.name = n) := by
  apply k42_is.does (by simp)
  obtain ⟨fv, h1, h2⟩ := h.hd
  have lf : vload Tryz.prog σ.objs 46 (.optr r 0) = some fv := by rw [vload_obj h1 GFS]; rfl
  simp only [k42_a, WK, vop, evAll, evOpt, evParts, vbuiltin, vun, vextract, Nat.reduceLT, Nat.reduceEqDiff, ↓reduceIte, reduceCtorEq, Nat.reduceAdd, Int.reduceLT, Int.reduceNeg, valloc_std, noSB, vhot, gD0, gD1, rFA r 0 (by omega), lf, h2.len]
  refine Ev.loopF (fun (i : Nat) e s => e 12 = .int .i64 (i : Nat) ∧ i ≤ rs.length ∧ KS [] σ s ∧ ∀ x ∈ rs.take i, x.f.name ≠ n) (fun i => rs.length - i) 0 ⟨by simp [upd_some], Nat.zero_le _, KS.refl _ _, by simp⟩ ?_
  rintro i e s ⟨h12, hi, hk, hno⟩ hf
  have h1' : e 1 = .str n := (hf 1 (by decide)).trans (by simp [upd_some])
  have h9 : e 10 = fv := (hf 10 (by decide)).trans (by simp [upd_some])
  have h10 : e 11 = .int .i64 (rs.length : Nat) := (hf 11 (by decide)).trans (by simp [upd_some])
  clear hf
  by_cases hlt : i < rs.length
  · have hlt' : (i : Int) < rs.length := by omega
    have hwi : IntKind.i64.wrap ((i : Int) + 1) = ((i + 1 : Nat) : Int) := by rw [show ((i : Int) + 1) = ((i + 1 : Nat) : Int) from by omega]; exact wrap_nat (by omega)
    obtain ⟨ro, _, _, ha, hl⟩ := (h2.keep hk fun x _ => by simp).at hlt
    have hx := h.ok rs[i] (List.getElem_mem hlt)
    obtain ⟨s1, hs1⟩ : ∃ s1 : St, s1 = ⟨s.objs ++ [.cells rs[i].cells], s.toks⟩ := ⟨_, rfl⟩
    have hst := fileNew (σ := s) hx
    rw [← hs1] at hst
    have K1 : KS [] s s1 := by rw [hs1]; exact KS.push _ _ _
    have ho : s1.objs[s.objs.length]? = some (.cells rs[i].cells) := by rw [hs1]; exact push_new _ _
    have hln : vload Tryz.prog s1.objs 9 (.optr s.objs.length 0) = some (.str rs[i].f.name) := by rw [vload_obj ho G9]; rfl
    have hz : vcells (V.agg [.str [], .nils, .nils]) = [.str [], .nils, .nils] := rfl
    by_cases he : rs[i].f.name = n
    · simp only [k42_a, WK, vop, evAll, evOpt, evParts, vbuiltin, vun, vextract, Nat.reduceLT, Nat.reduceEqDiff, ↓reduceIte, reduceCtorEq, Nat.reduceAdd, Int.reduceLT, Int.reduceNeg, valloc_std, noSB, vhot, h12, h10, h9, h1', hlt', decide_true, ha, hl, ZFi, vbox, hz, hst, fFA0, hln, sbE, he, eq_self]
      exact ⟨hk.trans' K1, .inr ⟨i, hlt, rfl, he⟩⟩
    · simp only [k42_a, WK, vop, evAll, evOpt, evParts, vbuiltin, vun, vextract, Nat.reduceLT, Nat.reduceEqDiff, ↓reduceIte, reduceCtorEq, Nat.reduceAdd, Int.reduceLT, Int.reduceNeg, valloc_std, noSB, vhot, h12, h10, h9, h1', hlt', decide_true, ha, hl, ZFi, vbox, hz, hst, fFA0, hln, sbE, he, decide_false, hwi]
      refine ⟨i + 1, ⟨by simp [upd_some], by omega, hk.trans' K1, fun x hx => ?_⟩, by omega⟩
      rw [List.take_succ_eq_append_getElem hlt, List.mem_append, List.mem_singleton] at hx
      rcases hx with hx | rfl
      · exact hno x hx
      · exact he
  · have hlt' : ¬ (i : Int) < rs.length := by omega
    have hall : rs.take i = rs := List.take_of_length_le (by omega)
    rw [hall] at hno
    simp only [k42_a, WK, vop, evAll, evOpt, evParts, vbuiltin, vun, vextract, Nat.reduceLT, Nat.reduceEqDiff, ↓reduceIte, reduceCtorEq, Nat.reduceAdd, Int.reduceLT, Int.reduceNeg, valloc_std, noSB, vhot, h12, h10, hlt', decide_false]
    exact ⟨hk, .inl hno⟩
theorem rsize_does {σ : St} {r : Nat} {d : Dk} {q : Option Nat} {rs : List RE} (h : RefAt σ r d q rs) (hok : d.Ok) :
    ∃ p σ', Does Tryz.prog prims 43 [.optr r 0] σ p σ' ∧ (p = .ret (.int .i64 (sizeD d.files : Nat)) ∧ KS [] σ σ') := by
  apply k43_is.does (by simp)
  obtain ⟨fv, h1, h2⟩ := h.hd
  have lf : vload Tryz.prog σ.objs 46 (.optr r 0) = some fv := by rw [vload_obj h1 GFS]; rfl
  have hsz : sizeD d.files = (rs.map fun x => x.f.len).sum := by rw [← h.fl, sizeD, List.map_map]; rfl
  have hfew : rs.length ≤ 16 := by have := hok.few; rw [← h.fl, List.length_map] at this; exact this
  have hmax := sizeD_le hok
  have hpart : ∀ i, ((rs.take i).map fun x => x.f.len).sum ≤ (rs.map fun x => x.f.len).sum := by
    intro i
    have := congrArg (fun l => (l.map fun x : RE => x.f.len).sum) (List.take_append_drop i rs)
    simp only [List.map_append, List.sum_append] at this
    omega
  simp only [k43_a, WK, vop, evAll, evOpt, evParts, vbuiltin, vun, vextract, Nat.reduceLT, Nat.reduceEqDiff, ↓reduceIte, reduceCtorEq, Nat.reduceAdd, Int.reduceLT, Int.reduceNeg, valloc_std, noSB, vhot, gD0, gD1, rFA r 0 (by omega), lf, h2.len]
  refine Ev.loopF (fun (i : Nat) e s => e 11 = .int .i64 (i : Nat) ∧ i ≤ rs.length ∧ KS [] σ s ∧ e 3 = .int .i64 (((rs.take i).map fun x => x.f.len).sum : Nat)) (fun i => rs.length - i) 0 ⟨by simp [upd_some], Nat.zero_le _, KS.refl _ _, by simp [upd_some]⟩ ?_
  rintro i e s ⟨h12, hi, hk, h3⟩ hf
  have h9 : e 9 = fv := (hf 9 (by decide)).trans (by simp [upd_some])
  have h10 : e 10 = .int .i64 (rs.length : Nat) := (hf 10 (by decide)).trans (by simp [upd_some])
  clear hf
  by_cases hlt : i < rs.length
  · have hlt' : (i : Int) < rs.length := by omega
    have hwi : IntKind.i64.wrap ((i : Int) + 1) = ((i + 1 : Nat) : Int) := by rw [show ((i : Int) + 1) = ((i + 1 : Nat) : Int) from by omega]; exact wrap_nat (by omega)
    obtain ⟨ro, _, _, ha, hl⟩ := (h2.keep hk fun x _ => by simp).at hlt
    have hx := h.ok rs[i] (List.getElem_mem hlt)
    obtain ⟨s1, hs1⟩ : ∃ s1 : St, s1 = ⟨s.objs ++ [.cells rs[i].cells], s.toks⟩ := ⟨_, rfl⟩
    have hst := fileNew (σ := s) hx
    rw [← hs1] at hst
    have K1 : KS [] s s1 := by rw [hs1]; exact KS.push _ _ _
    have ho : s1.objs[s.objs.length]? = some (.cells rs[i].cells) := by rw [hs1]; exact push_new _ _
    have hl1 : vload Tryz.prog s1.objs 30 (.optr s.objs.length 1) = some rs[i].s := by rw [vload_obj ho pGB]; rfl
    have hl2 : vload Tryz.prog s1.objs 30 (.optr s.objs.length 2) = some rs[i].w := by rw [vload_obj ho pGB]; rfl
    have hz : vcells (V.agg [.str [], .nils, .nils]) = [.str [], .nils, .nils] := rfl
    have hstep : ((rs.take (i + 1)).map fun x => x.f.len).sum = ((rs.take i).map fun x => x.f.len).sum + rs[i].f.safe.length + rs[i].f.wait.length := by
      rw [List.take_succ_eq_append_getElem hlt, List.map_append, List.sum_append]
      simp only [List.map_cons, List.map_nil, List.sum_cons, List.sum_nil, Fl.len]
      omega
    have hle := hpart (i + 1)
    have w1 : IntKind.i64.wrap ((((rs.take i).map fun x => x.f.len).sum : Nat) + (rs[i].f.safe.length : Nat) : Int) = ((((rs.take i).map fun x => x.f.len).sum + rs[i].f.safe.length : Nat) : Int) := by rw [wrap_i64 (by omega) (by omega)]; omega
    have w2 : IntKind.i64.wrap (((((rs.take i).map fun x => x.f.len).sum + rs[i].f.safe.length : Nat) : Int) + (rs[i].f.wait.length : Nat)) = ((((rs.take (i + 1)).map fun x => x.f.len).sum : Nat) : Int) := by rw [hstep, wrap_i64 (by omega) (by omega)]; omega
    simp only [k43_a, WK, vop, evAll, evOpt, evParts, vbuiltin, vun, vextract, Nat.reduceLT, Nat.reduceEqDiff, ↓reduceIte, reduceCtorEq, Nat.reduceAdd, Int.reduceLT, Int.reduceNeg, valloc_std, noSB, vhot, h12, h10, h9, h3, hlt', decide_true, ha, hl, ZFi, vbox, hz, hst, fFA1, fFA2, Nat.zero_add, hl1, hl2, hx.1.len T22, hx.2.len T22, w1, w2, hwi]
    exact ⟨i + 1, ⟨by simp [upd_some], by omega, hk.trans' K1, by simp [upd_some]⟩, by omega⟩
  · have hlt' : ¬ (i : Int) < rs.length := by omega
    have hall : rs.take i = rs := List.take_of_length_le (by omega)
    rw [hall, ← hsz] at h3
    simp only [k43_a, WK, vop, evAll, evOpt, evParts, vbuiltin, vun, vextract, Nat.reduceLT, Nat.reduceEqDiff, ↓reduceIte, reduceCtorEq, Nat.reduceAdd, Int.reduceLT, Int.reduceNeg, valloc_std, noSB, vhot, h12, h10, h3, hlt', decide_false]
    exact hk
theorem rraw_does {σ : St} {r : Nat} {d : Dk} {q : Option Nat} {rs : List RE} (h : RefAt σ r d q rs) (hok : d.Ok) (hw : d.writes < 4611686018427387904) :
    ∃ σ', Does Tryz.prog prims 45 [.optr r 0] σ (.ret (.bool (rawD d).1)) σ' ∧ RefAt σ' r (rawD d).2 q rs ∧ KS (r :: q.toList) σ σ' := by
  have key : ∃ p σ', Does Tryz.prog prims 45 [.optr r 0] σ p σ' ∧ (p = .ret (.bool (rawD d).1) ∧ RefAt σ' r (rawD d).2 q rs ∧ KS (r :: q.toList) σ σ') := by
    apply k45_is.does (by simp)
    obtain ⟨fv, h1, h2⟩ := h.hd
    have hww : IntKind.i64.wrap ((d.writes : Int) + 1) = ((d.writes + 1 : Nat) : Int) := by rw [show (d.writes : Int) + 1 = ((d.writes + 1 : Nat) : Int) by omega]; exact wrap_nat (by omega)
    have l1 : vload Tryz.prog σ.objs 3 (.optr r 3) = some (.int .i64 (d.writes : Nat)) := by rw [vload_obj h1 G3]; rfl
    obtain ⟨d1, hd1⟩ : ∃ d1 : Dk, d1 = { d with writes := d.writes + 1 } := ⟨_, rfl⟩
    obtain ⟨s1, hs1⟩ : ∃ s1 : St, s1 = ⟨σ.objs.set r (.cells [fv, .int .i64 d1.room, .bool d1.on, .int .i64 (d1.writes : Nat), .int .i64 (d1.armed : Nat), .int .i64 d1.keep]), σ.toks⟩ := ⟨_, rfl⟩
    have st1 : vstore Tryz.prog σ 3 (.optr r 3) (.int .i64 ((d.writes + 1 : Nat) : Int)) = some s1 := by rw [vstore_obj h1 S3 rfl (by simp), hs1, hd1]; rfl
    obtain ⟨D1, K1⟩ := h.head (d2 := d1) (by rw [hd1]) h2 hs1
    have o1 : s1.objs[r]? = some (.cells [fv, .int .i64 d1.room, .bool d1.on, .int .i64 (d1.writes : Nat), .int .i64 (d1.armed : Nat), .int .i64 d1.keep]) := by rw [hs1]; exact obj_set h1
    have l2 : vload Tryz.prog s1.objs 3 (.optr r 4) = some (.int .i64 (d.armed : Nat)) := by rw [vload_obj o1 G3, hd1]; rfl
    simp only [k45_a, WK, vop, evAll, evOpt, evParts, vbuiltin, vun, vextract, Nat.reduceLT, Nat.reduceEqDiff, ↓reduceIte, reduceCtorEq, Nat.reduceAdd, Int.reduceLT, Int.reduceNeg, valloc_std, noSB, vhot, gD0, rFA r 3 (by omega), rFA r 4 (by omega), l1, hww, st1, l2]
    by_cases ha : d.armed = 0
    · have ha' : ((d.armed : Nat) : Int) = 0 := by omega
      have e : rawD d = (false, d1) := by simp [rawD, ha, hd1]
      simp only [k45_a, WK, vop, evAll, evOpt, evParts, vbuiltin, vun, vextract, Nat.reduceLT, Nat.reduceEqDiff, ↓reduceIte, reduceCtorEq, Nat.reduceAdd, Int.reduceLT, Int.reduceNeg, valloc_std, noSB, vhot, ha', decide_true, e]
      exact ⟨D1, K1⟩
    · have ha' : ¬ ((d.armed : Nat) : Int) = 0 := by omega
      have hwa : IntKind.i64.wrap ((d.armed : Int) - 1) = ((d.armed - 1 : Nat) : Int) := by
        have := hok.arm
        rw [show (d.armed : Int) - 1 = ((d.armed - 1 : Nat) : Int) by omega]; exact wrap_nat (by omega)
      obtain ⟨d2, hd2⟩ : ∃ d2 : Dk, d2 = { d with writes := d.writes + 1, armed := d.armed - 1 } := ⟨_, rfl⟩
      obtain ⟨s2, hs2⟩ : ∃ s2 : St, s2 = ⟨s1.objs.set r (.cells [fv, .int .i64 d2.room, .bool d2.on, .int .i64 (d2.writes : Nat), .int .i64 (d2.armed : Nat), .int .i64 d2.keep]), s1.toks⟩ := ⟨_, rfl⟩
      have st2 : vstore Tryz.prog s1 3 (.optr r 4) (.int .i64 ((d.armed - 1 : Nat) : Int)) = some s2 := by rw [vstore_obj o1 S3 rfl (by simp), hs2, hd1, hd2]; rfl
      obtain ⟨D2, K2⟩ := D1.head (d2 := d2) (by rw [hd1, hd2]) (h2.keep (S := [r]) (by rw [hs1]; exact KS.set (.inl (by simp)) _) fun x hx hx2 => h.ne (by rw [List.mem_singleton] at hx2; rw [← hx2]; exact hx)) hs2
      have o2 : s2.objs[r]? = some (.cells [fv, .int .i64 d2.room, .bool d2.on, .int .i64 (d2.writes : Nat), .int .i64 (d2.armed : Nat), .int .i64 d2.keep]) := by rw [hs2]; exact obj_set o1
      have l3 : vload Tryz.prog s2.objs 3 (.optr r 4) = some (.int .i64 ((d.armed - 1 : Nat) : Int)) := by rw [vload_obj o2 G3, hd2]; rfl
      have e : rawD d = (decide (d.armed = 1), d2) := by simp [rawD, ha, hd2]
      simp only [k45_a, WK, vop, evAll, evOpt, evParts, vbuiltin, vun, vextract, Nat.reduceLT, Nat.reduceEqDiff, ↓reduceIte, reduceCtorEq, Nat.reduceAdd, Int.reduceLT, Int.reduceNeg, valloc_std, noSB, vhot, rFA r 3 (by omega), rFA r 4 (by omega), ha', decide_false, hwa, st2, l3, l2, e]
      refine ⟨?_, D2, K1.trans' K2⟩
      congr 2
      by_cases h1 : d.armed = 1
      · simp [h1]
      · have : ¬ ((d.armed - 1 : Nat) : Int) = 0 := by omega
        simp [h1]; omega
  obtain ⟨p, σ', h1, rfl, h2⟩ := key
  exact ⟨σ', h1, h2⟩
theorem KS.ofKeep {σ σ' : St} (h : Keep σ σ') : KS [] σ σ' := h.ks []
theorem copy2 {σ : St} {v w : V} {bs ys : List UInt8} (hv : RB σ v bs) (hw : RB σ w ys) (hl : bs.length + ys.length ≤ 140737488300000) :
    ∃ v1 σ1 v2 σ2, vappend Tryz.prog σ 30 30 (.slice .exact 1 [] 0) v = some (v1, σ1) ∧ vappend Tryz.prog σ1 30 30 v1 w = some (v2, σ2) ∧ BtsV v1 bs ∧ BtsV v2 (bs ++ ys) ∧ KS [] σ σ1 ∧ KS [] σ σ2 ∧ σ1.objs = σ.objs ∧ σ2.objs = σ.objs := by
  have ho1 : OwnV 5 σ.toks.length σ (.slice .exact 1 [] 0) [] := .inr ⟨_, rfl, .inl rfl⟩
  obtain ⟨v1, σ1, h1, h2, h3, h4⟩ := ho1.toR.appendO BT.row rfl (Keep.refl σ) (hv.news) (by simp) (byteV_one bs) (by simp; omega) (by simp; omega)
  rw [List.map_nil, List.nil_append] at h2
  have hv1 := OwnR.toV h2
  have hw1 : RB σ1 w ys := hw.keep h3
  obtain ⟨v2, σ2, g1, g2, g3, g4⟩ := hv1.toR.appendO BT.row rfl h3 hw1.news (by simp) (byteV_one ys) (by omega) (by omega)
  rw [← List.map_append] at g2
  exact ⟨v1, σ1, v2, σ2, h1, g1, hv1.bts, (OwnR.toV g2).bts, KS.ofKeep h3, KS.ofKeep g3, h4, by rw [g4, h4]⟩
theorem fb0 : vbuildSlice Tryz.prog 30 0 [] = some (.slice .exact 1 [] 0) := by kernel_rfl
theorem fb1 (b : UInt8) : vbuildSlice Tryz.prog 30 1 [(0, byteV b)] = some (.slice .exact 1 [byteV b] 1) := by kernel_rfl
def putI (x : Fl) (pre : List RE) : List RE := pre.filter fun g => decide (g.f.name < x.name)
def putJ (x : Fl) (pre : List RE) : List RE := pre.filter fun g => decide (x.name < g.f.name)
theorem put_fl {x : RE} {rs : List RE} : (putI x.f rs ++ x :: putJ x.f rs).map RE.f = putF x.f (rs.map RE.f) := by
  unfold putI putJ putF
  rw [List.map_append, List.map_cons, List.filter_map, List.filter_map]
  rfl
theorem put_does' {σ : St} {r : Nat} {d : Dk} {q : Option Nat} {rs : List RE} {x : RE} (h : RefAt σ r d q rs) (hok : d.Ok) (hx : x.Ok) :
    ∃ p σ', Does Tryz.prog prims 44 [.optr r 0, .agg x.cells] σ p σ' ∧ (p = .ret (.tuple []) ∧ RNext σ r q σ' { d with files := putF x.f d.files }) := by
  apply k44_is.does (by simp)
  have hfew : rs.length ≤ 16 := by have := hok.few; rw [← h.fl, List.length_map] at this; exact this
  have hrise : rs.Pairwise fun a b => a.f.name < b.f.name := by
    have := hok.rise
    rw [← h.fl, List.pairwise_map] at this
    exact this
  obtain ⟨s0, hs0⟩ : ∃ s0 : St, s0 = ⟨σ.objs ++ [.cells x.cells], σ.toks⟩ := ⟨_, rfl⟩
  have K0 : KS [] σ s0 := by rw [hs0]; exact KS.push _ _ _
  have H0 : RefAt s0 r d q rs := h.keep K0 fun x _ => by simp
  have L0 : s0.objs.length = σ.objs.length + 1 := by rw [hs0]; simp
  have B0 : s0.objs[σ.objs.length]? = some (.cells x.cells) := by rw [hs0]; exact push_new _ _
  obtain ⟨fv, h1, h2⟩ := H0.hd
  have lf : vload Tryz.prog s0.objs 46 (.optr r 0) = some fv := by rw [vload_obj h1 GFS]; rfl
  have hcx : vcells (.agg x.cells) = x.cells := rfl
  simp only [k44_a, WK, vop, evAll, evOpt, evParts, vbuiltin, vun, vextract, Nat.reduceLT, Nat.reduceEqDiff, ↓reduceIte, reduceCtorEq, Nat.reduceAdd, Int.reduceLT, Int.reduceNeg, valloc_std, noSB, vhot, gD0, gD1, vbox, hcx, ← hs0, nilEP, rFA r 0 (by omega), lf, h2.len]
  refine Ev.loopF (fun (i : Nat) e s => ∃ q', e 13 = .int .i64 (i : Nat) ∧ i ≤ rs.length ∧ KS [] s0 s ∧ e 5 = .bool ((rs.take i).any fun g => decide (x.f.name < g.f.name)) ∧ RRow s.objs (e 4) q' (putI x.f (rs.take i) ++ if ((rs.take i).any fun g => decide (x.f.name < g.f.name)) = true then x :: putJ x.f (rs.take i) else []) ∧ ∀ z ∈ q'.toList, s0.objs.length ≤ z) (fun i => rs.length - i) 0 ⟨none, by simp [upd_some], Nat.zero_le _, KS.refl _ _, by simp [upd_some], by simp [upd_some, putI, RRow], fun z hz => by cases hz⟩ ?_
  rintro i e s ⟨q', h13, hi, hk, h5, h4, hq'⟩ hf
  have h0 : e 0 = .optr r 0 := (hf 0 (by decide)).trans (by simp [upd_some])
  have h3 : e 3 = .optr σ.objs.length 0 := (hf 3 (by decide)).trans (by simp [upd_some])
  have h11 : e 11 = fv := (hf 11 (by decide)).trans (by simp [upd_some])
  have h12 : e 12 = .int .i64 (rs.length : Nat) := (hf 12 (by decide)).trans (by simp [upd_some])
  clear hf
  have Bs : s.objs[σ.objs.length]? = some (.cells x.cells) := hk.ko _ _ (by simp) B0
  have hokp : ∀ g ∈ putI x.f (rs.take i) ++ (if ((rs.take i).any fun g => decide (x.f.name < g.f.name)) = true then x :: putJ x.f (rs.take i) else []), g.Ok := by
    intro g hg
    rcases List.mem_append.1 hg with hg | hg
    · exact h.ok g (List.mem_of_mem_take (List.mem_filter.1 hg).1)
    · split at hg
      · rcases List.mem_cons.1 hg with rfl | hg
        · exact hx
        · exact h.ok g (List.mem_of_mem_take (List.mem_filter.1 hg).1)
      · cases hg
  have hlenp : (putI x.f (rs.take i) ++ (if ((rs.take i).any fun g => decide (x.f.name < g.f.name)) = true then x :: putJ x.f (rs.take i) else [])).length ≤ 100 := by
    have e1 := List.length_filter_le (fun g : RE => decide (g.f.name < x.f.name)) (rs.take i)
    have e2 := List.length_filter_le (fun g : RE => decide (x.f.name < g.f.name)) (rs.take i)
    have e3 : (rs.take i).length ≤ 16 := by rw [List.length_take]; omega
    rw [List.length_append]
    unfold putI putJ
    split
    · rw [List.length_cons]; omega
    · simp only [List.length_nil]; omega
  by_cases hlt : i < rs.length
  · have hlt' : (i : Int) < rs.length := by omega
    have hwi : IntKind.i64.wrap ((i : Int) + 1) = ((i + 1 : Nat) : Int) := by rw [show ((i : Int) + 1) = ((i + 1 : Nat) : Int) from by omega]; exact wrap_nat (by omega)
    obtain ⟨ro, _, _, ha, hl⟩ := (h2.keep hk fun x _ => by simp).at hlt
    obtain ⟨g, hg⟩ : ∃ g, g = rs[i] := ⟨_, rfl⟩
    rw [← hg] at hl
    have hgo := h.ok rs[i] (List.getElem_mem hlt)
    rw [← hg] at hgo
    have htk : rs.take (i + 1) = rs.take i ++ [g] := by rw [List.take_succ_eq_append_getElem hlt, hg]
    have hpre : ∀ a ∈ rs.take i, a.f.name < g.f.name := by
      intro a ham
      obtain ⟨j, hj, rfl⟩ := List.mem_iff_getElem.1 ham
      rw [List.length_take] at hj
      rw [List.getElem_take, hg]
      exact List.pairwise_iff_getElem.1 hrise j i (by omega) hlt (by omega)
    obtain ⟨s1, hs1⟩ : ∃ s1 : St, s1 = ⟨s.objs ++ [.cells g.cells], s.toks⟩ := ⟨_, rfl⟩
    have hst := fileNew (σ := s) hgo
    rw [← hs1] at hst
    have K1 : KS [] s s1 := by rw [hs1]; exact KS.push _ _ _
    have L1 : s.objs.length ≤ s1.objs.length := K1.le
    have ho : s1.objs[s.objs.length]? = some (.cells g.cells) := by rw [hs1]; exact push_new _ _
    have B1 := K1.ko _ _ (by simp) Bs
    have hz : vcells (V.agg [.str [], .nils, .nils]) = [.str [], .nils, .nils] := rfl
    have R1 : RRow s1.objs (e 4) q' (putI x.f (rs.take i) ++ if ((rs.take i).any fun g => decide (x.f.name < g.f.name)) = true then x :: putJ x.f (rs.take i) else []) := h4.keep K1 fun x _ => by simp
    have hq1 : ∀ z ∈ q'.toList, z < s.objs.length := h4.lt
    have lx : vload Tryz.prog s1.objs 9 (.optr σ.objs.length 0) = some (.str x.f.name) := by rw [vload_obj B1 G9]; rfl
    have lg : vload Tryz.prog s1.objs 9 (.optr s.objs.length 0) = some (.str g.f.name) := by rw [vload_obj ho G9]; rfl
    have ax : vload Tryz.prog s1.objs 81 (.optr σ.objs.length 0) = some (.agg x.cells) := vload_agg B1 GFi (by rw [SFi]; rfl)
    have ag : vload Tryz.prog s1.objs 81 (.optr s.objs.length 0) = some (.agg g.cells) := vload_agg ho GFi (by rw [SFi]; rfl)
    have hany : ((rs.take (i + 1)).any fun g => decide (x.f.name < g.f.name)) = (((rs.take i).any fun g => decide (x.f.name < g.f.name)) || decide (x.f.name < g.f.name)) := by rw [htk, List.any_append]; simp
    have hI : putI x.f (rs.take (i + 1)) = putI x.f (rs.take i) ++ if g.f.name < x.f.name then [g] else [] := by
      unfold putI; rw [htk, List.filter_append, List.filter_cons]
      by_cases h : g.f.name < x.f.name <;> simp [h]
    have hJ : putJ x.f (rs.take (i + 1)) = putJ x.f (rs.take i) ++ if x.f.name < g.f.name then [g] else [] := by
      unfold putJ; rw [htk, List.filter_append, List.filter_cons]
      by_cases h : x.f.name < g.f.name <;> simp [h]
    have hJ0 : ((rs.take i).any fun g => decide (x.f.name < g.f.name)) = false → putJ x.f (rs.take i) = [] := by
      intro h
      unfold putJ
      rw [List.filter_eq_nil_iff]
      intro a ha h2
      have := List.any_eq_false.1 h a ha
      exact this h2
    have hdone : ((rs.take i).any fun g => decide (x.f.name < g.f.name)) = true → x.f.name < g.f.name := by
      intro h
      obtain ⟨a, ha, h2⟩ := List.any_eq_true.1 h
      exact lt_trans' (of_decide_eq_true h2) (hpre a ha)
    -- an append of g alone
    have push1 : ∃ y t1 v' q2 t2, vbuildRow Tryz.prog s1 46 1 [(0, .agg g.cells)] = some (y, t1) ∧ vappendRow Tryz.prog t1 46 46 (e 4) y = some (v', t2) ∧ RRow t2.objs v' q2 ((putI x.f (rs.take i) ++ if ((rs.take i).any fun g => decide (x.f.name < g.f.name)) = true then x :: putJ x.f (rs.take i) else []) ++ [g]) ∧ KS [] s0 t2 ∧ ∀ z ∈ q2.toList, s0.objs.length ≤ z := by
      obtain ⟨y, t1, v', q2, t2, p1, p2, p3, p4, p5⟩ := R1.push hokp hgo (by omega)
      have := hk.le
      exact ⟨y, t1, v', q2, t2, p1, p2, p3, (hk.trans' K1).trans p4 fun x hx => .inr (hq' x hx), fun z hz => by have := p5 z hz; omega⟩
    by_cases hxg : x.f.name < g.f.name
    · have hgx : ¬ g.f.name < x.f.name := fun h => lt_irrefl' _ (lt_trans' h hxg)
      have hne : ¬ g.f.name = x.f.name := fun h => by rw [h] at hxg; exact lt_irrefl' _ hxg
      have hany1 : ((rs.take (i + 1)).any fun g => decide (x.f.name < g.f.name)) = true := by rw [hany, decide_eq_true hxg, Bool.or_true]
      cases hb : ((rs.take i).any fun g => decide (x.f.name < g.f.name)) with
      | true =>
        rw [hb] at h5 push1
        obtain ⟨y, t1, v', q2, t2, p1, p2, p3, p4, p5⟩ := push1
        simp only [k44_a, WK, vop, evAll, evOpt, evParts, vbuiltin, vun, vextract, Nat.reduceLT, Nat.reduceEqDiff, ↓reduceIte, reduceCtorEq, Nat.reduceAdd, Int.reduceLT, Int.reduceNeg, valloc_std, noSB, vhot, h13, h12, h11, h5, h3, hlt', decide_true, decide_false, ha, hl, ZFi, vbox, hz, hst, fFA0, lx, lg, sbN, sbL, hne, hxg, ax, ag, p1, p2, hwi]
        refine ⟨i + 1, ⟨q2, by simp [upd_some], by omega, p4, by simp [upd_some, hany1], ?_, p5⟩, by omega⟩
        rw [hany1, hI, hJ, if_neg hgx, if_pos hxg]
        simpa [upd_some] using p3
      | false =>
        rw [hb] at h5 hokp R1 hlenp
        obtain ⟨y, t1, v', q2, t2, p1, p2, p3, p4, p5⟩ := R1.push hokp hx (by omega)
        have hs0le := hk.le
        have K2 : KS [] s0 t2 := (hk.trans' K1).trans p4 fun x hx => .inr (hq' x hx)
        have lg2 : t2.objs[s.objs.length]? = some (.cells g.cells) := p4.ko _ _ (fun hm => by have := hq1 _ hm; omega) ho
        have lx2 : t2.objs[σ.objs.length]? = some (.cells x.cells) := K2.ko _ _ (by simp) B0
        have mg : vload Tryz.prog t2.objs 9 (.optr s.objs.length 0) = some (.str g.f.name) := by rw [vload_obj lg2 G9]; rfl
        have mx : vload Tryz.prog t2.objs 9 (.optr σ.objs.length 0) = some (.str x.f.name) := by rw [vload_obj lx2 G9]; rfl
        have ag2 : vload Tryz.prog t2.objs 81 (.optr s.objs.length 0) = some (.agg g.cells) := vload_agg lg2 GFi (by rw [SFi]; rfl)
        have hok2 : ∀ a ∈ (putI x.f (rs.take i) ++ if false = true then x :: putJ x.f (rs.take i) else []) ++ [x], a.Ok := by
          intro a ha
          rcases List.mem_append.1 ha with h | h
          · exact hokp a h
          · rw [List.mem_singleton] at h; subst h; exact hx
        obtain ⟨y2, u1, w', q3, u2, r1, r2, r3, r4, r5⟩ := p3.push hok2 hgo (by rw [List.length_append]; simp only [List.length_cons, List.length_nil]; omega)
        have hJe := hJ0 hb
        simp only [k44_a, WK, vop, evAll, evOpt, evParts, vbuiltin, vun, vextract, Nat.reduceLT, Nat.reduceEqDiff, ↓reduceIte, reduceCtorEq, Nat.reduceAdd, Int.reduceLT, Int.reduceNeg, valloc_std, noSB, vhot, h13, h12, h11, h5, h3, hlt', decide_true, decide_false, ha, hl, ZFi, vbox, hz, hst, fFA0, lx, lg, sbN, sbL, hne, hxg, ax, ag, p1, p2, mg, mx, ag2, r1, r2, hwi, Bool.not_false, Bool.not_true]
        refine ⟨i + 1, ⟨q3, by simp [upd_some], by omega, K2.trans r4 fun x hx => .inr (by have := p5 x hx; have := K1.le; omega), by simp [upd_some, hany1], ?_, fun z hz => by have := r5 z hz; have := K2.le; omega⟩, by omega⟩
        rw [hany1, hI, hJ, if_neg hgx, if_pos hxg, hJe]
        simpa [upd_some] using r3
    · have hb : ((rs.take i).any fun g => decide (x.f.name < g.f.name)) = false := by
        cases hb : ((rs.take i).any fun g => decide (x.f.name < g.f.name)) with
        | false => rfl
        | true => exact absurd (hdone hb) hxg
      have hany1 : ((rs.take (i + 1)).any fun g => decide (x.f.name < g.f.name)) = false := by rw [hany, hb, decide_eq_false hxg]; rfl
      rw [hb] at h5 push1 R1
      by_cases hne : g.f.name = x.f.name
      · have hgx : ¬ g.f.name < x.f.name := fun h => by rw [hne] at h; exact lt_irrefl' _ h
        simp only [k44_a, WK, vop, evAll, evOpt, evParts, vbuiltin, vun, vextract, Nat.reduceLT, Nat.reduceEqDiff, ↓reduceIte, reduceCtorEq, Nat.reduceAdd, Int.reduceLT, Int.reduceNeg, valloc_std, noSB, vhot, h13, h12, h11, h5, h3, hlt', decide_true, decide_false, ha, hl, ZFi, vbox, hz, hst, fFA0, lx, lg, sbN, sbL, hne, hxg, ax, ag, hwi, Bool.not_false, Bool.not_true, eq_self, lt_irrefl']
        refine ⟨i + 1, ⟨q', by simp [upd_some], by omega, hk.trans' K1, by simp [upd_some, h5, hany1], ?_, hq'⟩, by omega⟩
        rw [hany1, hI, if_neg hgx]
        simpa [upd_some] using R1
      · have hgx : g.f.name < x.f.name := (lt_or hne).resolve_right hxg
        obtain ⟨y, t1, v', q2, t2, p1, p2, p3, p4, p5⟩ := push1
        simp only [k44_a, WK, vop, evAll, evOpt, evParts, vbuiltin, vun, vextract, Nat.reduceLT, Nat.reduceEqDiff, ↓reduceIte, reduceCtorEq, Nat.reduceAdd, Int.reduceLT, Int.reduceNeg, valloc_std, noSB, vhot, h13, h12, h11, h5, h3, hlt', decide_true, decide_false, ha, hl, ZFi, vbox, hz, hst, fFA0, lx, lg, sbN, sbL, hne, hxg, ax, ag, p1, p2, hwi, Bool.not_false, Bool.not_true]
        refine ⟨i + 1, ⟨q2, by simp [upd_some], by omega, p4, by simp [upd_some, h5, hany1], ?_, p5⟩, by omega⟩
        rw [hany1, hI, if_pos hgx]
        simpa [upd_some] using p3
  · have hlt' : ¬ (i : Int) < rs.length := by omega
    have hall : rs.take i = rs := List.take_of_length_le (by omega)
    rw [hall] at h5 h4 hokp hlenp
    have ax : vload Tryz.prog s.objs 81 (.optr σ.objs.length 0) = some (.agg x.cells) := vload_agg Bs GFi (by rw [SFi]; rfl)
    have hfin : ∀ (t : St) (v : V) (q2 : Option Nat), KS [] s0 t → RRow t.objs v q2 (putI x.f rs ++ x :: putJ x.f rs) → (∀ z ∈ q2.toList, s0.objs.length ≤ z) → ∃ t', vstore Tryz.prog t 46 (.optr r 0) v = some t' ∧ RNext σ r q t' { d with files := putF x.f d.files } := by
      intro t v q2 kt rt hq2
      have hrl := h.lt r (by simp)
      have o := kt.ko r _ (by simp) h1
      refine ⟨_, vstore_obj o SFS rt.one (by simp), q2, putI x.f rs ++ x :: putJ x.f rs, ⟨⟨v, by simp only; exact obj_set o, rt.keep (S := [r]) (KS.set (.inl (by simp)) _) fun z hz hz2 => ?_⟩, ?_, ?_, fun hz => ?_⟩, ((K0.trans' kt).mono (fun x hx => by cases hx)).trans' (KS.set (.inl (by simp)) _), fun z hz => ?_⟩
      · rw [List.mem_singleton] at hz2; have := hq2 z hz; omega
      · intro g hg
        rcases List.mem_append.1 hg with hg | hg
        · exact h.ok g (List.mem_filter.1 hg).1
        · rcases List.mem_cons.1 hg with rfl | hg
          · exact hx
          · exact h.ok g (List.mem_filter.1 hg).1
      · simp only; rw [put_fl, h.fl]
      · have := hq2 r hz; omega
      · rcases List.mem_cons.1 hz with rfl | hz
        · exact .inl (by simp)
        · have := hq2 z hz; exact .inr (by omega)
    cases hb : (rs.any fun g => decide (x.f.name < g.f.name)) with
    | true =>
      rw [hb] at h5 h4
      obtain ⟨t', g1, g2⟩ := hfin s (e 4) q' hk h4 hq'
      simp only [k44_a, WK, vop, evAll, evOpt, evParts, vbuiltin, vun, vextract, Nat.reduceLT, Nat.reduceEqDiff, ↓reduceIte, reduceCtorEq, Nat.reduceAdd, Int.reduceLT, Int.reduceNeg, valloc_std, noSB, vhot, h0, h13, h12, h5, h3, hlt', decide_false, Bool.not_true, rFA r 0 (by omega), g1]
      exact g2
    | false =>
      rw [hb] at h5 h4 hokp hlenp
      obtain ⟨y, t1, v', q2, t2, p1, p2, p3, p4, p5⟩ := h4.push hokp hx (by omega)
      have hJe : putJ x.f rs = [] := by
        unfold putJ
        rw [List.filter_eq_nil_iff]
        intro a ha h2
        exact List.any_eq_false.1 hb a ha h2
      obtain ⟨t', g1, g2⟩ := hfin t2 v' q2 (hk.trans p4 fun x hx => .inr (hq' x hx)) (by rw [hJe]; simpa using p3) (fun z hz => by have := p5 z hz; have := hk.le; omega)
      simp only [k44_a, WK, vop, evAll, evOpt, evParts, vbuiltin, vun, vextract, Nat.reduceLT, Nat.reduceEqDiff, ↓reduceIte, reduceCtorEq, Nat.reduceAdd, Int.reduceLT, Int.reduceNeg, valloc_std, noSB, vhot, h0, h13, h12, h5, h3, hlt', decide_false, Bool.not_false, ax, p1, p2, rFA r 0 (by omega), g1]
      exact g2
theorem drop_does' {σ : St} {r : Nat} {d : Dk} {q : Option Nat} {rs : List RE} {n : List UInt8} (h : RefAt σ r d q rs) (hok : d.Ok) :
    ∃ p σ', Does Tryz.prog prims 84 [.optr r 0, .str n] σ p σ' ∧ (p = .ret (.tuple []) ∧ RNext σ r q σ' { d with files := dropF n d.files }) := by
  apply k84_is.does (by simp)
  have hfew : rs.length ≤ 16 := by have := hok.few; rw [← h.fl, List.length_map] at this; exact this
  obtain ⟨fv, h1, h2⟩ := h.hd
  have lf : vload Tryz.prog σ.objs 46 (.optr r 0) = some fv := by rw [vload_obj h1 GFS]; rfl
  simp only [k84_a, WK, vop, evAll, evOpt, evParts, vbuiltin, vun, vextract, Nat.reduceLT, Nat.reduceEqDiff, ↓reduceIte, reduceCtorEq, Nat.reduceAdd, Int.reduceLT, Int.reduceNeg, valloc_std, noSB, vhot, gD0, gD1, nilEP, rFA r 0 (by omega), lf, h2.len]
  refine Ev.loopF (fun (i : Nat) e s => ∃ q', e 12 = .int .i64 (i : Nat) ∧ i ≤ rs.length ∧ KS [] σ s ∧ RRow s.objs (e 4) q' ((rs.take i).filter fun g => decide (g.f.name ≠ n)) ∧ ∀ z ∈ q'.toList, σ.objs.length ≤ z) (fun i => rs.length - i) 0 ⟨none, by simp [upd_some], Nat.zero_le _, KS.refl _ _, by simp [upd_some, RRow], fun z hz => by cases hz⟩ ?_
  rintro i e s ⟨q', h12, hi, hk, h4, hq'⟩ hf
  have h0 : e 0 = .optr r 0 := (hf 0 (by decide)).trans (by simp [upd_some])
  have h1' : e 1 = .str n := (hf 1 (by decide)).trans (by simp [upd_some])
  have h10 : e 10 = fv := (hf 10 (by decide)).trans (by simp [upd_some])
  have h11 : e 11 = .int .i64 (rs.length : Nat) := (hf 11 (by decide)).trans (by simp [upd_some])
  clear hf
  have hokp : ∀ g ∈ (rs.take i).filter (fun g => decide (g.f.name ≠ n)), g.Ok := fun g hg => h.ok g (List.mem_of_mem_take (List.mem_filter.1 hg).1)
  have hlenp : ((rs.take i).filter fun g => decide (g.f.name ≠ n)).length ≤ 100 := by
    have e1 := List.length_filter_le (fun g : RE => decide (g.f.name ≠ n)) (rs.take i)
    have e3 : (rs.take i).length ≤ 16 := by rw [List.length_take]; omega
    omega
  by_cases hlt : i < rs.length
  · have hlt' : (i : Int) < rs.length := by omega
    have hwi : IntKind.i64.wrap ((i : Int) + 1) = ((i + 1 : Nat) : Int) := by rw [show ((i : Int) + 1) = ((i + 1 : Nat) : Int) from by omega]; exact wrap_nat (by omega)
    obtain ⟨ro, _, _, ha, hl⟩ := (h2.keep hk fun x _ => by simp).at hlt
    obtain ⟨g, hg⟩ : ∃ g, g = rs[i] := ⟨_, rfl⟩
    rw [← hg] at hl
    have hgo := h.ok rs[i] (List.getElem_mem hlt)
    rw [← hg] at hgo
    have htk : rs.take (i + 1) = rs.take i ++ [g] := by rw [List.take_succ_eq_append_getElem hlt, hg]
    obtain ⟨s1, hs1⟩ : ∃ s1 : St, s1 = ⟨s.objs ++ [.cells g.cells], s.toks⟩ := ⟨_, rfl⟩
    have hst := fileNew (σ := s) hgo
    rw [← hs1] at hst
    have K1 : KS [] s s1 := by rw [hs1]; exact KS.push _ _ _
    have ho : s1.objs[s.objs.length]? = some (.cells g.cells) := by rw [hs1]; exact push_new _ _
    have hz : vcells (V.agg [.str [], .nils, .nils]) = [.str [], .nils, .nils] := rfl
    have R1 := h4.keep K1 fun x _ => by simp
    have lg : vload Tryz.prog s1.objs 9 (.optr s.objs.length 0) = some (.str g.f.name) := by rw [vload_obj ho G9]; rfl
    have ag : vload Tryz.prog s1.objs 81 (.optr s.objs.length 0) = some (.agg g.cells) := vload_agg ho GFi (by rw [SFi]; rfl)
    by_cases hne : g.f.name = n
    · simp only [k84_a, WK, vop, evAll, evOpt, evParts, vbuiltin, vun, vextract, Nat.reduceLT, Nat.reduceEqDiff, ↓reduceIte, reduceCtorEq, Nat.reduceAdd, Int.reduceLT, Int.reduceNeg, valloc_std, noSB, vhot, h12, h11, h10, h1', hlt', decide_true, decide_false, ha, hl, ZFi, vbox, hz, hst, fFA0, lg, sbN, hne, eq_self, hwi, Bool.not_true]
      refine ⟨i + 1, ⟨q', by simp [upd_some], by omega, hk.trans' K1, ?_, hq'⟩, by omega⟩
      rw [htk, List.filter_append, List.filter_cons]
      simpa [upd_some, hne] using R1
    · obtain ⟨y, t1, v', q2, t2, p1, p2, p3, p4, p5⟩ := R1.push hokp hgo (by omega)
      have := (hk.trans' K1).le
      simp only [k84_a, WK, vop, evAll, evOpt, evParts, vbuiltin, vun, vextract, Nat.reduceLT, Nat.reduceEqDiff, ↓reduceIte, reduceCtorEq, Nat.reduceAdd, Int.reduceLT, Int.reduceNeg, valloc_std, noSB, vhot, h12, h11, h10, h1', hlt', decide_true, decide_false, ha, hl, ZFi, vbox, hz, hst, fFA0, lg, sbN, hne, ag, p1, p2, hwi, Bool.not_false]
      refine ⟨i + 1, ⟨q2, by simp [upd_some], by omega, (hk.trans' K1).trans p4 fun x hx => .inr (hq' x hx), ?_, fun z hz => by have := p5 z hz; omega⟩, by omega⟩
      rw [htk, List.filter_append, List.filter_cons]
      simpa [upd_some, hne] using p3
  · have hlt' : ¬ (i : Int) < rs.length := by omega
    have hall : rs.take i = rs := List.take_of_length_le (by omega)
    rw [hall] at h4 hokp
    have hrl := h.lt r (by simp)
    have o := hk.ko r _ (by simp) h1
    have hst := vstore_obj (off := 0) o SFS h4.one (by simp)
    simp only [k84_a, WK, vop, evAll, evOpt, evParts, vbuiltin, vun, vextract, Nat.reduceLT, Nat.reduceEqDiff, ↓reduceIte, reduceCtorEq, Nat.reduceAdd, Int.reduceLT, Int.reduceNeg, valloc_std, noSB, vhot, h0, h12, h11, hlt', decide_false, rFA r 0 (by omega), hst]
    refine ⟨q', rs.filter fun g => decide (g.f.name ≠ n), ⟨⟨e 4, by simp only; exact obj_set o, h4.keep (S := [r]) (KS.set (.inl (by simp)) _) fun z hz hz2 => ?_⟩, hokp, ?_, fun hz => ?_⟩, (hk.mono (fun x hx => by cases hx)).trans' (KS.set (.inl (by simp)) _), fun z hz => ?_⟩
    · rw [List.mem_singleton] at hz2; have := hq' z hz; omega
    · simp only
      rw [← h.fl, dropF, List.filter_map]
      rfl
    · have := hq' r hz; omega
    · rcases List.mem_cons.1 hz with rfl | hz
      · exact .inl (by simp)
      · exact .inr (hq' z hz)
theorem RRow.set {σ : St} {fv : V} {q : Option Nat} {rs : List RE} (h : RRow σ.objs fv q rs) {i : Nat} (hi : i < rs.length) {y : RE} (hy : y.Ok) : ∃ ro σ', q = some ro ∧ vindexAddr Tryz.prog 46 fv (.int .i64 (i : Int)) = some (.optr ro (i * 3)) ∧ vstore Tryz.prog σ 81 (.optr ro (i * 3)) (.agg y.cells) = some σ' ∧ RRow σ'.objs fv q (rs.set i y) ∧ KS q.toList σ σ' ∧ σ'.objs.length = σ.objs.length := by
  obtain ⟨ro, hq, ho, ha, hl⟩ := h.at hi
  have hle : i * 3 + 3 ≤ rs.length * 3 := by omega
  have hc : vcells (.agg y.cells) = y.cells := rfl
  have hflat : ∀ (l : List RE) (i : Nat), i < l.length → setAll (rcells l) (i * 3) y.cells = rcells (l.set i y) := by
    intro l
    induction l with
    | nil => intro i hi; simp at hi
    | cons a l ih =>
      intro i hi
      cases i with
      | zero => simp [rcells, RE.cells, setAll]
      | succ i =>
        have h1 := ih i (by simpa using hi)
        rw [setAll_take _ _ _ (by rw [rcells_len, RE.cells_len]; simp at hi; omega)] at h1
        rw [setAll_take _ _ _ (by rw [rcells_len, RE.cells_len]; simp at hi ⊢; omega)]
        have e1 : (i + 1) * 3 = 3 + i * 3 := by omega
        have e2 : rcells (a :: l) = a.cells ++ rcells l := rfl
        have e3 : a.cells.length = 3 := rfl
        have t1 : (a.cells ++ rcells l).take (3 + i * 3) = a.cells ++ (rcells l).take (i * 3) := by rw [← e3, List.take_length_add_append]
        have t2 : (a.cells ++ rcells l).drop (3 + i * 3 + y.cells.length) = (rcells l).drop (i * 3 + y.cells.length) := by
          rw [show 3 + i * 3 + y.cells.length = a.cells.length + (i * 3 + y.cells.length) by rw [e3]; omega, List.drop_length_add_append]
        rw [e1, e2, t1, t2, List.set_cons_succ]
        show _ = a.cells ++ rcells (l.set i y)
        rw [← h1]
        simp [List.append_assoc]
  refine ⟨ro, ⟨σ.objs.set ro (.cells (rcells (rs.set i y))), σ.toks⟩, hq, ha, ?_, ?_, KS.set (.inl (by simp [hq])) _, by simp⟩
  · simp only [vstore, ho, hc, RE.one hy, SFi, RE.cells_len, rcells_len]
    rw [if_pos ⟨trivial, by omega, trivial⟩, hflat rs i hi]
  · rcases h with ⟨_, _, rfl⟩ | ⟨ro', e1, e2, e3⟩
    · simp at hi
    · rw [hq] at e2
      injection e2 with e2
      subst e2
      exact .inr ⟨ro, by rw [List.length_set]; exact e1, hq, obj_set ho⟩
theorem vfile2 (n : List UInt8) (s : V) (h : one s = true) : vbuild Tryz.prog 81 [(0, .str n), (1, s)] = some (.agg [.str n, s, .nils]) := by
  cases s <;> first | (cases h; done) | kernel_rfl
theorem roff_does {σ : St} {r : Nat} {d : Dk} {q : Option Nat} {rs : List RE} {k : Int} (h : RefAt σ r d q rs) (hok : d.Ok) :
    ∃ p σ', Does Tryz.prog prims 21 [.optr r 0, .int .i64 k] σ p σ' ∧ (p = .ret (.tuple []) ∧ RNext σ r q σ' (offD k d)) := by
  apply k21_is.does (by simp)
  have hfew : rs.length ≤ 16 := by have := hok.few; rw [← h.fl, List.length_map] at this; exact this
  obtain ⟨fv, h1, h2⟩ := h.hd
  have lf : vload Tryz.prog σ.objs 46 (.optr r 0) = some fv := by rw [vload_obj h1 GFS]; rfl
  have lo : vload Tryz.prog σ.objs 4 (.optr r 2) = some (.bool d.on) := by rw [vload_obj h1 G4]; rfl
  cases hon : d.on with
  | false =>
    rw [hon] at lo
    have e : offD k d = d := by simp [offD, hon]
    simp only [k21_a, WK, vop, evAll, evOpt, evParts, vbuiltin, vun, vextract, Nat.reduceLT, Nat.reduceEqDiff, ↓reduceIte, reduceCtorEq, Nat.reduceAdd, Int.reduceLT, Int.reduceNeg, valloc_std, noSB, vhot, gD0, gD1, rFA r 2 (by omega), lo, Bool.not_false, e]
    exact RNext.refl h
  | true =>
    rw [hon] at lo
    have eO : offD k d = { d with files := d.files.map (offF k), on := false, armed := 0 } := by simp [offD, hon]
    simp only [k21_a, WK, vop, evAll, evOpt, evParts, vbuiltin, vun, vextract, Nat.reduceLT, Nat.reduceEqDiff, ↓reduceIte, reduceCtorEq, Nat.reduceAdd, Int.reduceLT, Int.reduceNeg, valloc_std, noSB, vhot, gD0, gD1, rFA r 2 (by omega), rFA r 0 (by omega), lo, lf, h2.len, Bool.not_true]
    have hsm : ∀ x ∈ rs, x.f.safe.length + x.f.wait.length ≤ 1048576 := fun x hx => hok.sm x.f (by rw [← h.fl]; exact List.mem_map_of_mem hx)
    refine Ev.loopF (fun (i : Nat) e s => ∃ ps : List RE, e 17 = .int .i64 (i : Nat) ∧ i ≤ rs.length ∧ KS q.toList σ s ∧ ps.length = i ∧ ps.map RE.f = ((rs.take i).map RE.f).map (offF k) ∧ (∀ x ∈ ps, x.Ok) ∧ RRow s.objs fv q (ps ++ rs.drop i)) (fun i => rs.length - i) 0 ⟨[], by simp [upd_some], Nat.zero_le _, KS.refl _ _, rfl, rfl, fun x hx => (by cases hx), by simpa using h2⟩ ?_
    rintro i e s ⟨ps, h17, hi, hk, hpl, hpm, hpo, hR⟩ hf
    have h0 : e 0 = .optr r 0 := (hf 0 (by decide)).trans (by simp [upd_some])
    have hk1 : e 1 = .int .i64 k := (hf 1 (by decide)).trans (by simp [upd_some])
    have h16 : e 16 = .int .i64 (rs.length : Nat) := (hf 16 (by decide)).trans (by simp [upd_some])
    clear hf
    have hro : ∀ t : St, KS q.toList σ t → t.objs[r]? = some (.cells [fv, .int .i64 d.room, .bool d.on, .int .i64 (d.writes : Nat), .int .i64 (d.armed : Nat), .int .i64 d.keep]) := fun t ht => ht.ko _ _ h.ne h1
    have lf2 : ∀ t : St, KS q.toList σ t → vload Tryz.prog t.objs 46 (.optr r 0) = some fv := fun t ht => by rw [vload_obj (hro t ht) GFS]; rfl
    by_cases hlt : i < rs.length
    · have hlt' : (i : Int) < rs.length := by omega
      have hwi : IntKind.i64.wrap ((i : Int) + 1) = ((i + 1 : Nat) : Int) := by rw [show ((i : Int) + 1) = ((i + 1 : Nat) : Int) from by omega]; exact wrap_nat (by omega)
      have hil : i < (ps ++ rs.drop i).length := by rw [List.length_append, List.length_drop]; omega
      obtain ⟨ro, hq, _, ha, hl⟩ := hR.at hil
      obtain ⟨g, hg⟩ : ∃ g, g = rs[i] := ⟨_, rfl⟩
      have hgi : (ps ++ rs.drop i)[i] = g := by
        rw [List.getElem_append_right (by omega)]
        simp [hpl, hg]
      rw [hgi] at hl
      have hgo := h.ok rs[i] (List.getElem_mem hlt)
      have hgs := hsm rs[i] (List.getElem_mem hlt)
      rw [← hg] at hgo hgs
      obtain ⟨s1, hs1⟩ : ∃ s1 : St, s1 = ⟨s.objs ++ [.cells g.cells], s.toks⟩ := ⟨_, rfl⟩
      have hst := fileNew (σ := s) hgo
      rw [← hs1] at hst
      have K1 : KS [] s s1 := by rw [hs1]; exact KS.push _ _ _
      have L1 : s1.objs.length = s.objs.length + 1 := by rw [hs1]; simp
      have ho : s1.objs[s.objs.length]? = some (.cells g.cells) := by rw [hs1]; exact push_new _ _
      have hz : vcells (V.agg [.str [], .nils, .nils]) = [.str [], .nils, .nils] := rfl
      have kN : KS q.toList σ s1 := hk.trans K1 fun x hx => by cases hx
      have hqlt : ∀ z ∈ q.toList, z < s.objs.length := hR.lt
      simp only [k21_a, WK, vop, evAll, evOpt, evParts, vbuiltin, vun, vextract, Nat.reduceLT, Nat.reduceEqDiff, ↓reduceIte, reduceCtorEq, Nat.reduceAdd, Int.reduceLT, Int.reduceNeg, valloc_std, noSB, vhot, h0, h17, h16, hlt', decide_true, rFA r 0 (by omega), lf2 s hk, ha, hl, ZFi, vbox, hz, hst]
      refine Ev.loopF (fun (j : Nat) e2 t => ∃ sv, e2 6 = .int .i64 (j : Nat) ∧ j ≤ min k.toNat g.f.wait.length ∧ KS [] s1 ⟨t.objs.set s.objs.length (.cells g.cells), t.toks⟩ ∧ t.objs[s.objs.length]? = some (.cells [.str g.f.name, sv, g.w]) ∧ BtsV sv (g.f.safe ++ g.f.wait.take j)) (fun j => min k.toNat g.f.wait.length - j) 0 ⟨g.s, by simp [upd_some], Nat.zero_le _, ?_, by simpa [RE.cells] using ho, by simpa using hgo.1⟩ ?_
      · have : s1.objs.set s.objs.length (.cells g.cells) = s1.objs := set_self ho
        rw [this]; exact KS.refl _ _
      rintro j e2 t ⟨sv, k6, hj, kt, kb, ksv⟩ hf2
      have k0 : e2 0 = .optr r 0 := (hf2 0 (by decide)).trans (by simp [upd_some, h0])
      have k1 : e2 1 = .int .i64 k := (hf2 1 (by decide)).trans (by simp [upd_some, hk1])
      have k4 : e2 4 = .int .i64 (i : Nat) := (hf2 4 (by decide)).trans (by simp [upd_some])
      have k5 : e2 5 = .optr s.objs.length 0 := (hf2 5 (by decide)).trans (by simp [upd_some])
      have k16 : e2 16 = .int .i64 (rs.length : Nat) := (hf2 16 (by decide)).trans (by simp [upd_some, h16])
      have k17 : e2 17 = .int .i64 (i : Nat) := (hf2 17 (by decide)).trans (by simp [upd_some, h17])
      clear hf2
      have ls : vload Tryz.prog t.objs 30 (.optr s.objs.length 1) = some sv := by rw [vload_obj kb pGB]; rfl
      have lw : vload Tryz.prog t.objs 30 (.optr s.objs.length 2) = some g.w := by rw [vload_obj kb pGB]; rfl
      have ln : vload Tryz.prog t.objs 9 (.optr s.objs.length 0) = some (.str g.f.name) := by rw [vload_obj kb G9]; rfl
      have hlenle : s.objs.length < t.objs.length := (gA0.1 kb).1
      have kts : KS [s.objs.length] s1 t := by
        refine ⟨fun p o hp ho => ?_, ?_, kt.tl, kt.tk⟩
        · have := kt.ko p o (by simp) ho
          simp only at this
          rw [List.mem_singleton] at hp
          rwa [gA3 (Ne.symm hp)] at this
        · have := kt.le; simpa using this
      have kσt : KS q.toList σ t := kN.trans kts fun x hx => .inr (by rw [List.mem_singleton] at hx; have := hk.le; omega)
      have hRt : RRow t.objs fv q (ps ++ rs.drop i) := hR.keep (K1.trans kts fun x hx => .inr (by rw [List.mem_singleton] at hx; omega)) fun x _ => by simp
      by_cases hjw : j < g.f.wait.length ∧ j < k.toNat
      · obtain ⟨hjw1, hjw2⟩ := hjw
        have hc1 : (j : Int) < (g.f.wait.length : Nat) := by omega
        have hc2 : (j : Int) < k := by omega
        have hwj : IntKind.i64.wrap ((j : Int) + 1) = ((j + 1 : Nat) : Int) := by rw [show ((j : Int) + 1) = ((j + 1 : Nat) : Int) from by omega]; exact wrap_nat (by omega)
        obtain ⟨b, hb⟩ : ∃ b, b = g.f.wait[j] := ⟨_, rfl⟩
        obtain ⟨v1, t1, v2, t2, c1, c2, c3, c4, c5, c6, c7, c8⟩ := copy2 (σ := t) (v := sv) (w := .slice .exact 1 [byteV b] 1) (bs := g.f.safe ++ g.f.wait.take j) (ys := [b]) (.inl ksv) (.inl (.inr ⟨_, rfl⟩)) (by simp; omega)
        have lw1 : vload Tryz.prog t1.objs 30 (.optr s.objs.length 2) = some g.w := by rw [c7]; exact lw
        have ha2 := hgo.2.addr T22 S5 (k := .i64) (n := (j : Int)) (by omega) hc1
        rw [Int.toNat_natCast] at ha2
        have hlb : ∀ O : List Ob, vload Tryz.prog O 5 (.eptr (g.f.wait.map byteV) j) = some (.int .u8 (g.f.wait[j].toNat : Nat)) := fun O => BtsV.load (P := Tryz.prog) (objs := O) G5 hjw1
        have hfb : vbuildSlice Tryz.prog 30 1 [(0, .int .u8 (g.f.wait[j].toNat : Nat))] = some (.slice .exact 1 [byteV b] 1) := by rw [hb]; exact fb1 _
        have kb2 : t2.objs[s.objs.length]? = some (.cells [.str g.f.name, sv, g.w]) := by rw [c8]; exact kb
        obtain ⟨t3, ht3⟩ : ∃ t3 : St, t3 = ⟨t2.objs.set s.objs.length (.cells [.str g.f.name, v2, g.w]), t2.toks⟩ := ⟨_, rfl⟩
        have hs3 : vstore Tryz.prog t2 30 (.optr s.objs.length 1) v2 = some t3 := by rw [vstore_obj kb2 SBB c4.one (by simp), ht3]; rfl
        simp only [k21_a, WK, vop, evAll, evOpt, evParts, vbuiltin, vun, vextract, Nat.reduceLT, Nat.reduceEqDiff, ↓reduceIte, reduceCtorEq, Nat.reduceAdd, Int.reduceLT, Int.reduceNeg, valloc_std, noSB, vhot, k6, k5, k1, fFA2, fFA1, Nat.zero_add, lw, hgo.2.len T22, hc1, hc2, decide_true, fb0, ls, c1, lw1, ha2, hlb, hfb, c2, hs3, hwj]
        refine ⟨j + 1, ⟨v2, by simp [upd_some], by omega, ⟨fun p o hp ho => ?_, ?_, ?_, ?_⟩, by rw [ht3]; exact obj_set kb2, ?_⟩, by omega⟩
        · have := kt.ko p o hp ho
          rw [ht3]
          simp only [List.set_set, c8] at this ⊢
          exact this
        · have := kt.le
          rw [ht3]; simp only [List.length_set, c8] at this ⊢; exact this
        · rw [ht3]; exact Nat.le_trans kt.tl c6.tl
        · intro z hz; rw [ht3]; exact c6.tk z (kt.tk z hz)
        · rw [List.take_succ_eq_append_getElem hjw1, ← List.append_assoc, ← hb]; exact c4
      · have htake : g.f.wait.take j = g.f.wait.take k.toNat := by
          have hm : j = min k.toNat g.f.wait.length := by omega
          rw [hm, ← List.take_take, List.take_length]
        rw [htake] at ksv
        obtain ⟨y, hy⟩ : ∃ y : RE, y = ⟨⟨g.f.name, g.f.safe ++ g.f.wait.take k.toNat, []⟩, sv, .nils⟩ := ⟨_, rfl⟩
        have hyo : y.Ok := by rw [hy]; exact ⟨ksv, .inl ⟨rfl, rfl⟩⟩
        have hyc : y.cells = [.str g.f.name, sv, .nils] := by rw [hy]; rfl
        obtain ⟨ro2, t4, hq2, ha3, hs4, hR4, K4, L4⟩ := hRt.set hil hyo
        rw [hyc] at hs4
        have hps : (ps ++ rs.drop i).set i y = (ps ++ [y]) ++ rs.drop (i + 1) := by
          rw [List.set_append_right _ _ (by omega), hpl, Nat.sub_self, List.drop_eq_getElem_cons hlt, List.set_cons_zero, List.append_assoc]
          rfl
        rw [hps] at hR4
        have fin : ∃ ps' : List RE, KS q.toList σ t4 ∧ ps'.length = i + 1 ∧ ps'.map RE.f = ((rs.take (i + 1)).map RE.f).map (offF k) ∧ (∀ x ∈ ps', x.Ok) ∧ RRow t4.objs fv q (ps' ++ rs.drop (i + 1)) := by
          refine ⟨ps ++ [y], kσt.trans' K4, by simp [hpl], ?_, fun x hx => ?_, hR4⟩
          · rw [List.take_succ_eq_append_getElem hlt, List.map_append, List.map_append, List.map_append, hpm, ← hg, hy]
            rfl
          · rcases List.mem_append.1 hx with h | h
            · exact hpo x h
            · rw [List.mem_singleton] at h; subst h; exact hyo
        obtain ⟨ps', m1, m2, m3, m4, m5⟩ := fin
        have hbl := vfile2 g.f.name sv ksv.one
        by_cases hjw1 : j < g.f.wait.length
        · have hc1 : (j : Int) < (g.f.wait.length : Nat) := by omega
          have hc2 : ¬ (j : Int) < k := by omega
          simp only [k21_a, WK, vop, evAll, evOpt, evParts, vbuiltin, vun, vextract, Nat.reduceLT, Nat.reduceEqDiff, ↓reduceIte, reduceCtorEq, Nat.reduceAdd, Int.reduceLT, Int.reduceNeg, valloc_std, noSB, vhot, k6, k5, k4, k1, k0, k16, k17, fFA2, fFA1, fFA0, Nat.zero_add, lw, ls, ln, hgo.2.len T22, hc1, hc2, decide_true, decide_false, rFA r 0 (by omega), lf2 t kσt, hbl, ha3, hs4, hwi]
          exact ⟨i + 1, ⟨ps', by simp [upd_some], by omega, m1, m2, m3, m4, m5⟩, by omega⟩
        · have hc1 : ¬ (j : Int) < (g.f.wait.length : Nat) := by omega
          simp only [k21_a, WK, vop, evAll, evOpt, evParts, vbuiltin, vun, vextract, Nat.reduceLT, Nat.reduceEqDiff, ↓reduceIte, reduceCtorEq, Nat.reduceAdd, Int.reduceLT, Int.reduceNeg, valloc_std, noSB, vhot, k6, k5, k4, k1, k0, k16, k17, fFA2, fFA1, fFA0, Nat.zero_add, lw, ls, ln, hgo.2.len T22, hc1, decide_true, decide_false, rFA r 0 (by omega), lf2 t kσt, hbl, ha3, hs4, hwi]
          exact ⟨i + 1, ⟨ps', by simp [upd_some], by omega, m1, m2, m3, m4, m5⟩, by omega⟩
    · have hlt' : ¬ (i : Int) < rs.length := by omega
      have hall : rs.take i = rs := List.take_of_length_le (by omega)
      have hdr : rs.drop i = [] := List.drop_of_length_le (by omega)
      rw [hall] at hpm
      rw [hdr, List.append_nil] at hR
      have o := hro s hk
      obtain ⟨s1, hs1⟩ : ∃ s1 : St, s1 = ⟨s.objs.set r (.cells [fv, .int .i64 d.room, .bool false, .int .i64 (d.writes : Nat), .int .i64 (d.armed : Nat), .int .i64 d.keep]), s.toks⟩ := ⟨_, rfl⟩
      have st1 : vstore Tryz.prog s 4 (.optr r 2) (.bool false) = some s1 := by rw [vstore_obj o S4 rfl (by simp), hs1]; rfl
      have o1 : s1.objs[r]? = some (.cells [fv, .int .i64 d.room, .bool false, .int .i64 (d.writes : Nat), .int .i64 (d.armed : Nat), .int .i64 d.keep]) := by rw [hs1]; exact obj_set o
      obtain ⟨s2, hs2⟩ : ∃ s2 : St, s2 = ⟨s1.objs.set r (.cells [fv, .int .i64 d.room, .bool false, .int .i64 (d.writes : Nat), .int .i64 0, .int .i64 d.keep]), s1.toks⟩ := ⟨_, rfl⟩
      have st2 : vstore Tryz.prog s1 3 (.optr r 4) (.int .i64 0) = some s2 := by rw [vstore_obj o1 S3 rfl (by simp), hs2]; rfl
      have K1 : KS [r] s s1 := by rw [hs1]; exact KS.set (.inl (by simp)) _
      have K2 : KS [r] s1 s2 := by rw [hs2]; exact KS.set (.inl (by simp)) _
      have hrq : ∀ z ∈ q.toList, z ∉ [r] := fun z hz hz2 => h.ne (by rw [List.mem_singleton] at hz2; rw [← hz2]; exact hz)
      simp only [k21_a, WK, vop, evAll, evOpt, evParts, vbuiltin, vun, vextract, Nat.reduceLT, Nat.reduceEqDiff, ↓reduceIte, reduceCtorEq, Nat.reduceAdd, Int.reduceLT, Int.reduceNeg, valloc_std, noSB, vhot, h0, h17, h16, hlt', decide_false, rFA r 2 (by omega), rFA r 4 (by omega), st1, st2, eO]
      refine ⟨q, ps, ⟨⟨fv, by rw [hs2]; exact obj_set o1, (hR.keep K1 hrq).keep K2 hrq⟩, hpo, ?_, h.ne⟩, ?_, fun x hx => .inl hx⟩
      · simp only
        rw [hpm, h.fl]
      · refine (hk.mono fun x hx => .inl (List.mem_cons_of_mem _ hx)).trans' ((K1.trans' K2).mono fun x hx => .inl (by rw [List.mem_singleton] at hx; subst hx; simp))
theorem rnew_does (σ : St) (n : Int) : ∃ σ', Does Tryz.prog prims 8 [.int .i64 n] σ (.ret (.optr σ.objs.length 0)) σ' ∧ RefAt σ' σ.objs.length (newD n) none [] ∧ KS [] σ σ' := by
  have key : ∃ p σ', Does Tryz.prog prims 8 [.int .i64 n] σ p σ' ∧ (p = .ret (.optr σ.objs.length 0) ∧ RefAt σ' σ.objs.length (newD n) none [] ∧ KS [] σ σ') := by
    apply k8_is.does (by simp)
    have hb : vbuild Tryz.prog 48 [(1, .int .i64 n), (2, .bool true)] = some (.agg [.nils, .int .i64 n, .bool true, .int .i64 0, .int .i64 0, .int .i64 0]) := by kernel_rfl
    simp only [k8_a, WK, vop, evAll, evOpt, evParts, vbuiltin, vun, vextract, Nat.reduceLT, Nat.reduceEqDiff, ↓reduceIte, reduceCtorEq, Nat.reduceAdd, Int.reduceLT, Int.reduceNeg, valloc_std, noSB, vhot, gD0, gD1, ofNilP, hb, vbox, vcells]
    exact ⟨⟨⟨.nils, push_new _ _, .inl ⟨rfl, rfl, rfl⟩⟩, fun x hx => (by cases hx), rfl, by simp⟩, KS.push _ _ _⟩
  obtain ⟨p, σ', h1, rfl, h2⟩ := key
  exact ⟨σ', h1, h2⟩
theorem RefAt.get_no {σ : St} {r : Nat} {d : Dk} {q : Option Nat} {rs : List RE} (h : RefAt σ r d q rs) {n : List UInt8} (hn : ∀ x ∈ rs, x.f.name ≠ n) : getF d.files n = none := by
  rw [← h.fl]
  unfold getF
  rw [List.find?_eq_none]
  intro f hf
  obtain ⟨x, hx, rfl⟩ := List.mem_map.1 hf
  simp [hn x hx]
theorem RefAt.get_yes {σ : St} {r : Nat} {d : Dk} {q : Option Nat} {rs : List RE} (h : RefAt σ r d q rs) (hok : d.Ok) {n : List UInt8} {i : Nat} (hi : i < rs.length) (hn : rs[i].f.name = n) : getF d.files n = some rs[i].f := by
  rw [← hn]
  exact getF_mem hok.nodup (by rw [← h.fl]; exact List.mem_map_of_mem (List.getElem_mem hi))
theorem RefAt.few {σ : St} {r : Nat} {d : Dk} {q : Option Nat} {rs : List RE} (h : RefAt σ r d q rs) (hok : d.Ok) : rs.length ≤ 16 ∧ rs.length = d.files.length := by
  have h1 := congrArg List.length h.fl
  have h2 := hok.few
  rw [List.length_map] at h1
  omega
theorem rput_does {σ : St} {r : Nat} {d : Dk} {q : Option Nat} {rs : List RE} {x : RE} (h : RefAt σ r d q rs) (hok : d.Ok) (hx : x.Ok) : ∃ σ', Does Tryz.prog prims 44 [.optr r 0, .agg x.cells] σ (.ret (.tuple [])) σ' ∧ RNext σ r q σ' { d with files := putF x.f d.files } := by
  obtain ⟨p, σ', h1, rfl, h2⟩ := put_does' h hok hx
  exact ⟨σ', h1, h2⟩
theorem rdrop_does {σ : St} {r : Nat} {d : Dk} {q : Option Nat} {rs : List RE} {n : List UInt8} (h : RefAt σ r d q rs) (hok : d.Ok) : ∃ σ', Does Tryz.prog prims 84 [.optr r 0, .str n] σ (.ret (.tuple [])) σ' ∧ RNext σ r q σ' { d with files := dropF n d.files } := by
  obtain ⟨p, σ', h1, rfl, h2⟩ := drop_does' (n := n) h hok
  exact ⟨σ', h1, h2⟩
theorem roff_does' {σ : St} {r : Nat} {d : Dk} {q : Option Nat} {rs : List RE} (k : Int) (h : RefAt σ r d q rs) (hok : d.Ok) : ∃ σ', Does Tryz.prog prims 21 [.optr r 0, .int .i64 k] σ (.ret (.tuple [])) σ' ∧ RNext σ r q σ' (offD k d) := by
  obtain ⟨p, σ', h1, rfl, h2⟩ := roff_does (k := k) h hok
  exact ⟨σ', h1, h2⟩
theorem rrawNext {σ : St} {r : Nat} {d : Dk} {q : Option Nat} {rs : List RE} (h : RefAt σ r d q rs) (hok : d.Ok) (hw : d.writes < 4611686018427387904) :
    ∃ σ1, Does Tryz.prog prims 45 [.optr r 0] σ (.ret (.bool (rawD d).1)) σ1 ∧ RefAt σ1 r (rawD d).2 q rs ∧ KS (r :: q.toList) σ σ1 ∧ vload Tryz.prog σ1.objs 3 (.optr r 5) = some (.int .i64 d.keep) ∧
      ∃ σ2, Does Tryz.prog prims 21 [.optr r 0, .int .i64 d.keep] σ1 (.ret (.tuple [])) σ2 ∧ RNext σ r q σ2 (offD d.keep (rawD d).2) := by
  obtain ⟨σ1, h1, h2, h3⟩ := rraw_does h hok hw
  obtain ⟨σ2, h5, h6⟩ := roff_does' d.keep h2 hok.raw
  obtain ⟨fv, g1, g2⟩ := h2.hd
  refine ⟨σ1, h1, h2, h3, by rw [vload_obj g1 G3, (raw_files d).2.1]; rfl, σ2, h5, RNext.trans h3 (fun x hx => .inl hx) h6⟩
theorem rappend_sees {σ : St} {r : Nat} {d : Dk} {q : Option Nat} {rs : List RE} {v : V} {n bs : List UInt8} (h : RefAt σ r d q rs) (hok : d.Ok) (hw : d.writes < 4611686018427387904) (hb : RB σ v bs) (hbl : bs.length ≤ 1000000000) :
    ∃ p σ', Does Tryz.prog prims 10 [.optr r 0, .str n, v] σ p σ' ∧ (p = .ret (.int .i64 ((appendD n bs d).1 : Nat)) ∧ RNext σ r q σ' (appendD n bs d).2) := by
  apply k10_is.does (by simp)
  simp only [k10_a, WK, vop, evAll, evOpt, evParts, vbuiltin, vun, vextract, Nat.reduceLT, Nat.reduceEqDiff, ↓reduceIte, reduceCtorEq, Nat.reduceAdd, Int.reduceLT, Int.reduceNeg, valloc_std, noSB, vhot, gD0, gD1]
  refine KD.ret (rready_does h n) ?_
  by_cases hr : readyD d n = 0
  · have hr' : ((readyD d n : Nat) : Int) = 0 := by omega
    have hn0 : ¬ readyD d n ≠ 0 := fun h => h hr
    have hname := (readyD_named hr).1
    obtain ⟨hfew, hfl⟩ := h.few hok
    have tail : ∀ (e : Nat → V) (s : St) (x : RE) (bx : Nat) (iv : Int), e 0 = .optr r 0 → e 2 = v → e 8 = .int .i64 iv → e 9 = .optr bx 0 → KS [] σ s → s.objs[bx]? = some (.cells x.cells) → σ.objs.length ≤ bx → x.Ok → x.f = (getF d.files n).getD ⟨n, [], []⟩ → x.f.name = n → (iv < 0 ↔ (getF d.files n).isNone = true) →
        Ev Tryz.prog prims 81 (((CC.region k10_r8).seq (CC.cond (.tmp 40) ((CC.region k10_r9).seq CC.ret) CC.skip)).seq
            ((k10_r10.seq (CC.cond (.tmp 62) ((CC.region k10_r11).seq CC.ret) CC.skip)).seq
              ((CC.region k10_r12).seq
                ((CC.region k10_r13).seq
                  (((CC.region k10_r14).seq
                        (CC.cond (.tmp 74) ((CC.region k10_r15).seq ((CC.region k10_r16).seq CC.ret))
                          CC.skip)).seq
                    ((CC.region k10_r17).seq CC.ret)))))) e s (fnK Tryz.prog 81 [ResultVar.tmp 6] fun r_1 σ' =>
        r_1 = VRes.ret (V.int IntKind.i64 ((appendD n bs d).1 : Nat)) ∧ RNext σ r q σ' (appendD n bs d).2) := by
      intro e s x bx iv h0 h2 h8 h9 K hob hbx hx hxf hxn hiv
      have Rs : RefAt s r d q rs := h.keep K fun x _ => by simp
      obtain ⟨fv, o, hR⟩ := Rs.hd
      have hbs := hb.ks K fun q hq => by cases hq
      have lfv : vload Tryz.prog s.objs 46 (.optr r 0) = some fv := by rw [vload_obj o GFS]; rfl
      have lrm : vload Tryz.prog s.objs 3 (.optr r 1) = some (.int .i64 d.room) := by rw [vload_obj o G3]; rfl
      have ls : vload Tryz.prog s.objs 30 (.optr bx 1) = some x.s := by rw [vload_obj hob pGB]; rfl
      have lw : vload Tryz.prog s.objs 30 (.optr bx 2) = some x.w := by rw [vload_obj hob pGB]; rfl
      have hxl : x.f.len ≤ 1048576 := by
        rw [hxf]
        cases hg : getF d.files n with
        | none => simp [Fl.len]
        | some f => exact (hok.get hg).2.2.2
      simp only [Fl.len] at hxl
      have w1 : IntKind.i64.wrap ((x.f.safe.length : Int) + (x.f.wait.length : Nat)) = ((x.f.safe.length + x.f.wait.length : Nat) : Int) := by rw [wrap_i64 (by omega) (by omega)]; omega
      have w2 : IntKind.i64.wrap (((x.f.safe.length + x.f.wait.length : Nat) : Int) + (bs.length : Nat)) = ((x.f.safe.length + x.f.wait.length + bs.length : Nat) : Int) := by rw [wrap_i64 (by omega) (by omega)]; omega
      by_cases hbig : 1048576 < x.f.safe.length + x.f.wait.length + bs.length
      · have hbig' : (1048576 : Int) < ((x.f.safe.length + x.f.wait.length + bs.length : Nat) : Int) := by omega
        have e1 : appendD n bs d = (3, d) := by unfold appendD; rw [if_neg hn0]; simp only; rw [if_pos (by rw [← hxf]; exact hbig)]
        simp only [k10_a, WK, vop, evAll, evOpt, evParts, vbuiltin, vun, vextract, Nat.reduceLT, Nat.reduceEqDiff, ↓reduceIte, reduceCtorEq, Nat.reduceAdd, Int.reduceLT, Int.reduceNeg, valloc_std, noSB, vhot, h9, h2, fFA1, fFA2, Nat.zero_add, ls, lw, hx.1.len T22, hx.2.len T22, hbs.len, w1, w2, hbig', decide_true, e1]
        exact ⟨rfl, RNext.only h K⟩
      · have hbig' : ¬ (1048576 : Int) < ((x.f.safe.length + x.f.wait.length + bs.length : Nat) : Int) := by omega
        have hbig2 : ¬ 1048576 < ((getF d.files n).getD ⟨n, [], []⟩).len + bs.length := by rw [← hxf]; exact hbig
        obtain ⟨p, s2, hsz, rfl, K2⟩ := rsize_does Rs hok
        have Rs2 : RefAt s2 r d q rs := Rs.keep K2 fun x _ => by simp
        have lfv2 : vload Tryz.prog s2.objs 46 (.optr r 0) = some fv := by rw [vload_obj (K2.ko _ _ (by simp) o) GFS]; rfl
        have lrm2 : vload Tryz.prog s2.objs 3 (.optr r 1) = some (.int .i64 d.room) := by rw [vload_obj (K2.ko _ _ (by simp) o) G3]; rfl
        have hszl := sizeD_le hok
        have w3 : IntKind.i64.wrap (((sizeD d.files : Nat) : Int) + (bs.length : Nat)) = ((sizeD d.files + bs.length : Nat) : Int) := by rw [wrap_i64 (by omega) (by omega)]; omega
        have efull : ((getF d.files n).isNone = true ∧ 16 ≤ d.files.length) ∨ d.room < ((sizeD d.files + bs.length : Nat) : Int) → appendD n bs d = (22, d) := fun hf => by
          unfold appendD; rw [if_neg hn0]; simp only; rw [if_neg hbig2, if_pos hf]
        -- behind the checks
        have rest : ∀ (e : Nat → V) (s : St), e 0 = .optr r 0 → e 2 = v → e 9 = .optr bx 0 → KS [] σ s → s.objs[bx]? = some (.cells x.cells) → (¬ (((getF d.files n).isNone = true ∧ 16 ≤ d.files.length) ∨ d.room < ((sizeD d.files + bs.length : Nat) : Int))) →
            Ev Tryz.prog prims 81 ((CC.region k10_r12).seq
                ((CC.region k10_r13).seq
                  (((CC.region k10_r14).seq
                        (CC.cond (.tmp 74) ((CC.region k10_r15).seq ((CC.region k10_r16).seq CC.ret))
                          CC.skip)).seq
                    ((CC.region k10_r17).seq CC.ret)))) e s (fnK Tryz.prog 81 [ResultVar.tmp 6] fun r_1 σ' =>
        r_1 = VRes.ret (V.int IntKind.i64 ((appendD n bs d).1 : Nat)) ∧ RNext σ r q σ' (appendD n bs d).2) := by
          intro e s h0 h2 h9 K hob hnf
          have Rs : RefAt s r d q rs := h.keep K fun x _ => by simp
          have hbs := hb.ks K fun q hq => by cases hq
          have lw : vload Tryz.prog s.objs 30 (.optr bx 2) = some x.w := by rw [vload_obj hob pGB]; rfl
          obtain ⟨v1, t1, v2, t2, c1, c2, c3, c4, c5, c6, c7, c8⟩ := copy2 (σ := s) (v := x.w) (w := v) (.inl hx.2) hbs (by omega)
          have hob2 : t2.objs[bx]? = some (.cells x.cells) := by rw [c8]; exact hob
          obtain ⟨y, hy⟩ : ∃ y : RE, y = ⟨⟨n, x.f.safe, x.f.wait ++ bs⟩, x.s, v2⟩ := ⟨_, rfl⟩
          have hyo : y.Ok := by rw [hy]; exact ⟨hx.1, c4⟩
          obtain ⟨t3, ht3⟩ : ∃ t3 : St, t3 = ⟨t2.objs.set bx (.cells y.cells), t2.toks⟩ := ⟨_, rfl⟩
          have hs3 : vstore Tryz.prog t2 30 (.optr bx 2) v2 = some t3 := by
            rw [vstore_obj hob2 SBB c4.one (by simp [RE.cells]), ht3, hy]
            simp only [RE.cells, hxn]
            rfl
          have ob3 : t3.objs[bx]? = some (.cells y.cells) := by rw [ht3]; exact obj_set hob2
          have ay : vload Tryz.prog t3.objs 81 (.optr bx 0) = some (.agg y.cells) := vload_agg ob3 GFi (by rw [SFi]; rfl)
          have K3 : KS [] σ t3 := (K.trans' c6).trans (KS.set (S := [bx]) (.inl (by simp)) _ : KS [bx] t2 ⟨t2.objs.set bx (.cells y.cells), t2.toks⟩) (fun x hx => .inr (by rw [List.mem_singleton] at hx; omega)) |> fun k => by rw [ht3]; exact k
          have R3 : RefAt t3 r d q rs := h.keep K3 fun x _ => by simp
          obtain ⟨t4, hput, q4, rs4, R4, K4, I4⟩ := rput_does R3 hok hyo
          obtain ⟨d2, hd2⟩ : ∃ d2 : Dk, d2 = { d with files := putF y.f d.files } := ⟨_, rfl⟩
          rw [← hd2] at R4
          have ok2 : d2.Ok := by
            rw [hd2]
            refine hok.put (by rw [hy]; exact hname) (by rw [hy]; simp only [Fl.len, List.length_append]; omega) fun hno => ?_
            have hno' : (getF d.files n).isNone = true := by rw [hy] at hno; exact hno
            have : ¬ 16 ≤ d.files.length := fun h => hnf (.inl ⟨hno', h⟩)
            omega
          obtain ⟨t5, r1, R5, K5, lk, t6, r5, r6⟩ := rrawNext R4 ok2 (by rw [hd2]; exact hw)
          have hkp : d2.keep = d.keep := by rw [hd2]
          have ed : appendD n bs d = if (rawD d2).1 = true then (20, offD d.keep (rawD d2).2) else (0, (rawD d2).2) := by
            unfold appendD; rw [if_neg hn0]; simp only; rw [if_neg hbig2, if_neg hnf, ← hxf, hd2, hy]
          have toσ : ∀ (u : St) (d' : Dk), RNext t4 r q4 u d' → RNext σ r q u d' := fun u d' hN =>
            RNext.trans ((K3.mono fun x hx => by cases hx).trans' K4) (fun z hz => by
              have := K3.le
              rcases I4 z hz with h | h
              · exact .inl h
              · exact .inr (by omega)) hN
          rw [ed]
          simp only [k10_a, WK, vop, evAll, evOpt, evParts, vbuiltin, vun, vextract, Nat.reduceLT, Nat.reduceEqDiff, ↓reduceIte, reduceCtorEq, Nat.reduceAdd, Int.reduceLT, Int.reduceNeg, valloc_std, noSB, vhot, h9, h2, h0, fb0, fFA2, Nat.zero_add, lw, c1, c2, hs3, ay]
          refine KD.ret hput ?_
          simp only [k10_a, WK, vop, evAll, evOpt, evParts, vbuiltin, vun, vextract, Nat.reduceLT, Nat.reduceEqDiff, ↓reduceIte, reduceCtorEq, Nat.reduceAdd, Int.reduceLT, Int.reduceNeg, valloc_std, noSB, vhot, h0]
          refine KD.ret r1 ?_
          cases hgo : (rawD d2).1 with
          | true =>
            simp only [k10_a, WK, vop, evAll, evOpt, evParts, vbuiltin, vun, vextract, Nat.reduceLT, Nat.reduceEqDiff, ↓reduceIte, reduceCtorEq, Nat.reduceAdd, Int.reduceLT, Int.reduceNeg, valloc_std, noSB, vhot, h0, rFA r 5 (by omega), lk]
            refine KD.ret r5 ?_
            simp only [k10_a, WK, vop, evAll, evOpt, evParts, vbuiltin, vun, vextract, Nat.reduceLT, Nat.reduceEqDiff, ↓reduceIte, reduceCtorEq, Nat.reduceAdd, Int.reduceLT, Int.reduceNeg, valloc_std, noSB, vhot, if_true]
            rw [hkp] at r6
            exact ⟨rfl, toσ _ _ r6⟩
          | false =>
            simp only [k10_a, WK, vop, evAll, evOpt, evParts, vbuiltin, vun, vextract, Nat.reduceLT, Nat.reduceEqDiff, ↓reduceIte, reduceCtorEq, Nat.reduceAdd, Int.reduceLT, Int.reduceNeg, valloc_std, noSB, vhot, h0, Bool.false_eq_true, if_false]
            exact ⟨rfl, toσ _ _ ⟨q4, rs4, R5, K5, fun x hx => .inl hx⟩⟩
        generalize hC : CC.seq (CC.region k10_r12) _ = C12
        by_cases hneg : iv < 0
        · have hno := hiv.1 hneg
          by_cases hmany : 16 ≤ d.files.length
          · have hmany' : (16 : Int) ≤ (rs.length : Nat) := by omega
            simp only [k10_a, WK, vop, evAll, evOpt, evParts, vbuiltin, vun, vextract, Nat.reduceLT, Nat.reduceEqDiff, ↓reduceIte, reduceCtorEq, Nat.reduceAdd, Int.reduceLT, Int.reduceNeg, valloc_std, noSB, vhot, h9, h8, h2, h0, fFA1, fFA2, Nat.zero_add, ls, lw, hx.1.len T22, hx.2.len T22, hbs.len, w1, w2, hbig', decide_false, hneg, decide_true, rFA r 0 (by omega), lfv, hR.len, hmany', efull (.inl ⟨hno, hmany⟩)]
            exact ⟨fun h => (by simp [wantC, upd_some] at h), rfl, RNext.only h K⟩
          · have hmany' : ¬ (16 : Int) ≤ (rs.length : Nat) := by omega
            simp only [k10_a, WK, vop, evAll, evOpt, evParts, vbuiltin, vun, vextract, Nat.reduceLT, Nat.reduceEqDiff, ↓reduceIte, reduceCtorEq, Nat.reduceAdd, Int.reduceLT, Int.reduceNeg, valloc_std, noSB, vhot, h9, h8, h2, h0, fFA1, fFA2, Nat.zero_add, ls, lw, hx.1.len T22, hx.2.len T22, hbs.len, w1, w2, hbig', decide_false, hneg, decide_true, rFA r 0 (by omega), lfv, hR.len, hmany']
            refine KD.ret hsz ?_
            by_cases hfull : d.room < ((sizeD d.files + bs.length : Nat) : Int)
            · simp only [k10_a, WK, vop, evAll, evOpt, evParts, vbuiltin, vun, vextract, Nat.reduceLT, Nat.reduceEqDiff, ↓reduceIte, reduceCtorEq, Nat.reduceAdd, Int.reduceLT, Int.reduceNeg, valloc_std, noSB, vhot, h9, h8, h2, h0, hbs.len, rFA r 0 (by omega), rFA r 1 (by omega), lrm, lrm2, lfv, lfv2, hR.len, w3, hfull, decide_true, efull (.inr hfull)]
              exact ⟨rfl, RNext.only h (K.trans' K2)⟩
            · simp only [k10_a, WK, vop, evAll, evOpt, evParts, vbuiltin, vun, vextract, Nat.reduceLT, Nat.reduceEqDiff, ↓reduceIte, reduceCtorEq, Nat.reduceAdd, Int.reduceLT, Int.reduceNeg, valloc_std, noSB, vhot, h9, h8, h2, h0, hbs.len, rFA r 0 (by omega), rFA r 1 (by omega), lrm, lrm2, lfv, lfv2, hR.len, w3, hfull, decide_false]
              rw [← hC]
              exact rest _ _ (by simp [upd_some, h0]) (by simp [upd_some, h2]) (by simp [upd_some, h9]) (K.trans' K2) (K2.ko _ _ (by simp) hob) (fun h => h.elim (fun h => hmany h.2) hfull)
        · have hno : ¬ (getF d.files n).isNone = true := fun h => hneg (hiv.2 h)
          simp only [k10_a, WK, vop, evAll, evOpt, evParts, vbuiltin, vun, vextract, Nat.reduceLT, Nat.reduceEqDiff, ↓reduceIte, reduceCtorEq, Nat.reduceAdd, Int.reduceLT, Int.reduceNeg, valloc_std, noSB, vhot, h9, h8, h2, h0, fFA1, fFA2, Nat.zero_add, ls, lw, hx.1.len T22, hx.2.len T22, hbs.len, w1, w2, hbig', decide_false, hneg, decide_true, rFA r 0 (by omega), lfv, hR.len]
          refine KD.ret hsz ?_
          by_cases hfull : d.room < ((sizeD d.files + bs.length : Nat) : Int)
          · simp only [k10_a, WK, vop, evAll, evOpt, evParts, vbuiltin, vun, vextract, Nat.reduceLT, Nat.reduceEqDiff, ↓reduceIte, reduceCtorEq, Nat.reduceAdd, Int.reduceLT, Int.reduceNeg, valloc_std, noSB, vhot, h9, h8, h2, h0, hbs.len, rFA r 0 (by omega), rFA r 1 (by omega), lrm, lrm2, lfv, lfv2, hR.len, w3, hfull, decide_true, efull (.inr hfull)]
            exact ⟨rfl, RNext.only h (K.trans' K2)⟩
          · simp only [k10_a, WK, vop, evAll, evOpt, evParts, vbuiltin, vun, vextract, Nat.reduceLT, Nat.reduceEqDiff, ↓reduceIte, reduceCtorEq, Nat.reduceAdd, Int.reduceLT, Int.reduceNeg, valloc_std, noSB, vhot, h9, h8, h2, h0, hbs.len, rFA r 0 (by omega), rFA r 1 (by omega), lrm, lrm2, lfv, lfv2, hR.len, w3, hfull, decide_false]
            rw [← hC]
            exact rest _ _ (by simp [upd_some, h0]) (by simp [upd_some, h2]) (by simp [upd_some, h9]) (K.trans' K2) (K2.ko _ _ (by simp) hob) (fun h => h.elim (fun h => hno h.1) hfull)
    simp only [k10_a, WK, vop, evAll, evOpt, evParts, vbuiltin, vun, vextract, Nat.reduceLT, Nat.reduceEqDiff, ↓reduceIte, reduceCtorEq, Nat.reduceAdd, Int.reduceLT, Int.reduceNeg, valloc_std, noSB, vhot, hr']
    obtain ⟨p, σ1, ha, K1, hp⟩ := rat_does h (by omega) n
    have R1 : RefAt σ1 r d q rs := h.keep K1 fun x _ => by simp
    obtain ⟨fv, o1, hR1⟩ := R1.hd
    have hbf : vbuild Tryz.prog 81 [(0, .str n)] = some (.agg [.str n, .nils, .nils]) := by kernel_rfl
    have hz : vcells (V.agg [.str [], .nils, .nils]) = [.str [], .nils, .nils] := rfl
    have hx0 : (⟨⟨n, [], []⟩, .nils, .nils⟩ : RE).Ok := ⟨.inl ⟨rfl, rfl⟩, .inl ⟨rfl, rfl⟩⟩
    obtain ⟨s1, hs1⟩ : ∃ s1 : St, s1 = ⟨σ1.objs ++ [.cells [.str n, .nils, .nils]], σ1.toks⟩ := ⟨_, rfl⟩
    have hst := fileNew (σ := σ1) hx0
    simp only [RE.cells] at hst
    rw [← hs1] at hst
    have Ks : KS [] σ1 s1 := by rw [hs1]; exact KS.push _ _ _
    have ob1 : s1.objs[σ1.objs.length]? = some (.cells [.str n, .nils, .nils]) := by rw [hs1]; exact push_new _ _
    generalize hC8 : CC.seq (CC.seq (CC.region k10_r8) _) _ = C8
    rcases hp with ⟨rfl, hno⟩ | ⟨i, hi, rfl, hnm⟩
    · have hg := h.get_no hno
      refine KD.ret ha ?_
      have hneg : ¬ (0 : Int) ≤ -1 := by decide
      simp only [k10_a, WK, vop, evAll, evOpt, evParts, vbuiltin, vun, vextract, Nat.reduceLT, Nat.reduceEqDiff, ↓reduceIte, reduceCtorEq, Nat.reduceAdd, Int.reduceLT, Int.reduceNeg, valloc_std, noSB, vhot, hbf, ZFi, vbox, hz, hst, hneg, decide_false]
      rw [← hC8]
      exact tail _ s1 ⟨⟨n, [], []⟩, .nils, .nils⟩ σ1.objs.length (-1) (by simp [upd_some]) (by simp [upd_some]) (by simp [upd_some]) (by simp [upd_some]) (K1.trans' Ks) ob1 K1.le hx0 (by rw [hg]; rfl) rfl (by rw [hg]; simp)
    · have hg := h.get_yes hok hi hnm
      refine KD.ret ha ?_
      have hpos : (0 : Int) ≤ (i : Nat) := by omega
      have hgo := h.ok rs[i] (List.getElem_mem hi)
      obtain ⟨ro, hq, _, hai, hli⟩ := (hR1.keep Ks fun x _ => by simp).at hi
      obtain ⟨s2, hs2⟩ : ∃ s2 : St, s2 = ⟨s1.objs.set σ1.objs.length (.cells rs[i].cells), s1.toks⟩ := ⟨_, rfl⟩
      have hst2 : vstore Tryz.prog s1 81 (.optr σ1.objs.length 0) (.agg rs[i].cells) = some s2 := by
        rw [vstore_agg (cs := [.str n, .nils, .nils]) (cs' := rs[i].cells) ob1 (by rw [SFi]; rfl) rfl (RE.one hgo), hs2]
      have K2 : KS [] σ s2 := by
        rw [hs2]
        exact (K1.trans' Ks).trans (KS.set (S := [σ1.objs.length]) (.inl (by simp)) _) fun x hx => .inr (by rw [List.mem_singleton] at hx; have := K1.le; omega)
      have lfv : vload Tryz.prog s1.objs 46 (.optr r 0) = some fv := by rw [vload_obj (Ks.ko _ _ (by simp) o1) GFS]; rfl
      simp only [k10_a, WK, vop, evAll, evOpt, evParts, vbuiltin, vun, vextract, Nat.reduceLT, Nat.reduceEqDiff, ↓reduceIte, reduceCtorEq, Nat.reduceAdd, Int.reduceLT, Int.reduceNeg, valloc_std, noSB, vhot, hbf, ZFi, vbox, hz, hst, hpos, decide_true, rFA r 0 (by omega), lfv, hai, hli, hst2]
      rw [← hC8]
      exact tail _ s2 rs[i] σ1.objs.length (i : Nat) (by simp [upd_some]) (by simp [upd_some]) (by simp [upd_some]) (by simp [upd_some]) K2 (by rw [hs2]; exact obj_set ob1) K1.le hgo (by rw [hg]; rfl) hnm (by rw [hg]; simp)
  · have hr' : ¬ ((readyD d n : Nat) : Int) = 0 := by omega
    have e : appendD n bs d = (readyD d n, d) := by unfold appendD; rw [if_pos hr]
    simp only [k10_a, WK, vop, evAll, evOpt, evParts, vbuiltin, vun, vextract, Nat.reduceLT, Nat.reduceEqDiff, ↓reduceIte, reduceCtorEq, Nat.reduceAdd, Int.reduceLT, Int.reduceNeg, valloc_std, noSB, vhot, hr', e]
    exact RNext.refl h
theorem putF_set {l : List Fl} {x : Fl} {i : Nat} (hr : l.Pairwise fun f g => f.name < g.name) (hi : i < l.length) (hn : l[i].name = x.name) : l.set i x = putF x l := by
  have hl : l = l.take i ++ l[i] :: l.drop (i + 1) := by rw [← List.drop_eq_getElem_cons hi, List.take_append_drop]
  have hset : l.set i x = l.take i ++ x :: l.drop (i + 1) := by rw [List.set_eq_take_append_cons_drop, if_pos hi]
  have hA : ∀ f ∈ l.take i, f.name < x.name := by
    intro f hf
    obtain ⟨j, hj, rfl⟩ := List.mem_iff_getElem.1 hf
    rw [List.length_take] at hj
    rw [List.getElem_take, ← hn]
    exact List.pairwise_iff_getElem.1 hr j i (by omega) hi (by omega)
  have hB : ∀ f ∈ l.drop (i + 1), x.name < f.name := by
    intro f hf
    obtain ⟨j, hj, rfl⟩ := List.mem_iff_getElem.1 hf
    rw [List.length_drop] at hj
    rw [List.getElem_drop, ← hn]
    exact List.pairwise_iff_getElem.1 hr i (i + 1 + j) hi (by omega) (by omega)
  have a1 : (l.take i).filter (fun f => decide (f.name < x.name)) = l.take i := List.filter_eq_self.2 fun f hf => by simpa using hA f hf
  have a2 : (l.drop (i + 1)).filter (fun f => decide (f.name < x.name)) = [] := List.filter_eq_nil_iff.2 fun f hf h => lt_irrefl' _ (lt_trans' (hB f hf) (by simpa using h))
  have a3 : (l.take i).filter (fun f => decide (x.name < f.name)) = [] := List.filter_eq_nil_iff.2 fun f hf h => lt_irrefl' _ (lt_trans' (hA f hf) (by simpa using h))
  have a4 : (l.drop (i + 1)).filter (fun f => decide (x.name < f.name)) = l.drop (i + 1) := List.filter_eq_self.2 fun f hf => by simpa using hB f hf
  have n1 : ¬ l[i].name < x.name := by rw [hn]; exact lt_irrefl' _
  have n2 : ¬ x.name < l[i].name := by rw [hn]; exact lt_irrefl' _
  have h1 : l.filter (fun f => decide (f.name < x.name)) = l.take i := by
    have : l.filter (fun f => decide (f.name < x.name)) = (l.take i ++ l[i] :: l.drop (i + 1)).filter (fun f => decide (f.name < x.name)) := by rw [← hl]
    rw [this, List.filter_append, List.filter_cons, a1, a2, decide_eq_false n1]
    simp
  have h2 : l.filter (fun f => decide (x.name < f.name)) = l.drop (i + 1) := by
    have : l.filter (fun f => decide (x.name < f.name)) = (l.take i ++ l[i] :: l.drop (i + 1)).filter (fun f => decide (x.name < f.name)) := by rw [← hl]
    rw [this, List.filter_append, List.filter_cons, a3, a4, decide_eq_false n2]
    simp
  rw [hset, putF, h1, h2]
theorem RefAt.set {σ : St} {r : Nat} {d : Dk} {q : Option Nat} {rs : List RE} (h : RefAt σ r d q rs) (hok : d.Ok) {i : Nat} (hi : i < rs.length) {y : RE} (hy : y.Ok) (hn : rs[i].f.name = y.f.name) {fv : V} (hR : RRow σ.objs fv q rs) :
    ∃ ro σ', vindexAddr Tryz.prog 46 fv (.int .i64 (i : Int)) = some (.optr ro (i * 3)) ∧ vstore Tryz.prog σ 81 (.optr ro (i * 3)) (.agg y.cells) = some σ' ∧ (∀ fv2, σ.objs[r]? = some (.cells [fv2, .int .i64 d.room, .bool d.on, .int .i64 (d.writes : Nat), .int .i64 (d.armed : Nat), .int .i64 d.keep]) → fv2 = fv → RNext σ r q σ' { d with files := putF y.f d.files }) := by
  obtain ⟨ro, σ', hq, ha, hs, hR2, K2, L2⟩ := hR.set hi hy
  refine ⟨ro, σ', ha, hs, fun fv2 o e => ?_⟩
  subst e
  refine ⟨q, rs.set i y, ⟨⟨fv2, K2.ko _ _ h.ne o, hR2⟩, fun x hx => ?_, ?_, h.ne⟩, K2.mono fun x hx => .inl (List.mem_cons_of_mem _ hx), fun x hx => .inl hx⟩
  · rcases List.mem_or_eq_of_mem_set hx with h1 | h1
    · exact h.ok x h1
    · subst h1; exact hy
  · simp only
    rw [List.map_set, h.fl]
    have hl : i < d.files.length := by rw [← h.fl, List.length_map]; exact hi
    refine putF_set hok.rise hl ?_
    have : d.files[i] = rs[i].f := by simp [← h.fl]
    rw [this, hn]
theorem rsync_sees {σ : St} {r : Nat} {d : Dk} {q : Option Nat} {rs : List RE} {n : List UInt8} (h : RefAt σ r d q rs) (hok : d.Ok) (hw : d.writes < 4611686018427387904) :
    ∃ p σ', Does Tryz.prog prims 12 [.optr r 0, .str n] σ p σ' ∧ (p = .ret (.int .i64 ((syncD n d).1 : Nat)) ∧ RNext σ r q σ' (syncD n d).2) := by
  apply k12_is.does (by simp)
  simp only [k12_a, WK, vop, evAll, evOpt, evParts, vbuiltin, vun, vextract, Nat.reduceLT, Nat.reduceEqDiff, ↓reduceIte, reduceCtorEq, Nat.reduceAdd, Int.reduceLT, Int.reduceNeg, valloc_std, noSB, vhot, gD0, gD1]
  refine KD.ret (rready_does h n) ?_
  by_cases hr : readyD d n = 0
  · have hr' : ((readyD d n : Nat) : Int) = 0 := by omega
    have hn0 : ¬ readyD d n ≠ 0 := fun h => h hr
    obtain ⟨hfew, hfl⟩ := h.few hok
    simp only [k12_a, WK, vop, evAll, evOpt, evParts, vbuiltin, vun, vextract, Nat.reduceLT, Nat.reduceEqDiff, ↓reduceIte, reduceCtorEq, Nat.reduceAdd, Int.reduceLT, Int.reduceNeg, valloc_std, noSB, vhot, hr']
    obtain ⟨p, σ1, ha, K1, hp⟩ := rat_does h (by omega) n
    have R1 : RefAt σ1 r d q rs := h.keep K1 fun x _ => by simp
    rcases hp with ⟨rfl, hno⟩ | ⟨i, hi, rfl, hnm⟩
    · have hg := h.get_no hno
      have ht : thereD d n = 21 := by unfold thereD; rw [if_neg hn0, hg]; rfl
      have e : syncD n d = (21, d) := by unfold syncD; rw [if_pos (by rw [ht]; simp), ht]
      have hneg : (-1 : Int) < 0 := by decide
      refine KD.ret ha ?_
      simp only [k12_a, WK, vop, evAll, evOpt, evParts, vbuiltin, vun, vextract, Nat.reduceLT, Nat.reduceEqDiff, ↓reduceIte, reduceCtorEq, Nat.reduceAdd, Int.reduceLT, Int.reduceNeg, valloc_std, noSB, vhot, hneg, decide_true, e]
      exact ⟨rfl, RNext.only h K1⟩
    · have hg := h.get_yes hok hi hnm
      have ht : thereD d n = 0 := by unfold thereD; rw [if_neg hn0, hg]; rfl
      have hz' : ¬ thereD d n ≠ 0 := fun h => h ht
      have hneg : ¬ ((i : Nat) : Int) < 0 := by omega
      obtain ⟨t5, r1, R5, K5, lk, t6, r5, r6⟩ := rrawNext R1 hok hw
      obtain ⟨f1, f2, f3, f4, f5⟩ := raw_files d
      have toσ : ∀ (u : St) (d' : Dk), RNext σ1 r q u d' → RNext σ r q u d' := fun u d' hN => RNext.trans (K1.mono fun x hx => by cases hx) (fun x hx => .inl hx) hN
      refine KD.ret ha ?_
      simp only [k12_a, WK, vop, evAll, evOpt, evParts, vbuiltin, vun, vextract, Nat.reduceLT, Nat.reduceEqDiff, ↓reduceIte, reduceCtorEq, Nat.reduceAdd, Int.reduceLT, Int.reduceNeg, valloc_std, noSB, vhot, hneg, decide_false]
      refine KD.ret r1 ?_
      cases hgo : (rawD d).1 with
      | true =>
        have e : syncD n d = (20, offD d.keep (rawD d).2) := by unfold syncD; rw [if_neg hz', if_pos hgo]
        simp only [k12_a, WK, vop, evAll, evOpt, evParts, vbuiltin, vun, vextract, Nat.reduceLT, Nat.reduceEqDiff, ↓reduceIte, reduceCtorEq, Nat.reduceAdd, Int.reduceLT, Int.reduceNeg, valloc_std, noSB, vhot, rFA r 5 (by omega), lk]
        refine KD.ret r5 ?_
        simp only [k12_a, WK, vop, evAll, evOpt, evParts, vbuiltin, vun, vextract, Nat.reduceLT, Nat.reduceEqDiff, ↓reduceIte, reduceCtorEq, Nat.reduceAdd, Int.reduceLT, Int.reduceNeg, valloc_std, noSB, vhot, e]
        exact ⟨rfl, toσ _ _ r6⟩
      | false =>
        obtain ⟨fv, o5, hR5⟩ := R5.hd
        have hgo5 := h.ok rs[i] (List.getElem_mem hi)
        have hgl := (hok.get hg).2.2.2
        obtain ⟨g, hgd⟩ : ∃ g, g = rs[i] := ⟨_, rfl⟩
        obtain ⟨ro, hq, _, hai, hli⟩ := hR5.at hi
        rw [← hgd] at hli hgo5 hgl hnm hg
        simp only [Fl.len] at hgl
        have e : syncD n d = (0, { (rawD d).2 with files := putF ⟨n, g.f.safe ++ g.f.wait, []⟩ d.files }) := by
          unfold syncD; rw [if_neg hz', if_neg (by rw [hgo]; simp), hg]; rfl
        obtain ⟨s1, hs1⟩ : ∃ s1 : St, s1 = ⟨t5.objs ++ [.cells g.cells], t5.toks⟩ := ⟨_, rfl⟩
        have hst := fileNew (σ := t5) hgo5
        rw [← hs1] at hst
        have Ks : KS [] t5 s1 := by rw [hs1]; exact KS.push _ _ _
        have ob : s1.objs[t5.objs.length]? = some (.cells g.cells) := by rw [hs1]; exact push_new _ _
        have hz : vcells (V.agg [.str [], .nils, .nils]) = [.str [], .nils, .nils] := rfl
        have ls : vload Tryz.prog s1.objs 30 (.optr t5.objs.length 1) = some g.s := by rw [vload_obj ob pGB]; rfl
        have lw : vload Tryz.prog s1.objs 30 (.optr t5.objs.length 2) = some g.w := by rw [vload_obj ob pGB]; rfl
        obtain ⟨v1, t1, v2, t2, c1, c2, c3, c4, c5, c6, c7, c8⟩ := copy2 (σ := s1) (v := g.s) (w := g.w) (.inl hgo5.1) (.inl hgo5.2) (by omega)
        have lw1 : vload Tryz.prog t1.objs 30 (.optr t5.objs.length 2) = some g.w := by rw [c7]; exact lw
        have K2 : KS [] t5 t2 := Ks.trans' c6
        have R2 : RefAt t2 r (rawD d).2 q rs := R5.keep K2 fun x _ => by simp
        have o2 := K2.ko _ _ (by simp) o5
        have o1 := (Ks.trans' c5).ko _ _ (by simp) o5
        have os := Ks.ko _ _ (by simp) o5
        have lf5 : vload Tryz.prog t5.objs 46 (.optr r 0) = some fv := by rw [vload_obj o5 GFS]; rfl
        have lfs : vload Tryz.prog s1.objs 46 (.optr r 0) = some fv := by rw [vload_obj os GFS]; rfl
        have lf2 : vload Tryz.prog t2.objs 46 (.optr r 0) = some fv := by rw [vload_obj o2 GFS]; rfl
        have lf1 : vload Tryz.prog t1.objs 46 (.optr r 0) = some fv := by rw [vload_obj o1 GFS]; rfl
        have hyo : (⟨⟨n, g.f.safe ++ g.f.wait, []⟩, v2, .nils⟩ : RE).Ok := ⟨c4, .inl ⟨rfl, rfl⟩⟩
        obtain ⟨ro2, t3, ha3, hs3, hN⟩ := R2.set hok.raw hi hyo (by rw [← hgd]; exact hnm) (hR5.keep K2 fun x _ => by simp)
        have hro : ro2 = ro := by rw [hai] at ha3; injection ha3 with ha3; injection ha3 with e1; exact e1.symm
        subst hro
        have hbl := vfile2 n v2 c4.one
        simp only [RE.cells] at hs3
        simp only [k12_a, WK, vop, evAll, evOpt, evParts, vbuiltin, vun, vextract, Nat.reduceLT, Nat.reduceEqDiff, ↓reduceIte, reduceCtorEq, Nat.reduceAdd, Int.reduceLT, Int.reduceNeg, valloc_std, noSB, vhot, rFA r 0 (by omega), lf5, hai, hli, ZFi, vbox, hz, hst, lfs, fb0, fFA1, fFA2, Nat.zero_add, ls, c1, lw, lw1, lf1, lf2, c2, hbl, hs3, e]
        have := hN fv o2 rfl
        rw [f1] at this
        refine ⟨rfl, toσ _ _ (RNext.trans (K5.trans' (K2.mono fun x hx => by cases hx)) (fun x hx => .inl hx) this)⟩
  · have hr' : ¬ ((readyD d n : Nat) : Int) = 0 := by omega
    have ht : thereD d n = readyD d n := by unfold thereD; rw [if_pos hr]
    have e : syncD n d = (readyD d n, d) := by unfold syncD; rw [ht, if_pos hr]
    simp only [k12_a, WK, vop, evAll, evOpt, evParts, vbuiltin, vun, vextract, Nat.reduceLT, Nat.reduceEqDiff, ↓reduceIte, reduceCtorEq, Nat.reduceAdd, Int.reduceLT, Int.reduceNeg, valloc_std, noSB, vhot, hr', e]
    exact RNext.refl h
theorem vfile3 (n : List UInt8) (s w : V) (h : one s = true) (h2 : one w = true) : vbuild Tryz.prog 81 [(0, .str n), (1, s), (2, w)] = some (.agg [.str n, s, w]) := by
  cases s <;> cases w <;> first | (cases h; done) | (cases h2; done) | kernel_rfl
theorem rremove_sees {σ : St} {r : Nat} {d : Dk} {q : Option Nat} {rs : List RE} {n : List UInt8} (h : RefAt σ r d q rs) (hok : d.Ok) (hw : d.writes < 4611686018427387904) :
    ∃ p σ', Does Tryz.prog prims 56 [.optr r 0, .str n] σ p σ' ∧ (p = .ret (.int .i64 ((removeD n d).1 : Nat)) ∧ RNext σ r q σ' (removeD n d).2) := by
  apply k56_is.does (by simp)
  simp only [k56_a, WK, vop, evAll, evOpt, evParts, vbuiltin, vun, vextract, Nat.reduceLT, Nat.reduceEqDiff, ↓reduceIte, reduceCtorEq, Nat.reduceAdd, Int.reduceLT, Int.reduceNeg, valloc_std, noSB, vhot, gD0, gD1]
  refine KD.ret (rready_does h n) ?_
  by_cases hr : readyD d n = 0
  · have hr' : ((readyD d n : Nat) : Int) = 0 := by omega
    have hn0 : ¬ readyD d n ≠ 0 := fun h => h hr
    obtain ⟨hfew, hfl⟩ := h.few hok
    simp only [k56_a, WK, vop, evAll, evOpt, evParts, vbuiltin, vun, vextract, Nat.reduceLT, Nat.reduceEqDiff, ↓reduceIte, reduceCtorEq, Nat.reduceAdd, Int.reduceLT, Int.reduceNeg, valloc_std, noSB, vhot, hr']
    obtain ⟨p, σ1, ha, K1, hp⟩ := rat_does h (by omega) n
    have R1 : RefAt σ1 r d q rs := h.keep K1 fun x _ => by simp
    rcases hp with ⟨rfl, hno⟩ | ⟨i, hi, rfl, hnm⟩
    · have hg := h.get_no hno
      have ht : thereD d n = 21 := by unfold thereD; rw [if_neg hn0, hg]; rfl
      have e : removeD n d = (21, d) := by unfold removeD; rw [if_pos (by rw [ht]; simp), ht]
      have hneg : (-1 : Int) < 0 := by decide
      refine KD.ret ha ?_
      simp only [k56_a, WK, vop, evAll, evOpt, evParts, vbuiltin, vun, vextract, Nat.reduceLT, Nat.reduceEqDiff, ↓reduceIte, reduceCtorEq, Nat.reduceAdd, Int.reduceLT, Int.reduceNeg, valloc_std, noSB, vhot, hneg, decide_true, e]
      exact ⟨rfl, RNext.only h K1⟩
    · have hg := h.get_yes hok hi hnm
      have ht : thereD d n = 0 := by unfold thereD; rw [if_neg hn0, hg]; rfl
      have hz' : ¬ thereD d n ≠ 0 := fun h => h ht
      have hneg : ¬ ((i : Nat) : Int) < 0 := by omega
      obtain ⟨t5, r1, R5, K5, lk, t6, r5, r6⟩ := rrawNext R1 hok hw
      obtain ⟨f1, f2, f3, f4, f5⟩ := raw_files d
      have toσ : ∀ (u : St) (d' : Dk), RNext σ1 r q u d' → RNext σ r q u d' := fun u d' hN => RNext.trans (K1.mono fun x hx => by cases hx) (fun x hx => .inl hx) hN
      refine KD.ret ha ?_
      simp only [k56_a, WK, vop, evAll, evOpt, evParts, vbuiltin, vun, vextract, Nat.reduceLT, Nat.reduceEqDiff, ↓reduceIte, reduceCtorEq, Nat.reduceAdd, Int.reduceLT, Int.reduceNeg, valloc_std, noSB, vhot, hneg, decide_false]
      refine KD.ret r1 ?_
      cases hgo : (rawD d).1 with
      | true =>
        have e : removeD n d = (20, offD d.keep (rawD d).2) := by unfold removeD; rw [if_neg hz', if_pos hgo]
        simp only [k56_a, WK, vop, evAll, evOpt, evParts, vbuiltin, vun, vextract, Nat.reduceLT, Nat.reduceEqDiff, ↓reduceIte, reduceCtorEq, Nat.reduceAdd, Int.reduceLT, Int.reduceNeg, valloc_std, noSB, vhot, rFA r 5 (by omega), lk]
        refine KD.ret r5 ?_
        simp only [k56_a, WK, vop, evAll, evOpt, evParts, vbuiltin, vun, vextract, Nat.reduceLT, Nat.reduceEqDiff, ↓reduceIte, reduceCtorEq, Nat.reduceAdd, Int.reduceLT, Int.reduceNeg, valloc_std, noSB, vhot, e]
        exact ⟨rfl, toσ _ _ r6⟩
      | false =>
        have e : removeD n d = (0, { (rawD d).2 with files := dropF n d.files }) := by
          unfold removeD; rw [if_neg hz', if_neg (by rw [hgo]; simp)]
        obtain ⟨t7, hd7, N7⟩ := rdrop_does (n := n) R5 hok.raw
        rw [f1] at N7
        simp only [k56_a, WK, vop, evAll, evOpt, evParts, vbuiltin, vun, vextract, Nat.reduceLT, Nat.reduceEqDiff, ↓reduceIte, reduceCtorEq, Nat.reduceAdd, Int.reduceLT, Int.reduceNeg, valloc_std, noSB, vhot]
        refine KD.ret hd7 ?_
        simp only [k56_a, WK, vop, evAll, evOpt, evParts, vbuiltin, vun, vextract, Nat.reduceLT, Nat.reduceEqDiff, ↓reduceIte, reduceCtorEq, Nat.reduceAdd, Int.reduceLT, Int.reduceNeg, valloc_std, noSB, vhot, e]
        exact ⟨rfl, toσ _ _ (RNext.trans K5 (fun x hx => .inl hx) N7)⟩
  · have hr' : ¬ ((readyD d n : Nat) : Int) = 0 := by omega
    have ht : thereD d n = readyD d n := by unfold thereD; rw [if_pos hr]
    have e : removeD n d = (readyD d n, d) := by unfold removeD; rw [ht, if_pos hr]
    simp only [k56_a, WK, vop, evAll, evOpt, evParts, vbuiltin, vun, vextract, Nat.reduceLT, Nat.reduceEqDiff, ↓reduceIte, reduceCtorEq, Nat.reduceAdd, Int.reduceLT, Int.reduceNeg, valloc_std, noSB, vhot, hr', e]
    exact RNext.refl h
theorem rrename_sees {σ : St} {r : Nat} {d : Dk} {q : Option Nat} {rs : List RE} {n m : List UInt8} (h : RefAt σ r d q rs) (hok : d.Ok) (hw : d.writes < 4611686018427387904) :
    ∃ p σ', Does Tryz.prog prims 58 [.optr r 0, .str n, .str m] σ p σ' ∧ (p = .ret (.int .i64 ((renameD n m d).1 : Nat)) ∧ RNext σ r q σ' (renameD n m d).2) := by
  apply k58_is.does (by simp)
  have vn : ∀ s : List UInt8, vlen Tryz.prog 9 (.str s) = some (.int .i64 (s.length : Nat)) := fun s => by simp [vlen, T9]
  obtain ⟨fv0, o0, hR0⟩ := h.hd
  have lo : vload Tryz.prog σ.objs 4 (.optr r 2) = some (.bool d.on) := by rw [vload_obj o0 G4]; rfl
  have bad : namedD n = false ∨ namedD m = false → renameD n m d = (1, d) := fun hb => by unfold renameD; rw [if_pos hb]
  by_cases a1 : n.length < 1
  · have a1' : (n.length : Int) < 1 := by omega
    simp only [k58_a, WK, vop, evAll, evOpt, evParts, vbuiltin, vun, vextract, Nat.reduceLT, Nat.reduceEqDiff, ↓reduceIte, reduceCtorEq, Nat.reduceAdd, Int.reduceLT, Int.reduceNeg, valloc_std, noSB, vhot, gD0, gD1, vn, a1', decide_true, bad (.inl (by simp [namedD]; omega))]
    exact ⟨rfl, RNext.refl h⟩
  have a1' : ¬ (n.length : Int) < 1 := by omega
  by_cases a2 : 16 < n.length
  · have a2' : (16 : Int) < (n.length : Int) := by omega
    simp only [k58_a, WK, vop, evAll, evOpt, evParts, vbuiltin, vun, vextract, Nat.reduceLT, Nat.reduceEqDiff, ↓reduceIte, reduceCtorEq, Nat.reduceAdd, Int.reduceLT, Int.reduceNeg, valloc_std, noSB, vhot, gD0, gD1, vn, a1', a2', decide_true, decide_false, bad (.inl (by simp [namedD]; omega))]
    exact ⟨rfl, RNext.refl h⟩
  have a2' : ¬ (16 : Int) < (n.length : Int) := by omega
  by_cases b1 : m.length < 1
  · have b1' : (m.length : Int) < 1 := by omega
    simp only [k58_a, WK, vop, evAll, evOpt, evParts, vbuiltin, vun, vextract, Nat.reduceLT, Nat.reduceEqDiff, ↓reduceIte, reduceCtorEq, Nat.reduceAdd, Int.reduceLT, Int.reduceNeg, valloc_std, noSB, vhot, gD0, gD1, vn, a1', a2', b1', decide_true, decide_false, bad (.inr (by simp [namedD]; omega))]
    exact ⟨rfl, RNext.refl h⟩
  have b1' : ¬ (m.length : Int) < 1 := by omega
  by_cases b2 : 16 < m.length
  · have b2' : (16 : Int) < (m.length : Int) := by omega
    simp only [k58_a, WK, vop, evAll, evOpt, evParts, vbuiltin, vun, vextract, Nat.reduceLT, Nat.reduceEqDiff, ↓reduceIte, reduceCtorEq, Nat.reduceAdd, Int.reduceLT, Int.reduceNeg, valloc_std, noSB, vhot, gD0, gD1, vn, a1', a2', b1', b2', decide_true, decide_false, bad (.inr (by simp [namedD]; omega))]
    exact ⟨rfl, RNext.refl h⟩
  have b2' : ¬ (16 : Int) < (m.length : Int) := by omega
  have hn : namedD n = true := by simp [namedD]; omega
  have hm : namedD m = true := by simp [namedD]; omega
  have hnm : ¬ (namedD n = false ∨ namedD m = false) := by rw [hn, hm]; simp
  cases hon : d.on with
  | false =>
    rw [hon] at lo
    have e : renameD n m d = (20, d) := by
      have : thereD d n = 20 := by unfold thereD readyD; simp [hn, hon]
      unfold renameD; rw [if_neg hnm, this]; rfl
    simp only [k58_a, WK, vop, evAll, evOpt, evParts, vbuiltin, vun, vextract, Nat.reduceLT, Nat.reduceEqDiff, ↓reduceIte, reduceCtorEq, Nat.reduceAdd, Int.reduceLT, Int.reduceNeg, valloc_std, noSB, vhot, gD0, gD1, vn, a1', a2', b1', b2', decide_true, decide_false, e]
    simp only [k58_a, WK, vop, evAll, evOpt, evParts, vbuiltin, vun, vextract, Nat.reduceLT, Nat.reduceEqDiff, ↓reduceIte, reduceCtorEq, Nat.reduceAdd, Int.reduceLT, Int.reduceNeg, valloc_std, noSB, vhot, gD0, gD1, rFA r 2 (by omega), lo, Bool.not_false]
    exact ⟨rfl, RNext.refl h⟩
  | true =>
    rw [hon] at lo
    have hr : readyD d n = 0 := by simp [readyD, hn, hon]
    have hn0 : ¬ readyD d n ≠ 0 := fun h => h hr
    obtain ⟨hfew, hfl⟩ := h.few hok
    simp only [k58_a, WK, vop, evAll, evOpt, evParts, vbuiltin, vun, vextract, Nat.reduceLT, Nat.reduceEqDiff, ↓reduceIte, reduceCtorEq, Nat.reduceAdd, Int.reduceLT, Int.reduceNeg, valloc_std, noSB, vhot, gD0, gD1, vn, a1', a2', b1', b2', decide_true, decide_false]
    simp only [k58_a, WK, vop, evAll, evOpt, evParts, vbuiltin, vun, vextract, Nat.reduceLT, Nat.reduceEqDiff, ↓reduceIte, reduceCtorEq, Nat.reduceAdd, Int.reduceLT, Int.reduceNeg, valloc_std, noSB, vhot, gD0, gD1, rFA r 2 (by omega), lo, Bool.not_true]
    obtain ⟨p, σ1, ha, K1, hp⟩ := rat_does h (by omega) n
    have R1 : RefAt σ1 r d q rs := h.keep K1 fun x _ => by simp
    rcases hp with ⟨rfl, hno⟩ | ⟨i, hi, rfl, hnmi⟩
    · have hg := h.get_no hno
      have ht : thereD d n = 21 := by unfold thereD; rw [if_neg hn0, hg]; rfl
      have e : renameD n m d = (21, d) := by unfold renameD; rw [if_neg hnm, if_pos (by rw [ht]; simp), ht]
      have hneg : (-1 : Int) < 0 := by decide
      refine KD.ret ha ?_
      simp only [k58_a, WK, vop, evAll, evOpt, evParts, vbuiltin, vun, vextract, Nat.reduceLT, Nat.reduceEqDiff, ↓reduceIte, reduceCtorEq, Nat.reduceAdd, Int.reduceLT, Int.reduceNeg, valloc_std, noSB, vhot, hneg, decide_true, e]
      exact ⟨rfl, RNext.only h K1⟩
    · have hg := h.get_yes hok hi hnmi
      have ht : thereD d n = 0 := by unfold thereD; rw [if_neg hn0, hg]; rfl
      have hz' : ¬ thereD d n ≠ 0 := fun h => h ht
      have hneg : ¬ ((i : Nat) : Int) < 0 := by omega
      obtain ⟨t5, r1, R5, K5, lk, t6, r5, r6⟩ := rrawNext R1 hok hw
      obtain ⟨f1, f2, f3, f4, f5⟩ := raw_files d
      have toσ : ∀ (u : St) (d' : Dk), RNext σ1 r q u d' → RNext σ r q u d' := fun u d' hN => RNext.trans (K1.mono fun x hx => by cases hx) (fun x hx => .inl hx) hN
      refine KD.ret ha ?_
      simp only [k58_a, WK, vop, evAll, evOpt, evParts, vbuiltin, vun, vextract, Nat.reduceLT, Nat.reduceEqDiff, ↓reduceIte, reduceCtorEq, Nat.reduceAdd, Int.reduceLT, Int.reduceNeg, valloc_std, noSB, vhot, hneg, decide_false]
      refine KD.ret r1 ?_
      cases hgo : (rawD d).1 with
      | true =>
        have e : renameD n m d = (20, offD d.keep (rawD d).2) := by unfold renameD; rw [if_neg hnm, if_neg hz', if_pos hgo]
        simp only [k58_a, WK, vop, evAll, evOpt, evParts, vbuiltin, vun, vextract, Nat.reduceLT, Nat.reduceEqDiff, ↓reduceIte, reduceCtorEq, Nat.reduceAdd, Int.reduceLT, Int.reduceNeg, valloc_std, noSB, vhot, rFA r 5 (by omega), lk]
        refine KD.ret r5 ?_
        simp only [k58_a, WK, vop, evAll, evOpt, evParts, vbuiltin, vun, vextract, Nat.reduceLT, Nat.reduceEqDiff, ↓reduceIte, reduceCtorEq, Nat.reduceAdd, Int.reduceLT, Int.reduceNeg, valloc_std, noSB, vhot, e]
        exact ⟨rfl, toσ _ _ r6⟩
      | false =>
        obtain ⟨fv, o5, hR5⟩ := R5.hd
        have hgo5 := h.ok rs[i] (List.getElem_mem hi)
        obtain ⟨g, hgd⟩ : ∃ g, g = rs[i] := ⟨_, rfl⟩
        obtain ⟨ro, hq, _, hai, hli⟩ := hR5.at hi
        rw [← hgd] at hli hgo5 hnmi hg
        have e : renameD n m d = (0, { (rawD d).2 with files := putF ⟨m, g.f.safe, g.f.wait⟩ (dropF n d.files) }) := by
          unfold renameD; rw [if_neg hnm, if_neg hz', if_neg (by rw [hgo]; simp), hg]; rfl
        obtain ⟨s1, hs1⟩ : ∃ s1 : St, s1 = ⟨t5.objs ++ [.cells g.cells], t5.toks⟩ := ⟨_, rfl⟩
        have hst := fileNew (σ := t5) hgo5
        rw [← hs1] at hst
        have Ks : KS [] t5 s1 := by rw [hs1]; exact KS.push _ _ _
        have ob : s1.objs[t5.objs.length]? = some (.cells g.cells) := by rw [hs1]; exact push_new _ _
        have hz : vcells (V.agg [.str [], .nils, .nils]) = [.str [], .nils, .nils] := rfl
        have lf5 : vload Tryz.prog t5.objs 46 (.optr r 0) = some fv := by rw [vload_obj o5 GFS]; rfl
        have Rs : RefAt s1 r (rawD d).2 q rs := R5.keep Ks fun x _ => by simp
        obtain ⟨t7, hd7, q7, rs7, R7, K7, I7⟩ := rdrop_does (n := n) Rs hok.raw
        have hbn : t5.objs.length ∉ r :: q.toList := fun hx => by have := R5.lt _ hx; omega
        have ob7 := K7.ko _ _ hbn ob
        have ls : vload Tryz.prog t7.objs 30 (.optr t5.objs.length 1) = some g.s := by rw [vload_obj ob7 pGB]; rfl
        have lw : vload Tryz.prog t7.objs 30 (.optr t5.objs.length 2) = some g.w := by rw [vload_obj ob7 pGB]; rfl
        have hyo : (⟨⟨m, g.f.safe, g.f.wait⟩, g.s, g.w⟩ : RE).Ok := hgo5
        obtain ⟨t8, hd8, N8⟩ := rput_does (x := ⟨⟨m, g.f.safe, g.f.wait⟩, g.s, g.w⟩) R7 (hok.raw.drop n) hyo
        simp only [RE.cells] at hd8
        rw [f1] at N8
        have hbl := vfile3 m g.s g.w hgo5.1.one hgo5.2.one
        simp only [k58_a, WK, vop, evAll, evOpt, evParts, vbuiltin, vun, vextract, Nat.reduceLT, Nat.reduceEqDiff, ↓reduceIte, reduceCtorEq, Nat.reduceAdd, Int.reduceLT, Int.reduceNeg, valloc_std, noSB, vhot, rFA r 0 (by omega), lf5, hai, hli, ZFi, vbox, hz, hst]
        refine KD.ret hd7 ?_
        simp only [k58_a, WK, vop, evAll, evOpt, evParts, vbuiltin, vun, vextract, Nat.reduceLT, Nat.reduceEqDiff, ↓reduceIte, reduceCtorEq, Nat.reduceAdd, Int.reduceLT, Int.reduceNeg, valloc_std, noSB, vhot, fFA1, fFA2, Nat.zero_add, ls, lw, hbl]
        refine KD.ret hd8 ?_
        simp only [k58_a, WK, vop, evAll, evOpt, evParts, vbuiltin, vun, vextract, Nat.reduceLT, Nat.reduceEqDiff, ↓reduceIte, reduceCtorEq, Nat.reduceAdd, Int.reduceLT, Int.reduceNeg, valloc_std, noSB, vhot, e]
        refine ⟨rfl, toσ _ _ (RNext.trans (K5.trans' (Ks.mono fun x hx => by cases hx)) (fun x hx => .inl hx) (RNext.trans K7 I7 N8))⟩
theorem rread_sees {σ : St} {r : Nat} {d : Dk} {q : Option Nat} {rs : List RE} {n : List UInt8} (h : RefAt σ r d q rs) (hok : d.Ok) :
    ∃ p σ', Does Tryz.prog prims 55 [.optr r 0, .str n] σ p σ' ∧ ∃ v, p = .ret (.tuple [v, .int .i64 ((readD n d).1 : Nat)]) ∧ BtsV v (readD n d).2 ∧ KS [] σ σ' := by
  apply k55_is.does (by simp)
  simp only [k55_a, WK, vop, evAll, evOpt, evParts, vbuiltin, vun, vextract, Nat.reduceLT, Nat.reduceEqDiff, ↓reduceIte, reduceCtorEq, Nat.reduceAdd, Int.reduceLT, Int.reduceNeg, valloc_std, noSB, vhot, gD0, gD1, nilEP]
  refine KD.ret (rready_does h n) ?_
  by_cases hr : readyD d n = 0
  · have hr' : ((readyD d n : Nat) : Int) = 0 := by omega
    have hn0 : ¬ readyD d n ≠ 0 := fun h => h hr
    obtain ⟨hfew, hfl⟩ := h.few hok
    simp only [k55_a, WK, vop, evAll, evOpt, evParts, vbuiltin, vun, vextract, Nat.reduceLT, Nat.reduceEqDiff, ↓reduceIte, reduceCtorEq, Nat.reduceAdd, Int.reduceLT, Int.reduceNeg, valloc_std, noSB, vhot, hr']
    obtain ⟨p, σ1, ha, K1, hp⟩ := rat_does h (by omega) n
    have R1 : RefAt σ1 r d q rs := h.keep K1 fun x _ => by simp
    rcases hp with ⟨rfl, hno⟩ | ⟨i, hi, rfl, hnm⟩
    · have hg := h.get_no hno
      have ht : thereD d n = 21 := by unfold thereD; rw [if_neg hn0, hg]; rfl
      have e : readD n d = (21, []) := by unfold readD; rw [if_pos (by rw [ht]; simp), ht]
      have hneg : (-1 : Int) < 0 := by decide
      refine KD.ret ha ?_
      simp only [k55_a, WK, vop, evAll, evOpt, evParts, vbuiltin, vun, vextract, Nat.reduceLT, Nat.reduceEqDiff, ↓reduceIte, reduceCtorEq, Nat.reduceAdd, Int.reduceLT, Int.reduceNeg, valloc_std, noSB, vhot, hneg, decide_true, nilEP, e]
      exact ⟨.nils, rfl, .inl ⟨rfl, rfl⟩, K1⟩
    · have hg := h.get_yes hok hi hnm
      have ht : thereD d n = 0 := by unfold thereD; rw [if_neg hn0, hg]; rfl
      have hz' : ¬ thereD d n ≠ 0 := fun h => h ht
      have hneg : ¬ ((i : Nat) : Int) < 0 := by omega
      obtain ⟨fv, o1, hR1⟩ := R1.hd
      have hgo := h.ok rs[i] (List.getElem_mem hi)
      have hgl := (hok.get hg).2.2.2
      obtain ⟨g, hgd⟩ : ∃ g, g = rs[i] := ⟨_, rfl⟩
      obtain ⟨ro, hq, hro, hai, hli⟩ := hR1.at hi
      rw [← hgd] at hli hgo hgl hnm hg
      simp only [Fl.len] at hgl
      have e : readD n d = (0, g.f.safe ++ g.f.wait) := by unfold readD; rw [if_neg hz', hg]; rfl
      have hle : i * 3 + 3 ≤ (rcells rs).length := by rw [rcells_len]; omega
      have hat : ∀ j, j < 3 → (rcells rs)[i * 3 + j]? = g.cells[j]? := by
        intro j hj
        have h1 : ((rcells rs).drop (i * 3)).take 3 = g.cells := by unfold rcells; rw [flat_part RE.cells_len hi, hgd]
        rw [← h1, List.getElem?_take_of_lt hj, List.getElem?_drop]
      have lf : vload Tryz.prog σ1.objs 46 (.optr r 0) = some fv := by rw [vload_obj o1 GFS]; rfl
      have ls : vload Tryz.prog σ1.objs 30 (.optr ro (i * 3 + 1)) = some g.s := by rw [vload_obj hro pGB, hat 1 (by omega)]; rfl
      have lw : vload Tryz.prog σ1.objs 30 (.optr ro (i * 3 + 2)) = some g.w := by rw [vload_obj hro pGB, hat 2 (by omega)]; rfl
      obtain ⟨v1, t1, v2, t2, c1, c2, c3, c4, c5, c6, c7, c8⟩ := copy2 (σ := σ1) (v := g.s) (w := g.w) (.inl hgo.1) (.inl hgo.2) (by omega)
      have lf1 : vload Tryz.prog t1.objs 46 (.optr r 0) = some fv := by rw [c7]; exact lf
      have lw1 : vload Tryz.prog t1.objs 30 (.optr ro (i * 3 + 2)) = some g.w := by rw [c7]; exact lw
      refine KD.ret ha ?_
      simp only [k55_a, WK, vop, evAll, evOpt, evParts, vbuiltin, vun, vextract, Nat.reduceLT, Nat.reduceEqDiff, ↓reduceIte, reduceCtorEq, Nat.reduceAdd, Int.reduceLT, Int.reduceNeg, valloc_std, noSB, vhot, hneg, decide_false, nilEP, fb0, rFA r 0 (by omega), lf, hai, fFA1, fFA2, ls, c1, lf1, lw, lw1, c2, e]
      exact ⟨v2, rfl, c4, K1.trans' c6⟩
  · have hr' : ¬ ((readyD d n : Nat) : Int) = 0 := by omega
    have ht : thereD d n = readyD d n := by unfold thereD; rw [if_pos hr]
    have e : readD n d = (readyD d n, []) := by unfold readD; rw [ht, if_pos hr]
    simp only [k55_a, WK, vop, evAll, evOpt, evParts, vbuiltin, vun, vextract, Nat.reduceLT, Nat.reduceEqDiff, ↓reduceIte, reduceCtorEq, Nat.reduceAdd, Int.reduceLT, Int.reduceNeg, valloc_std, noSB, vhot, hr', e, nilEP]
    exact ⟨.nils, rfl, .inl ⟨rfl, rfl⟩, KS.refl _ _⟩
theorem RefAt.headN {σ : St} {r : Nat} {d d2 : Dk} {q : Option Nat} {rs : List RE} (h : RefAt σ r d q rs) (hf : d2.files = d.files) {fv : V} (o : σ.objs[r]? = some (.cells [fv, .int .i64 d.room, .bool d.on, .int .i64 (d.writes : Nat), .int .i64 (d.armed : Nat), .int .i64 d.keep])) (hv : RRow σ.objs fv q rs) {σ' : St} (hs : σ' = ⟨σ.objs.set r (.cells [fv, .int .i64 d2.room, .bool d2.on, .int .i64 (d2.writes : Nat), .int .i64 (d2.armed : Nat), .int .i64 d2.keep]), σ.toks⟩) :
    RNext σ r q σ' d2 ∧ RefAt σ' r d2 q rs ∧ RRow σ'.objs fv q rs ∧ σ'.objs[r]? = some (.cells [fv, .int .i64 d2.room, .bool d2.on, .int .i64 (d2.writes : Nat), .int .i64 (d2.armed : Nat), .int .i64 d2.keep]) := by
  obtain ⟨D1, K1⟩ := h.head hf hv hs
  have K2 : KS [r] σ σ' := by rw [hs]; exact KS.set (.inl (by simp)) _
  exact ⟨⟨q, rs, D1, K1, fun x hx => .inl hx⟩, D1, hv.keep K2 fun z hz hz2 => h.ne (by rw [List.mem_singleton] at hz2; rw [← hz2]; exact hz), by rw [hs]; exact obj_set o⟩
theorem rarm_does {σ : St} {r : Nat} {d : Dk} {q : Option Nat} {rs : List RE} (h : RefAt σ r d q rs) (n k : Int) : ∃ σ', Does Tryz.prog prims 19 [.optr r 0, .int .i64 n, .int .i64 k] σ (.ret (.tuple [])) σ' ∧ RNext σ r q σ' (armD n k d) := by
  have key : ∃ p σ', Does Tryz.prog prims 19 [.optr r 0, .int .i64 n, .int .i64 k] σ p σ' ∧ (p = .ret (.tuple []) ∧ RNext σ r q σ' (armD n k d)) := by
    apply k19_is.does (by simp)
    obtain ⟨fv, o, hR⟩ := h.hd
    obtain ⟨s1, hs1⟩ : ∃ s1 : St, s1 = ⟨σ.objs.set r (.cells [fv, .int .i64 d.room, .bool d.on, .int .i64 (d.writes : Nat), .int .i64 n, .int .i64 d.keep]), σ.toks⟩ := ⟨_, rfl⟩
    have st1 : vstore Tryz.prog σ 3 (.optr r 4) (.int .i64 n) = some s1 := by rw [vstore_obj o S3 rfl (by simp), hs1]; rfl
    have o1 : s1.objs[r]? = some (.cells [fv, .int .i64 d.room, .bool d.on, .int .i64 (d.writes : Nat), .int .i64 n, .int .i64 d.keep]) := by rw [hs1]; exact obj_set o
    have hfin : ∀ s2 : St, s2 = ⟨σ.objs.set r (.cells [fv, .int .i64 (armD n k d).room, .bool (armD n k d).on, .int .i64 ((armD n k d).writes : Nat), .int .i64 ((armD n k d).armed : Nat), .int .i64 (armD n k d).keep]), σ.toks⟩ → RNext σ r q s2 (armD n k d) := fun s2 hs2 => (h.headN (d2 := armD n k d) rfl o hR hs2).1
    by_cases hn : n < 0
    · obtain ⟨s2, hs2⟩ : ∃ s2 : St, s2 = ⟨s1.objs.set r (.cells [fv, .int .i64 d.room, .bool d.on, .int .i64 (d.writes : Nat), .int .i64 0, .int .i64 d.keep]), s1.toks⟩ := ⟨_, rfl⟩
      have st2 : vstore Tryz.prog s1 3 (.optr r 4) (.int .i64 0) = some s2 := by rw [vstore_obj o1 S3 rfl (by simp), hs2]; rfl
      have o2 : s2.objs[r]? = some (.cells [fv, .int .i64 d.room, .bool d.on, .int .i64 (d.writes : Nat), .int .i64 0, .int .i64 d.keep]) := by rw [hs2]; exact obj_set o1
      have st3 := vstore_obj (P := Tryz.prog) (off := 5) (t := 3) (v := .int .i64 k) o2 S3 rfl (by simp)
      simp only [k19_a, WK, vop, evAll, evOpt, evParts, vbuiltin, vun, vextract, Nat.reduceLT, Nat.reduceEqDiff, ↓reduceIte, reduceCtorEq, Nat.reduceAdd, Int.reduceLT, Int.reduceNeg, valloc_std, noSB, vhot, gD0, gD1, rFA r 4 (by omega), rFA r 5 (by omega), st1, hn, decide_true, st2, st3]
      refine hfin _ ?_
      rw [hs2, hs1]
      have : n.toNat = 0 := by omega
      simp only [armD, this, List.set_set]
      rfl
    · have st2 := vstore_obj (P := Tryz.prog) (off := 5) (t := 3) (v := .int .i64 k) o1 S3 rfl (by simp)
      simp only [k19_a, WK, vop, evAll, evOpt, evParts, vbuiltin, vun, vextract, Nat.reduceLT, Nat.reduceEqDiff, ↓reduceIte, reduceCtorEq, Nat.reduceAdd, Int.reduceLT, Int.reduceNeg, valloc_std, noSB, vhot, gD0, gD1, rFA r 4 (by omega), rFA r 5 (by omega), st1, hn, decide_false, st2]
      refine hfin _ ?_
      rw [hs1]
      have : ((n.toNat : Nat) : Int) = n := by omega
      simp only [armD, this, List.set_set]
      rfl
  obtain ⟨p, σ', h1, rfl, h2⟩ := key
  exact ⟨σ', h1, h2⟩
theorem sb1 (s : List UInt8) : vbuildSlice Tryz.prog 70 1 [(0, .str s)] = some (.slice .exact 1 [.str s] 1) := by kernel_rfl
theorem rnames_sees {σ : St} {r : Nat} {d : Dk} {q : Option Nat} {rs : List RE} (h : RefAt σ r d q rs) (hok : d.Ok) :
    ∃ p σ', Does Tryz.prog prims 59 [.optr r 0] σ p σ' ∧ ∃ v, p = .ret v ∧ RowV 1 v ((namesD d).map V.str) (namesD d).length ∧ KS [] σ σ' := by
  apply k59_is.does (by simp)
  obtain ⟨hfew, hfl⟩ := h.few hok
  obtain ⟨fv, o, hR⟩ := h.hd
  have lf : vload Tryz.prog σ.objs 46 (.optr r 0) = some fv := by rw [vload_obj o GFS]; rfl
  have hnm : namesD d = if d.on = true then rs.map (fun x => x.f.name) else [] := by unfold namesD; rw [← h.fl, List.map_map]; rfl
  simp only [k59_a, WK, vop, evAll, evOpt, evParts, vbuiltin, vun, vextract, Nat.reduceLT, Nat.reduceEqDiff, ↓reduceIte, reduceCtorEq, Nat.reduceAdd, Int.reduceLT, Int.reduceNeg, valloc_std, noSB, vhot, gD0, gD1, nilEP, rFA r 0 (by omega), lf, hR.len]
  refine Ev.loopF (fun (i : Nat) e s => e 11 = .int .i64 (i : Nat) ∧ i ≤ rs.length ∧ KS [] σ s ∧ OwnR 9 1 σ.toks.length s (e 3) ((if d.on = true then (rs.take i).map (fun x => x.f.name) else []).map V.str) (if d.on = true then (rs.take i).map (fun x => x.f.name) else []).length) (fun i => rs.length - i) 0 ⟨by simp [upd_some], Nat.zero_le _, KS.refl _ _, by cases d.on <;> simpa [upd_some] using (OwnR.nil (e := 9) (k := 1) (m := σ.toks.length) (σ := σ))⟩ ?_
  rintro i e s ⟨h11, hi, hk, h3⟩ hf
  have h0 : e 0 = .optr r 0 := (hf 0 (by decide)).trans (by simp [upd_some])
  have h9 : e 9 = fv := (hf 9 (by decide)).trans (by simp [upd_some])
  have h10 : e 10 = .int .i64 (rs.length : Nat) := (hf 10 (by decide)).trans (by simp [upd_some])
  clear hf
  by_cases hlt : i < rs.length
  · have hlt' : (i : Int) < rs.length := by omega
    have hwi : IntKind.i64.wrap ((i : Int) + 1) = ((i + 1 : Nat) : Int) := by rw [show ((i : Int) + 1) = ((i + 1 : Nat) : Int) from by omega]; exact wrap_nat (by omega)
    obtain ⟨ro, _, _, ha, hl⟩ := (hR.keep hk fun x _ => by simp).at hlt
    have hx := h.ok rs[i] (List.getElem_mem hlt)
    obtain ⟨g, hg⟩ : ∃ g, g = rs[i] := ⟨_, rfl⟩
    rw [← hg] at hl hx
    obtain ⟨s1, hs1⟩ : ∃ s1 : St, s1 = ⟨s.objs ++ [.cells g.cells], s.toks⟩ := ⟨_, rfl⟩
    have hst := fileNew (σ := s) hx
    rw [← hs1] at hst
    have K1 : KS [] s s1 := by rw [hs1]; exact KS.push _ _ _
    have ho : s1.objs[s.objs.length]? = some (.cells g.cells) := by rw [hs1]; exact push_new _ _
    have hz : vcells (V.agg [.str [], .nils, .nils]) = [.str [], .nils, .nils] := rfl
    have kσ := hk.trans' K1
    have lo : vload Tryz.prog s1.objs 4 (.optr r 2) = some (.bool d.on) := by rw [vload_obj (kσ.ko _ _ (by simp) o) G4]; rfl
    have ln : vload Tryz.prog s1.objs 9 (.optr s.objs.length 0) = some (.str g.f.name) := by rw [vload_obj ho G9]; rfl
    cases hon : d.on with
    | false =>
      rw [hon] at lo h3
      simp only [k59_a, WK, vop, evAll, evOpt, evParts, vbuiltin, vun, vextract, Nat.reduceLT, Nat.reduceEqDiff, ↓reduceIte, reduceCtorEq, Nat.reduceAdd, Int.reduceLT, Int.reduceNeg, valloc_std, noSB, vhot, h11, h10, h9, h0, hlt', decide_true, ha, hl, ZFi, vbox, hz, hst, rFA r 2 (by omega), lo, hwi]
      exact ⟨i + 1, ⟨by simp [upd_some], by omega, kσ, by simpa [upd_some] using h3.keep K1.tk⟩, by omega⟩
    | true =>
      rw [hon] at lo h3
      simp only [if_true, List.length_map, List.length_take, Nat.min_eq_left (Nat.le_of_lt hlt)] at h3
      obtain ⟨v', s2, a1, a2, a3, a4⟩ := (h3.keep K1.tk).append SR rfl kσ.keep (t2 := 70) (y := .slice .exact 1 [.str g.f.name] 1) (ys := [.str g.f.name]) (l := 1) (by simp [vnews, TSS]) rfl rfl (by omega) (by omega)
      simp only [k59_a, WK, vop, evAll, evOpt, evParts, vbuiltin, vun, vextract, Nat.reduceLT, Nat.reduceEqDiff, ↓reduceIte, reduceCtorEq, Nat.reduceAdd, Int.reduceLT, Int.reduceNeg, valloc_std, noSB, vhot, h11, h10, h9, h0, hlt', decide_true, ha, hl, ZFi, vbox, hz, hst, rFA r 2 (by omega), lo, fFA0, ln, sb1, a1, hwi]
      refine ⟨i + 1, ⟨by simp [upd_some], by omega, KS.ofKeep a3, ?_⟩, by omega⟩
      simp only [upd_some, if_true, List.length_map, List.length_take, Nat.min_eq_left (show i + 1 ≤ rs.length from hlt)]
      rw [List.take_succ_eq_append_getElem hlt, List.map_append, List.map_append, ← hg]
      simpa [upd_some] using a2
  · have hlt' : ¬ (i : Int) < rs.length := by omega
    have hall : rs.take i = rs := List.take_of_length_le (by omega)
    rw [hall, ← hnm] at h3
    simp only [k59_a, WK, vop, evAll, evOpt, evParts, vbuiltin, vun, vextract, Nat.reduceLT, Nat.reduceEqDiff, ↓reduceIte, reduceCtorEq, Nat.reduceAdd, Int.reduceLT, Int.reduceNeg, valloc_std, noSB, vhot, h11, h10, hlt', decide_false]
    exact ⟨_, rfl, h3.row, hk⟩
theorem RefAt.pushes {σ σ' : St} {r : Nat} {d : Dk} {q : Option Nat} {rs : List RE} (h : RefAt σ r d q rs) (hk : KS [] σ σ') : RefAt σ' r d q rs := h.keep hk fun x _ => by simp
theorem wakes_run : isTrue (vcall Tryz.prog prims 300 5 [] st0) = true := by kernel_rfl
theorem wakes_does : ∃ σ, Does Tryz.prog prims 5 [] st0 (.ret (.bool true)) σ := by
  obtain ⟨σ, h⟩ := isTrue_eq wakes_run
  exact ⟨σ, 300, h⟩
theorem same5_does {v w : V} {xs bs : List UInt8} {σ : St} (hv : RB σ v xs) (hw : RB σ w bs) (hla : xs.length ≤ 140737488355328) : Does Tryz.prog prims 17 [v, w] σ (.ret (.bool (decide (xs = bs)))) σ := by
  apply k17_is.ret (by simp)
  by_cases hlen : xs.length = bs.length
  · have hne : decide ((xs.length : Int) = bs.length) = true := by simp [hlen]
    simp only [k17_a, WK, vop, evAll, evOpt, evParts, vbuiltin, vun, vextract, Nat.reduceLT, Nat.reduceEqDiff, ↓reduceIte, reduceCtorEq, Nat.reduceAdd, Int.reduceLT, Int.reduceNeg, valloc_std, noSB, vhot, gD0, gD1, hv.len, hw.len, hne]
    refine Ev.loopF (fun i e σ' => σ' = σ ∧ e 13 = .int .i64 (i : Nat) ∧ i ≤ xs.length ∧ xs.take i = bs.take i) (fun i => xs.length - i) 0 ⟨rfl, by simp [upd_some], by simp, by simp⟩ ?_
    rintro i e σ' ⟨rfl, h13, hi, htk⟩ hf
    have h0 : e 0 = v := (hf 0 (by decide)).trans (by simp [upd_some])
    have h1 : e 1 = w := (hf 1 (by decide)).trans (by simp [upd_some])
    have h12 : e 12 = .int .i64 xs.length := (hf 12 (by decide)).trans (by simp [upd_some])
    by_cases hlt : i < xs.length
    · have hlt' : (i : Int) < xs.length := by omega
      have hltb : i < bs.length := by omega
      have hwi : IntKind.i64.wrap ((i : Int) + 1) = ((i + 1 : Nat) : Int) := by rw [show ((i : Int) + 1) = ((i + 1 : Nat) : Int) from by omega]; exact wrap_nat (by omega)
      obtain ⟨p, hp, hlp⟩ := hv.at hlt
      obtain ⟨q, hq, hlq⟩ := hw.at hltb
      by_cases he : xs[i] = bs[i]
      · have hd : decide (((xs[i].toNat : Nat) : Int) = bs[i].toNat) = true := by simp [he]
        simp only [k17_a, WK, vop, evAll, evOpt, evParts, vbuiltin, vun, vextract, Nat.reduceLT, Nat.reduceEqDiff, ↓reduceIte, reduceCtorEq, Nat.reduceAdd, Int.reduceLT, Int.reduceNeg, valloc_std, noSB, vhot, h0, h1, h12, h13, hlt', hp, hq, hlp, hlq, hd, hwi]
        refine ⟨i + 1, ⟨rfl, hlt, ?_⟩, by omega⟩
        rw [List.take_succ_eq_append_getElem hlt, List.take_succ_eq_append_getElem hltb, htk, he]
      · have hd : decide (((xs[i].toNat : Nat) : Int) = bs[i].toNat) = false := by
          simp only [decide_eq_false_iff_not]
          intro h
          exact he (UInt8.toNat_inj.1 (by omega))
        simp only [k17_a, WK, vop, evAll, evOpt, evParts, vbuiltin, vun, vextract, Nat.reduceLT, Nat.reduceEqDiff, ↓reduceIte, reduceCtorEq, Nat.reduceAdd, Int.reduceLT, Int.reduceNeg, valloc_std, noSB, vhot, h0, h1, h12, h13, hlt', hp, hq, hlp, hlq, hd, hwi]
        have : xs ≠ bs := by rintro rfl; exact he rfl
        simp [this]
    · have hlt' : ¬ (i : Int) < xs.length := by omega
      simp only [k17_a, WK, vop, evAll, evOpt, evParts, vbuiltin, vun, vextract, Nat.reduceLT, Nat.reduceEqDiff, ↓reduceIte, reduceCtorEq, Nat.reduceAdd, Int.reduceLT, Int.reduceNeg, valloc_std, noSB, vhot, h0, h1, h12, h13, hlt']
      have : xs = bs := by
        rw [List.take_of_length_le (by omega), List.take_of_length_le (by omega)] at htk
        exact htk
      simp [this]
  · have hne : decide ((xs.length : Int) = bs.length) = false := by simp; omega
    simp only [k17_a, WK, vop, evAll, evOpt, evParts, vbuiltin, vun, vextract, Nat.reduceLT, Nat.reduceEqDiff, ↓reduceIte, reduceCtorEq, Nat.reduceAdd, Int.reduceLT, Int.reduceNeg, valloc_std, noSB, vhot, gD0, gD1, hv.len, hw.len, hne]
    have : xs ≠ bs := by rintro rfl; exact hlen rfl
    simp [this]
theorem decS_len (n : Int) (bs : List UInt8) : (decS n bs).1.length ≤ bs.length := by
  unfold decS
  repeat' split
  all_goals simp
def frameB (r : List UInt8) : List UInt8 := fourB (BitVec.ofNat 32 r.length) ++ fourB (crcSum r) ++ r
def frameS (r : List UInt8) : List UInt8 × Nat := if 65536 < r.length then ([], 3) else (frameB r, 0)
def recAt (b : List UInt8) (i : Nat) : Option Nat :=
  if b.length < i + 8 then none else
  if 65536 < (w4 b i).toNat ∨ b.length < i + 8 + (w4 b i).toNat then none else
  if crcSum ((b.drop (i + 8)).take (w4 b i).toNat) = w4 b (i + 4) then some (w4 b i).toNat else none
inductive Recs (b : List UInt8) : Nat → List (List UInt8) → Nat → Prop where
  | stop {i : Nat} (h : recAt b i = none) : Recs b i [] i
  | more {i n : Nat} {l : List (List UInt8)} {e : Nat} (h : recAt b i = some n) (r : Recs b (i + 8 + n) l e) : Recs b i ((b.drop (i + 8)).take n :: l) e
theorem BBR : RowT Tryz.prog 60 30 1 24 := ⟨TBB, SBs, ⟨_, (by kernel_rfl : zeroT Tryz.prog 30 = some .nils), rfl⟩, by kernel_rfl, by omega⟩
structure OwnB (m : Nat) (s : St) (w : V) (ps : List BV) : Prop where
  o : OwnR 30 1 m s w (ps.map Prod.fst) ps.length
  b : ∀ p ∈ ps, BtsV p.1 p.2
theorem OwnB.nil {m : Nat} {s : St} : OwnB m s .nils [] := ⟨OwnR.nil, fun p hp => by cases hp⟩
theorem OwnB.app {m : Nat} {s0 s : St} {w v : V} {ps : List BV} {bs : List UInt8} (h : OwnB m s w ps) (hm : m = s0.toks.length) (hk : Keep s0 s) (hv : BtsV v bs) (hl : ps.length ≤ 1000000000) :
    ∃ w' s', vappend Tryz.prog s 60 60 w (.slice .exact 1 [v] 1) = some (w', s') ∧ OwnB m s' w' (ps ++ [(v, bs)]) ∧ Keep s0 s' ∧ s'.objs = s.objs := by
  obtain ⟨w', s', a1, a2, a3, a4⟩ := h.o.appendO BBR (σ0 := s0) hm hk (t2 := 60) (y := .slice .exact 1 [v] 1) (ys := [v]) (l := 1) (by simp [vnewsO, vnews, TBB]) rfl (by simp [hv.one]) (by omega) (by omega)
  refine ⟨w', s', a1, ⟨by simpa using a2, fun p hp => ?_⟩, a3, a4⟩
  rcases List.mem_append.1 hp with hp | hp
  · exact h.b p hp
  · rw [List.mem_singleton] at hp; subst hp; exact hv
theorem OwnB.keep {m : Nat} {s s' : St} {w : V} {ps : List BV} (h : OwnB m s w ps) (hk : ∀ k, tokLive s.toks k = true → tokLive s'.toks k = true) : OwnB m s' w ps := ⟨h.o.keep hk, h.b⟩
def numZ (name : List UInt8) : Int := match numP 115 name with
  | some m => (m : Int)
  | none => -1
theorem T97 : Tryz.prog.underlying 113 = some (.interface #[("Error", 179)]) := by kernel_rfl
theorem neq_inil {t : TypeId} {v : V} {xo : Operand} : vbin Tryz.prog .neq 113 xo (.const .nilIface) (.iface t v) .nili = some (.bool true) := by
  simp [vbin, bothSame, guardFree, aggEq, T97]
theorem neq_nilnil {xo : Operand} : vbin Tryz.prog .neq 113 xo (.const .nilIface) .nili .nili = some (.bool false) := by
  simp [vbin, bothSame, guardFree, aggEq, T97, isC]
theorem number_sees {σ : St} (name : List UInt8) : ∃ q σ', Does Tryz.prog prims 53 [.str name] σ q σ' ∧ q = .ret (.int .i64 (numZ name)) ∧ KS [] σ σ' := by
  apply k53_is.does (by simp)
  have hl := vlenS name
  have oni : ofVal Value.nilIface = some .nili := rfl
  by_cases h10 : name.length = 10
  · obtain ⟨b, t, rfl⟩ : ∃ b t, name = b :: t := by
      cases name with
      | nil => simp at h10
      | cons b t => exact ⟨b, t, rfl⟩
    have ht9 : t.length = 9 := by simpa using h10
    have h10' : (((b :: t).length : Nat) : Int) = 10 := by omega
    have hix : vindex Tryz.prog 9 (.str (b :: t)) (.int .i64 0) = some (.int .u8 ((b.toNat : Nat) : Int)) := by simp [vindex, T9]
    by_cases hb : b = 115
    · subst hb
      have hb' : (((115 : UInt8).toNat : Nat) : Int) = 115 := by decide
      have hsl : vslice Tryz.prog 9 (.str (115 :: t)) (some (.int .i64 1)) none none = some (.str t) := by
        have hv := vbounds_lo (k := .i64) (n := 1) (len := (115 :: t : List UInt8).length) (by omega) (by simp only [List.length_cons]; omega)
        simp only [vslice, T9, hv]
        simp only [show (1 : Int).toNat = 1 from rfl, List.drop_succ_cons, List.drop_zero, List.length_cons]
        rw [List.take_of_length_le (by omega)]
      cases ha : Lib.atoi t with
      | none =>
        have hn := num_none (pre := 115) ht9 ha
        have hz : numZ (115 :: t) = -1 := by unfold numZ; rw [hn]
        simp only [k53_a, WK, vop, evAll, evOpt, evParts, vbuiltin, vun, vextract, Nat.reduceLT, Nat.reduceEqDiff, ↓reduceIte, reduceCtorEq, Nat.reduceAdd, Int.reduceLT, Int.reduceNeg, valloc_std, noSB, vhot, gD0, gD1, hl, h10', eq_self, decide_true, Bool.not_true, hix, hb', hsl, T9]
        refine KD.ret (atoi_none (by omega) ha) ?_
        simp only [k53_a, WK, vop, evAll, evOpt, evParts, vbuiltin, vun, vextract, Nat.reduceLT, Nat.reduceEqDiff, ↓reduceIte, reduceCtorEq, Nat.reduceAdd, Int.reduceLT, Int.reduceNeg, valloc_std, noSB, vhot, gD0, gD1, neq_inil, oni, hz]
        first | exact ⟨trivial, KS.push _ _ _⟩ | exact KS.push _ _ _
      | some m =>
        obtain ⟨n1, n2⟩ := num_some (pre := 115) ht9 ha
        simp only [k53_a, WK, vop, evAll, evOpt, evParts, vbuiltin, vun, vextract, Nat.reduceLT, Nat.reduceEqDiff, ↓reduceIte, reduceCtorEq, Nat.reduceAdd, Int.reduceLT, Int.reduceNeg, valloc_std, noSB, vhot, gD0, gD1, hl, h10', eq_self, decide_true, Bool.not_true, hix, hb', hsl, T9]
        refine KD.ret (atoi_some (by omega) ha) ?_
        simp only [k53_a, WK, vop, evAll, evOpt, evParts, vbuiltin, vun, vextract, Nat.reduceLT, Nat.reduceEqDiff, ↓reduceIte, reduceCtorEq, Nat.reduceAdd, Int.reduceLT, Int.reduceNeg, valloc_std, noSB, vhot, gD0, gD1, neq_nilnil, oni]
        refine KD.ret (sname_does m) ?_
        by_cases hnm : nameP 115 0 m = 115 :: t
        · obtain ⟨g1, g2, g3⟩ := n1 hnm.symm
          have hz : numZ (115 :: t) = m := by unfold numZ; rw [g3]; simp only; omega
          simp only [k53_a, WK, vop, evAll, evOpt, evParts, vbuiltin, vun, vextract, Nat.reduceLT, Nat.reduceEqDiff, ↓reduceIte, reduceCtorEq, Nat.reduceAdd, Int.reduceLT, Int.reduceNeg, valloc_std, noSB, vhot, gD0, gD1, sbN, hnm, eq_self, decide_true, Bool.not_true, hz]
          first | exact ⟨trivial, KS.refl _ _⟩ | exact KS.refl _ _
        · have hz : numZ (115 :: t) = -1 := by unfold numZ; rw [n2 (fun h => hnm h.symm)]
          simp only [k53_a, WK, vop, evAll, evOpt, evParts, vbuiltin, vun, vextract, Nat.reduceLT, Nat.reduceEqDiff, ↓reduceIte, reduceCtorEq, Nat.reduceAdd, Int.reduceLT, Int.reduceNeg, valloc_std, noSB, vhot, gD0, gD1, sbN, hnm, decide_false, Bool.not_false, hz]
          first | exact ⟨trivial, KS.refl _ _⟩ | exact KS.refl _ _
    · have hb' : ¬ ((b.toNat : Nat) : Int) = 115 := fun h => hb (by apply UInt8.toNat_inj.1; have : (115 : UInt8).toNat = 115 := rfl; omega)
      have hz : numZ (b :: t) = -1 := by
        unfold numZ numP
        simp only
        rw [if_neg (fun h => hb h.1)]
      simp only [k53_a, WK, vop, evAll, evOpt, evParts, vbuiltin, vun, vextract, Nat.reduceLT, Nat.reduceEqDiff, ↓reduceIte, reduceCtorEq, Nat.reduceAdd, Int.reduceLT, Int.reduceNeg, valloc_std, noSB, vhot, gD0, gD1, hl, h10', eq_self, decide_true, decide_false, Bool.not_true, Bool.not_false, hix, hb', hz]
      first | exact ⟨trivial, KS.refl _ _⟩ | exact KS.refl _ _
  · have h10' : ¬ ((name.length : Nat) : Int) = 10 := by omega
    have hz : numZ name = -1 := by
      unfold numZ numP
      cases name with
      | nil => rfl
      | cons b t => simp only; rw [if_neg (fun h => h10 (by simp [h.2.1]))]
    simp only [k53_a, WK, vop, evAll, evOpt, evParts, vbuiltin, vun, vextract, Nat.reduceLT, Nat.reduceEqDiff, ↓reduceIte, reduceCtorEq, Nat.reduceAdd, Int.reduceLT, Int.reduceNeg, valloc_std, noSB, vhot, gD0, gD1, hl, h10', decide_false, Bool.not_false, hz]
    first | exact ⟨trivial, KS.refl _ _⟩ | exact KS.refl _ _
def dr : List UInt8 := [100, 114, 97, 102, 116]
def thenD (r : Nat × Dk) (f : Dk → Nat × Dk) : Nat × Dk := if r.1 ≠ 0 then r else f r.2
def rmDraft (d : Dk) : Nat × Dk := if (readD dr d).1 = 0 then removeD dr d else (0, d)
def purgeD (n : Int) : List (List UInt8) → Dk → Nat × Dk
  | [], d => (0, d)
  | x :: l, d => if numZ x < 0 ∨ numZ x = n then purgeD n l d else thenD (removeD x d) (purgeD n l)
def saveRest3 (n : Int) (d3 : Dk) : Nat × Dk := thenD (renameD dr (nameP 115 0 n) d3) fun d4 => purgeD n (namesD d4) d4
def saveRest2 (n : Int) (d2 : Dk) : Nat × Dk := thenD (syncD dr d2) (saveRest3 n)
def saveRest (n : Int) (body : List UInt8) (d1 : Dk) : Nat × Dk := thenD (appendD dr (encS n body) d1) (saveRest2 n)
def saveD (n : Int) (body : List UInt8) (d : Dk) : Nat × Dk :=
  if nameP 115 0 n = [] then (1, d) else
  if 1048564 < body.length then (3, d) else
  if d.on = false then (20, d) else
  thenD (rmDraft d) fun d1 => thenD (appendD dr (encS n body) d1) fun d2 => thenD (syncD dr d2) fun d3 => thenD (renameD dr (nameP 115 0 n) d3) fun d4 => purgeD n (namesD d4) d4
theorem save_sees {σ : St} {r rm : Nat} {d : Dk} {fs : List Ent} {n : Int} {x : V} {body : List UInt8} (h : DiskAt σ r d rm fs) (hok : d.Ok) (hw : d.writes ≤ 1000000000) (hb : BtsV x body) (hl : body.length ≤ 100000000) :
    ∃ q σ', Does Tryz.prog prims 13 [.optr r 0, .int .i64 n, x] σ q σ' ∧ (q = .ret (.int .i64 ((saveD n body d).1 : Nat)) ∧ Next σ r rm fs σ' (saveD n body d).2) := by
  apply k13_is.does (by simp)
  have hlen := hb.len T22
  have oe : ofVal (Value.string { data := #[] }) = some (.str []) := rfl
  have od : ofVal (Value.string { data := #[100, 114, 97, 102, 116] }) = some (.str dr) := rfl
  simp only [k13_a, WK, vop, evAll, evOpt, evParts, vbuiltin, vun, vextract, Nat.reduceLT, Nat.reduceEqDiff, ↓reduceIte, reduceCtorEq, Nat.reduceAdd, Int.reduceLT, Int.reduceNeg, valloc_std, noSB, vhot, gD0, gD1, ofNilP, eql_optr pTD]
  refine KD.ret (sname_does n) ?_
  by_cases hn : nameP 115 0 n = []
  · have e : saveD n body d = (1, d) := by unfold saveD; rw [if_pos hn]
    simp only [k13_a, WK, vop, evAll, evOpt, evParts, vbuiltin, vun, vextract, Nat.reduceLT, Nat.reduceEqDiff, ↓reduceIte, reduceCtorEq, Nat.reduceAdd, Int.reduceLT, Int.reduceNeg, valloc_std, noSB, vhot, gD0, gD1, oe, sbE, hn, eq_self, decide_true, e]
    exact ⟨rfl, Next.refl h⟩
  by_cases hlg : 1048564 < body.length
  · have hlg' : (1048564 : Int) < ((body.length : Nat) : Int) := by omega
    have e : saveD n body d = (3, d) := by unfold saveD; rw [if_neg hn, if_pos hlg]
    simp only [k13_a, WK, vop, evAll, evOpt, evParts, vbuiltin, vun, vextract, Nat.reduceLT, Nat.reduceEqDiff, ↓reduceIte, reduceCtorEq, Nat.reduceAdd, Int.reduceLT, Int.reduceNeg, valloc_std, noSB, vhot, gD0, gD1, oe, sbE, hn, hlen, hlg', decide_true, decide_false, e]
    exact ⟨rfl, Next.refl h⟩
  have hlg' : ¬ (1048564 : Int) < ((body.length : Nat) : Int) := by omega
  simp only [k13_a, WK, vop, evAll, evOpt, evParts, vbuiltin, vun, vextract, Nat.reduceLT, Nat.reduceEqDiff, ↓reduceIte, reduceCtorEq, Nat.reduceAdd, Int.reduceLT, Int.reduceNeg, valloc_std, noSB, vhot, gD0, gD1, oe, sbE, hn, hlen, hlg', decide_false]
  refine KD.ret (down_does h) ?_
  cases hon : d.on with
  | false =>
    have e : saveD n body d = (20, d) := by unfold saveD; rw [if_neg hn, if_neg hlg, if_pos hon]
    simp only [k13_a, WK, vop, evAll, evOpt, evParts, vbuiltin, vun, vextract, Nat.reduceLT, Nat.reduceEqDiff, ↓reduceIte, reduceCtorEq, Nat.reduceAdd, Int.reduceLT, Int.reduceNeg, valloc_std, noSB, vhot, gD0, gD1, Bool.not_false, e]
    exact ⟨rfl, Next.refl h⟩
  | true =>
    have e0 : saveD n body d = thenD (rmDraft d) fun d1 => thenD (appendD dr (encS n body) d1) fun d2 => thenD (syncD dr d2) fun d3 => thenD (renameD dr (nameP 115 0 n) d3) fun d4 => purgeD n (namesD d4) d4 := by
      unfold saveD; rw [if_neg hn, if_neg hlg, if_neg (by simp [hon])]
    obtain ⟨p1, s1, c1, v1, q1, rfl, n1, K1, I1⟩ := read_sees (n := dr) h hok
    have D1 := h.pushes K1
    -- behind the draft's going
    obtain ⟨K, hK⟩ : ∃ K, K = seqC Tryz.prog prims 86 ((.seq (.seq (.region k13_r14) (.seq (.region k13_r15) (.cond (.tmp 49) (.seq (.region k13_r16) .ret) .skip))) (.seq (.seq (.region k13_r17) (.seq (.region k13_r18) (.cond (.tmp 54) (.seq (.region k13_r19) .ret) .skip))) (.seq (.seq (.region k13_r20) (.seq (.region k13_r21) (.cond (.tmp 61) (.seq (.region k13_r22) .ret) .skip))) (.seq (.seq (.region k13_r23) (.block 1 (.loop k13_l0))) (.seq (.region k13_r32) .ret))))) : CC) (fnK Tryz.prog 86 [ResultVar.tmp 6] fun q σ' => q = .ret (.int .i64 ((saveD n body d).1 : Nat)) ∧ Next σ r rm fs σ' (saveD n body d).2) := ⟨_, rfl⟩
    have tail : ∀ (e : Nat → V) (s : St) (d1 : Dk) (fs1 : List Ent), e 0 = .optr r 0 → e 1 = .int .i64 n → e 2 = x → DiskAt s r d1 rm fs1 → d1.Ok → d1.writes ≤ 1000000001 → KS (foot r rm fs) σ s → (∀ y ∈ foot r rm fs1, y ∈ foot r rm fs ∨ σ.objs.length ≤ y) → saveD n body d = saveRest n body d1 → K .normal e s := by
      intro e s d1 fs1 g0 g1 g2 D1 ok1 hw1 K1 I1 hsv
      rw [hsv] at hK
      have toσ : ∀ (u : St) (d' : Dk), Next s r rm fs1 u d' → Next σ r rm fs u d' := fun u d' hN => Next.trans K1 I1 hN
      obtain ⟨q2, s2, c2, v2, rfl, b2, k2⟩ := encode_sees (σ := s) (n := n) hb hl
      have hel := encS_len n body
      have D2 := D1.pushes (k2.ks [])
      obtain ⟨q3, s3, c3, rfl, fs3, D3, K3, I3⟩ := append_sees (n := dr) D2 ok1 (by omega) (.inl b2 : RB s2 v2 (encS n body)) (by omega)
      obtain ⟨ok3, hw3⟩ := append_ok (n := dr) (b := encS n body) ok1
      have N3 : Next s r rm fs1 s3 (appendD dr (encS n body) d1).2 := ⟨fs3, D3, (k2.ks _).trans' K3, fun y hy => by
        rcases I3 y hy with h | h
        · exact .inl h
        · have := (k2.ks []).le; omega⟩
      rw [hK]
      simp only [k13_a, WK, vop, evAll, evOpt, evParts, vbuiltin, vun, vextract, Nat.reduceLT, Nat.reduceEqDiff, ↓reduceIte, reduceCtorEq, Nat.reduceAdd, Int.reduceLT, Int.reduceNeg, valloc_std, noSB, vhot, g0, g1, g2, od]
      refine KD.ret c2 ?_
      simp only [k13_a, WK, vop, evAll, evOpt, evParts, vbuiltin, vun, vextract, Nat.reduceLT, Nat.reduceEqDiff, ↓reduceIte, reduceCtorEq, Nat.reduceAdd, Int.reduceLT, Int.reduceNeg, valloc_std, noSB, vhot, g0, g1, g2, od]
      refine KD.ret c3 ?_
      by_cases e3 : (appendD dr (encS n body) d1).1 = 0
      rotate_left
      · have e3' : ¬ (((appendD dr (encS n body) d1).1 : Nat) : Int) = 0 := by omega
        have er : saveRest n body d1 = appendD dr (encS n body) d1 := by unfold saveRest thenD; rw [if_pos e3]
        simp only [k13_a, WK, vop, evAll, evOpt, evParts, vbuiltin, vun, vextract, Nat.reduceLT, Nat.reduceEqDiff, ↓reduceIte, reduceCtorEq, Nat.reduceAdd, Int.reduceLT, Int.reduceNeg, valloc_std, noSB, vhot, e3', decide_false, Bool.not_false, er]
        exact toσ _ _ N3
      have er3 : saveRest n body d1 = saveRest2 n (appendD dr (encS n body) d1).2 := by unfold saveRest thenD; rw [if_neg (by omega)]; try rfl
      rw [er3]
      have e3' : (((appendD dr (encS n body) d1).1 : Nat) : Int) = 0 := by omega
      generalize (appendD dr (encS n body) d1).2 = d2 at *
      obtain ⟨q4, s4, c4, rfl, fs4, D4, K4, I4⟩ := sync_sees (n := dr) D3 ok3 (by omega)
      obtain ⟨ok4, hw4⟩ := sync_ok (n := dr) ok3
      obtain ⟨fs3', D3', K3', I3'⟩ := N3
      have N4 : Next s r rm fs1 s4 (syncD dr d2).2 := ⟨fs4, D4, ((k2.ks _).trans' K3).trans K4 (fun y hy => by
        rcases I3 y hy with h | h
        · exact .inl h
        · have := (k2.ks []).le; exact .inr (by omega)), fun y hy => by
        rcases I4 y hy with h | h
        · rcases I3 y h with h | h
          · exact .inl h
          · have := (k2.ks []).le; exact .inr (by omega)
        · have := (k2.ks []).le; have := K3.le; exact .inr (by omega)⟩
      simp only [k13_a, WK, vop, evAll, evOpt, evParts, vbuiltin, vun, vextract, Nat.reduceLT, Nat.reduceEqDiff, ↓reduceIte, reduceCtorEq, Nat.reduceAdd, Int.reduceLT, Int.reduceNeg, valloc_std, noSB, vhot, e3', eq_self, decide_true, Bool.not_true, g0, g1, g2, od]
      refine KD.ret c4 ?_
      by_cases e4 : (syncD dr d2).1 = 0
      rotate_left
      · have e4' : ¬ (((syncD dr d2).1 : Nat) : Int) = 0 := by omega
        have er : saveRest2 n d2 = syncD dr d2 := by unfold saveRest2 thenD; rw [if_pos e4]
        simp only [k13_a, WK, vop, evAll, evOpt, evParts, vbuiltin, vun, vextract, Nat.reduceLT, Nat.reduceEqDiff, ↓reduceIte, reduceCtorEq, Nat.reduceAdd, Int.reduceLT, Int.reduceNeg, valloc_std, noSB, vhot, e4', decide_false, Bool.not_false, er]
        exact toσ _ _ N4
      have er4 : saveRest2 n d2 = saveRest3 n (syncD dr d2).2 := by unfold saveRest2 thenD; rw [if_neg (by omega)]; try rfl
      rw [er4]
      have e4' : (((syncD dr d2).1 : Nat) : Int) = 0 := by omega
      generalize (syncD dr d2).2 = d3 at *
      obtain ⟨fs4', D4', K4', I4'⟩ := N4
      obtain ⟨q5, s5, c5, rfl, fs5, D5, K5, I5⟩ := rename_sees (n := dr) (m := nameP 115 0 n) D4' ok4 (by omega)
      obtain ⟨ok5, hw5⟩ := rename_ok (n := dr) (m := nameP 115 0 n) ok4
      have N5 : Next s r rm fs1 s5 (renameD dr (nameP 115 0 n) d3).2 := Next.trans K4' I4' ⟨fs5, D5, K5, I5⟩
      simp only [k13_a, WK, vop, evAll, evOpt, evParts, vbuiltin, vun, vextract, Nat.reduceLT, Nat.reduceEqDiff, ↓reduceIte, reduceCtorEq, Nat.reduceAdd, Int.reduceLT, Int.reduceNeg, valloc_std, noSB, vhot, e4', eq_self, decide_true, Bool.not_true, g0, g1, g2, od]
      refine KD.ret (sname_does n) ?_
      simp only [k13_a, WK, vop, evAll, evOpt, evParts, vbuiltin, vun, vextract, Nat.reduceLT, Nat.reduceEqDiff, ↓reduceIte, reduceCtorEq, Nat.reduceAdd, Int.reduceLT, Int.reduceNeg, valloc_std, noSB, vhot, g0, g1, g2, od]
      refine KD.ret c5 ?_
      by_cases e5 : (renameD dr (nameP 115 0 n) d3).1 = 0
      rotate_left
      · have e5' : ¬ (((renameD dr (nameP 115 0 n) d3).1 : Nat) : Int) = 0 := by omega
        have er : saveRest3 n d3 = renameD dr (nameP 115 0 n) d3 := by unfold saveRest3 thenD; rw [if_pos e5]
        simp only [k13_a, WK, vop, evAll, evOpt, evParts, vbuiltin, vun, vextract, Nat.reduceLT, Nat.reduceEqDiff, ↓reduceIte, reduceCtorEq, Nat.reduceAdd, Int.reduceLT, Int.reduceNeg, valloc_std, noSB, vhot, e5', decide_false, Bool.not_false, er]
        exact toσ _ _ N5
      have er5 : saveRest3 n d3 = purgeD n (namesD (renameD dr (nameP 115 0 n) d3).2) (renameD dr (nameP 115 0 n) d3).2 := by unfold saveRest3 thenD; rw [if_neg (by omega)]
      rw [er5]
      have e5' : (((renameD dr (nameP 115 0 n) d3).1 : Nat) : Int) = 0 := by omega
      generalize (renameD dr (nameP 115 0 n) d3).2 = d4 at *
      obtain ⟨fs5', D5', K5', I5'⟩ := N5
      obtain ⟨q6, s6, c6, v6, o6, rfl, n6, K6, I6⟩ := names_sees D5' ok5
      have D6 := D5'.pushes K6
      have hflt := D5'.lt
      obtain ⟨L, hL⟩ : ∃ L, L = namesD d4 := ⟨_, rfl⟩
      have hL16 := namesD_len ok5
      rw [← hL] at n6 hL16 ⊢
      have R6 : RowS s6 1 v6 (L.map V.str) L.length := row_strs n6
      have f6 : Free o6 (foot r rm fs5') := Free.high I6 hflt
      simp only [k13_a, WK, vop, evAll, evOpt, evParts, vbuiltin, vun, vextract, Nat.reduceLT, Nat.reduceEqDiff, ↓reduceIte, reduceCtorEq, Nat.reduceAdd, Int.reduceLT, Int.reduceNeg, valloc_std, noSB, vhot, e5', eq_self, decide_true, Bool.not_true, g0, g1, g2, od]
      refine KD.ret c6 ?_
      simp only [k13_a, WK, vop, evAll, evOpt, evParts, vbuiltin, vun, vextract, Nat.reduceLT, Nat.reduceEqDiff, ↓reduceIte, reduceCtorEq, Nat.reduceAdd, Int.reduceLT, Int.reduceNeg, valloc_std, noSB, vhot, R6.len TSS]
      refine Ev.loopF (fun (i : Nat) e2 u => e2 66 = .int .i64 (i : Nat) ∧ i ≤ L.length ∧ ∃ dd fu, DiskAt u r dd rm fu ∧ dd.Ok ∧ dd.writes ≤ 1000000100 + i ∧ purgeD n L d4 = purgeD n (L.drop i) dd ∧ KS (foot r rm fs5') s6 u ∧ (∀ y ∈ foot r rm fu, y ∈ foot r rm fs5' ∨ s6.objs.length ≤ y)) (fun i => L.length - i) 0 ?_ ?_
      · exact ⟨by simp [upd_some], Nat.zero_le _, d4, fs5', D6, ok5, by omega, by rw [List.drop_zero], KS.refl _ _, fun y hy => .inl hy⟩
      rintro i e2 u ⟨k66, hi, dd, fu, DU, okU, hwU, hpU, KU, IU⟩ hf2
      have k0 : e2 0 = .optr r 0 := (hf2 0 (by decide)).trans (by simp [upd_some, g0])
      have k1 : e2 1 = .int .i64 n := (hf2 1 (by decide)).trans (by simp [upd_some, g1])
      have k64 : e2 64 = v6 := (hf2 64 (by decide)).trans (by simp [upd_some])
      have k65 : e2 65 = .int .i64 (L.length : Nat) := (hf2 65 (by decide)).trans (by simp [upd_some])
      clear hf2
      have toN : ∀ (u' : St) (d' : Dk), Next u r rm fu u' d' → Next σ r rm fs u' d' := fun u' d' hN => toσ _ _ (Next.trans K5' I5' (Next.trans (K6.nils.trans KU (fun y hy => .inl hy)) (fun y hy => by
        rcases IU y hy with h | h
        · exact .inl h
        · have := K6.le; exact .inr (by omega)) hN))
      by_cases hlt : i < L.length
      · have hlt' : (i : Int) < (L.length : Nat) := by omega
        have hwi : IntKind.i64.wrap ((i : Int) + 1) = ((i + 1 : Nat) : Int) := by rw [wrap_i64 (by omega) (by omega)]; omega
        have hdrop : L.drop i = L[i] :: L.drop (i + 1) := List.drop_eq_getElem_cons hlt
        have n6u := rowOf_free n6 f6 KU
        have RU : RowS u 1 v6 (L.map V.str) L.length := row_strs n6u
        obtain ⟨pa, ha, hla⟩ := RU.strAt hlt
        have hla := hla u (KS.refl _ _)
        obtain ⟨q7, s7, c7, rfl, K7⟩ := number_sees (σ := u) L[i]
        have D7 := DU.pushes K7
        simp only [k13_a, WK, vop, evAll, evOpt, evParts, vbuiltin, vun, vextract, Nat.reduceLT, Nat.reduceEqDiff, ↓reduceIte, reduceCtorEq, Nat.reduceAdd, Int.reduceLT, Int.reduceNeg, valloc_std, noSB, vhot, k66, k65, k64, hlt', decide_true, ha, hla]
        refine KD.ret c7 ?_
        by_cases hz : numZ L[i] < 0 ∨ numZ L[i] = n
        · have hp2 : purgeD n L d4 = purgeD n (L.drop (i + 1)) dd := by rw [hpU, hdrop, purgeD, if_pos hz]
          have fin : ∀ (e3 : Nat → V), e3 66 = .int .i64 ((i + 1 : Nat) : Int) → ∃ j, (e3 66 = .int .i64 (j : Nat) ∧ j ≤ L.length ∧ ∃ dd fu, DiskAt s7 r dd rm fu ∧ dd.Ok ∧ dd.writes ≤ 1000000100 + j ∧ purgeD n L d4 = purgeD n (L.drop j) dd ∧ KS (foot r rm fs5') s6 s7 ∧ (∀ y ∈ foot r rm fu, y ∈ foot r rm fs5' ∨ s6.objs.length ≤ y)) ∧ L.length - j < L.length - i := fun e3 h3 => ⟨i + 1, ⟨h3, by omega, dd, fu, D7, okU, by omega, hp2, KU.trans' K7.nils, IU⟩, by omega⟩
          by_cases hz0 : numZ L[i] < 0
          · simp only [k13_a, WK, vop, evAll, evOpt, evParts, vbuiltin, vun, vextract, Nat.reduceLT, Nat.reduceEqDiff, ↓reduceIte, reduceCtorEq, Nat.reduceAdd, Int.reduceLT, Int.reduceNeg, valloc_std, noSB, vhot, k66, k1, hz0, decide_true, hwi]
            exact fin (fun _ => .int .i64 ((i + 1 : Nat) : Int)) rfl
          · have hzn : numZ L[i] = n := hz.resolve_left hz0
            have hn0 : ¬ n < 0 := by rw [← hzn]; exact hz0
            simp only [k13_a, WK, vop, evAll, evOpt, evParts, vbuiltin, vun, vextract, Nat.reduceLT, Nat.reduceEqDiff, ↓reduceIte, reduceCtorEq, Nat.reduceAdd, Int.reduceLT, Int.reduceNeg, valloc_std, noSB, vhot, k66, k1, hzn, hn0, eq_self, decide_true, decide_false, hwi]
            exact fin (fun _ => .int .i64 ((i + 1 : Nat) : Int)) rfl
        · have hz0 : ¬ numZ L[i] < 0 := fun h => hz (.inl h)
          have hzn : ¬ numZ L[i] = n := fun h => hz (.inr h)
          have hp2 : purgeD n L d4 = thenD (removeD L[i] dd) (purgeD n (L.drop (i + 1))) := by rw [hpU, hdrop, purgeD, if_neg hz]
          obtain ⟨q8, s8, c8, rfl, fs8, D8, K8, I8⟩ := remove_sees (n := L[i]) D7 okU (by omega)
          obtain ⟨ok8, hw8⟩ := remove_ok (n := L[i]) okU
          have N8 : Next u r rm fu s8 (removeD L[i] dd).2 := ⟨fs8, D8, K7.nils.trans' K8, fun y hy => by
            rcases I8 y hy with h | h
            · exact .inl h
            · have := K7.le; exact .inr (by omega)⟩
          simp only [k13_a, WK, vop, evAll, evOpt, evParts, vbuiltin, vun, vextract, Nat.reduceLT, Nat.reduceEqDiff, ↓reduceIte, reduceCtorEq, Nat.reduceAdd, Int.reduceLT, Int.reduceNeg, valloc_std, noSB, vhot, k66, k1, k0, hz0, hzn, decide_false]
          refine KD.ret c8 ?_
          by_cases e8 : (removeD L[i] dd).1 = 0
          · have e8' : (((removeD L[i] dd).1 : Nat) : Int) = 0 := by omega
            have hp3 : purgeD n L d4 = purgeD n (L.drop (i + 1)) (removeD L[i] dd).2 := by rw [hp2]; unfold thenD; rw [if_neg (by omega)]
            simp only [k13_a, WK, vop, evAll, evOpt, evParts, vbuiltin, vun, vextract, Nat.reduceLT, Nat.reduceEqDiff, ↓reduceIte, reduceCtorEq, Nat.reduceAdd, Int.reduceLT, Int.reduceNeg, valloc_std, noSB, vhot, k66, e8', eq_self, decide_true, Bool.not_true, hwi]
            exact ⟨i + 1, ⟨by simp [upd_some], by omega, _, fs8, D8, ok8, by omega, hp3, (KU.trans' K7.nils).trans K8 (fun y hy => by
              rcases IU y hy with h | h
              · exact .inl h
              · exact .inr h), fun y hy => by
              rcases I8 y hy with h | h
              · exact IU y h
              · have := K7.le; have := KU.le; exact .inr (by omega)⟩, by omega⟩
          · have e8' : ¬ (((removeD L[i] dd).1 : Nat) : Int) = 0 := by omega
            have hp3 : purgeD n L d4 = removeD L[i] dd := by rw [hp2]; unfold thenD; rw [if_pos e8]
            rw [hp3]
            simp only [k13_a, WK, vop, evAll, evOpt, evParts, vbuiltin, vun, vextract, Nat.reduceLT, Nat.reduceEqDiff, ↓reduceIte, reduceCtorEq, Nat.reduceAdd, Int.reduceLT, Int.reduceNeg, valloc_std, noSB, vhot, e8', decide_false, Bool.not_false]
            exact toN _ _ N8
      · have hlt' : ¬ (i : Int) < (L.length : Nat) := by omega
        have hp2 : purgeD n L d4 = (0, dd) := by rw [hpU, List.drop_of_length_le (by omega), purgeD]
        rw [hp2]
        simp only [k13_a, WK, vop, evAll, evOpt, evParts, vbuiltin, vun, vextract, Nat.reduceLT, Nat.reduceEqDiff, ↓reduceIte, reduceCtorEq, Nat.reduceAdd, Int.reduceLT, Int.reduceNeg, valloc_std, noSB, vhot, k66, k65, hlt', decide_false]
        exact ⟨rfl, toN _ _ (Next.refl DU)⟩
    simp only [k13_a, WK, vop, evAll, evOpt, evParts, vbuiltin, vun, vextract, Nat.reduceLT, Nat.reduceEqDiff, ↓reduceIte, reduceCtorEq, Nat.reduceAdd, Int.reduceLT, Int.reduceNeg, valloc_std, noSB, vhot, gD0, gD1, od]
    refine KD.ret c1 ?_
    rw [← hK]
    by_cases hrd : (readD dr d).1 = 0
    · have hrd' : (((readD dr d).1 : Nat) : Int) = 0 := by omega
      obtain ⟨q2, s2, c2, rfl, fs2, D2, K2, I2⟩ := remove_sees (n := dr) D1 hok (by omega)
      obtain ⟨ok2, hw2⟩ := remove_ok (n := dr) hok
      have N2 : Next σ r rm fs s2 (removeD dr d).2 := ⟨fs2, D2, K1.nils.trans' K2, fun y hy => by
        rcases I2 y hy with h | h
        · exact .inl h
        · have := K1.le; exact .inr (by omega)⟩
      simp only [k13_a, WK, vop, evAll, evOpt, evParts, vbuiltin, vun, vextract, Nat.reduceLT, Nat.reduceEqDiff, ↓reduceIte, reduceCtorEq, Nat.reduceAdd, Int.reduceLT, Int.reduceNeg, valloc_std, noSB, vhot, gD0, gD1, od, hrd', eq_self, decide_true]
      refine KD.ret c2 ?_
      by_cases e2 : (removeD dr d).1 = 0
      · have e2' : (((removeD dr d).1 : Nat) : Int) = 0 := by omega
        simp only [k13_a, WK, vop, evAll, evOpt, evParts, vbuiltin, vun, vextract, Nat.reduceLT, Nat.reduceEqDiff, ↓reduceIte, reduceCtorEq, Nat.reduceAdd, Int.reduceLT, Int.reduceNeg, valloc_std, noSB, vhot, gD0, gD1, e2', eq_self, decide_true, Bool.not_true]
        refine tail _ s2 _ fs2 ?_ ?_ ?_ D2 ok2 (by omega) (K1.nils.trans' K2) (fun y hy => ?_) ?_
        · simp [upd_some]
        · simp [upd_some]
        · simp [upd_some]
        · obtain ⟨_, _, _, h⟩ := N2
          rcases I2 y hy with h | h
          · exact .inl h
          · have := K1.le; exact .inr (by omega)
        · rw [e0]; unfold rmDraft; rw [if_pos hrd]; unfold thenD; rw [if_neg (by omega)]; try rfl
      · have e2' : ¬ (((removeD dr d).1 : Nat) : Int) = 0 := by omega
        rw [hK]
        have er : saveD n body d = removeD dr d := by rw [e0]; unfold rmDraft; rw [if_pos hrd]; unfold thenD; rw [if_pos e2]
        simp only [k13_a, WK, vop, evAll, evOpt, evParts, vbuiltin, vun, vextract, Nat.reduceLT, Nat.reduceEqDiff, ↓reduceIte, reduceCtorEq, Nat.reduceAdd, Int.reduceLT, Int.reduceNeg, valloc_std, noSB, vhot, gD0, gD1, e2', decide_false, Bool.not_false, er]
        exact N2
    · have hrd' : ¬ (((readD dr d).1 : Nat) : Int) = 0 := by omega
      simp only [k13_a, WK, vop, evAll, evOpt, evParts, vbuiltin, vun, vextract, Nat.reduceLT, Nat.reduceEqDiff, ↓reduceIte, reduceCtorEq, Nat.reduceAdd, Int.reduceLT, Int.reduceNeg, valloc_std, noSB, vhot, gD0, gD1, od, hrd', decide_false]
      refine tail _ s1 d fs ?_ ?_ ?_ D1 hok (by omega) K1.nils (fun y hy => .inl hy) ?_
      · simp [upd_some]
      · simp [upd_some]
      · simp [upd_some]
      · rw [e0]; unfold rmDraft; rw [if_neg hrd]; unfold thenD; rw [if_neg (by simp)]; try rfl
def loadN (d : Dk) : List (List UInt8) → Int × List UInt8 → Int × List UInt8
  | [], a => a
  | x :: l, a => if numZ x < 0 then loadN d l a else if (decS (numZ x) (readD x d).2).2 = 0 then loadN d l (numZ x, (decS (numZ x) (readD x d).2).1) else loadN d l a
def loadD (d : Dk) : (Int × List UInt8) × Nat := if d.on = false then ((0, []), 20) else (loadN d (namesD d) (-1, []), 0)
theorem vice_int (σ : St) (k : IntKind) (n : Int) : vice σ (.int k n) = none := rfl
theorem iced {σ : St} {v : V} {q : Option Nat} {bs : List UInt8} (h : rowOf σ.objs v = some (q, bs.map byteV)) : ∃ v' σ', (vice σ v = some (v', σ') ∨ (vice σ v = none ∧ v' = v ∧ σ' = σ)) ∧ BtsV v' bs ∧ KS q.toList σ σ' := by
  rcases rowOf_spec h with ⟨rfl, rfl, e⟩ | ⟨r, full, rfl, rfl, hr, hl, hc⟩
  · have : bs = [] := by simpa using e
    subst this
    exact ⟨.nils, σ, .inr ⟨rfl, rfl, rfl⟩, .inl ⟨rfl, rfl⟩, KS.refl _ _⟩
  · refine ⟨.slice .ro 1 (bs.map byteV) bs.length, ⟨σ.objs.set r .dead, σ.toks⟩, .inl ?_, .inr ⟨.ro, rfl⟩, KS.set (.inl (by simp)) _⟩
    simp only [List.length_map] at hl hc ⊢
    simp only [vice, hr, Nat.zero_add]
    rw [if_pos hl, List.drop_zero, ← hc]
theorem load_sees {σ : St} {r rm : Nat} {d : Dk} {fs : List Ent} (h : DiskAt σ r d rm fs) (hok : d.Ok) :
    ∃ q σ', Does Tryz.prog prims 15 [.optr r 0] σ q σ' ∧ ∃ v, q = .ret (.tuple [.int .i64 (loadD d).1.1, v, .int .i64 ((loadD d).2 : Nat)]) ∧ BtsV v (loadD d).1.2 ∧ KS [] σ σ' := by
  apply k15_is.does (by simp)
  simp only [k15_a, WK, vop, evAll, evOpt, evParts, vbuiltin, vun, vextract, Nat.reduceLT, Nat.reduceEqDiff, ↓reduceIte, reduceCtorEq, Nat.reduceAdd, Int.reduceLT, Int.reduceNeg, valloc_std, noSB, vhot, gD0, gD1, ofNilP, nilEP, eql_optr pTD]
  refine KD.ret (down_does h) ?_
  cases hon : d.on with
  | false =>
    have e : loadD d = ((0, []), 20) := by unfold loadD; rw [if_pos hon]
    simp only [k15_a, WK, vop, evAll, evOpt, evParts, vbuiltin, vun, vextract, Nat.reduceLT, Nat.reduceEqDiff, ↓reduceIte, reduceCtorEq, Nat.reduceAdd, Int.reduceLT, Int.reduceNeg, valloc_std, noSB, vhot, gD0, gD1, Bool.not_false, nilEP, e]
    exact ⟨.nils, rfl, .inl ⟨rfl, rfl⟩, KS.refl _ _⟩
  | true =>
    have e : loadD d = (loadN d (namesD d) (-1, []), 0) := by unfold loadD; rw [if_neg (by simp [hon])]
    rw [e]
    obtain ⟨q1, s1, c1, v1, o1, rfl, n1, K1, I1⟩ := names_sees h hok
    have D1 := h.pushes K1
    have hL16 := namesD_len hok
    generalize hL : namesD d = L at n1 hL16
    have R1 : RowS s1 1 v1 (L.map V.str) L.length := row_strs n1
    simp only [k15_a, WK, vop, evAll, evOpt, evParts, vbuiltin, vun, vextract, Nat.reduceLT, Nat.reduceEqDiff, ↓reduceIte, reduceCtorEq, Nat.reduceAdd, Int.reduceLT, Int.reduceNeg, valloc_std, noSB, vhot, gD0, gD1, Bool.not_true, nilEP]
    refine KD.ret c1 ?_
    simp only [k15_a, WK, vop, evAll, evOpt, evParts, vbuiltin, vun, vextract, Nat.reduceLT, Nat.reduceEqDiff, ↓reduceIte, reduceCtorEq, Nat.reduceAdd, Int.reduceLT, Int.reduceNeg, valloc_std, noSB, vhot, gD0, gD1, R1.len TSS]
    refine Ev.loopF (fun (i : Nat) e s => e 23 = .int .i64 (i : Nat) ∧ i ≤ L.length ∧ ∃ best, e 5 = .int .i64 best.1 ∧ BtsV (e 6) best.2 ∧ loadN d L (-1, []) = loadN d (L.drop i) best ∧ KS [] s1 s) (fun i => L.length - i) 0 ?_ ?_
    · exact ⟨by simp [upd_some], Nat.zero_le _, (-1, []), by simp [upd_some], by simp [upd_some, BtsV], by rw [List.drop_zero], KS.refl _ _⟩
    rintro i e s ⟨h23, hi, best, h5, h6, hlo, hk⟩ hf
    have g0 : e 0 = .optr r 0 := (hf 0 (by decide)).trans (by simp [upd_some])
    have g21 : e 21 = v1 := (hf 21 (by decide)).trans (by simp [upd_some])
    have g22 : e 22 = .int .i64 (L.length : Nat) := (hf 22 (by decide)).trans (by simp [upd_some])
    clear hf
    by_cases hlt : i < L.length
    · have hlt' : (i : Int) < (L.length : Nat) := by omega
      have hwi : IntKind.i64.wrap ((i : Int) + 1) = ((i + 1 : Nat) : Int) := by rw [wrap_i64 (by omega) (by omega)]; omega
      have hdrop : L.drop i = L[i] :: L.drop (i + 1) := List.drop_eq_getElem_cons hlt
      obtain ⟨pa, ha, hla⟩ := R1.strAt hlt
      have hla := hla s hk
      obtain ⟨q2, s2, c2, rfl, K2⟩ := number_sees (σ := s) L[i]
      simp only [k15_a, WK, vop, evAll, evOpt, evParts, vbuiltin, vun, vextract, Nat.reduceLT, Nat.reduceEqDiff, ↓reduceIte, reduceCtorEq, Nat.reduceAdd, Int.reduceLT, Int.reduceNeg, valloc_std, noSB, vhot, h23, g22, g21, hlt', decide_true, ha, hla]
      refine KD.ret c2 ?_
      by_cases hz0 : numZ L[i] < 0
      · simp only [k15_a, WK, vop, evAll, evOpt, evParts, vbuiltin, vun, vextract, Nat.reduceLT, Nat.reduceEqDiff, ↓reduceIte, reduceCtorEq, Nat.reduceAdd, Int.reduceLT, Int.reduceNeg, valloc_std, noSB, vhot, h23, hz0, decide_true, hwi]
        exact ⟨i + 1, ⟨by simp [upd_some], by omega, best, by simp [upd_some, h5], by simpa [upd_some] using h6, by rw [hlo, hdrop, loadN, if_pos hz0], hk.trans' K2⟩, by omega⟩
      obtain ⟨q3, s3, c3, v3, o3, rfl, n3, K3, I3⟩ := read_sees (n := L[i]) ((D1.pushes hk).pushes K2) hok
      obtain ⟨v4, s4, ei, b4, K4⟩ := iced n3
      have hrl := readD_len hok L[i]
      obtain ⟨q5, s5, c5, v5, rfl, o5, K5⟩ := decode_sees (σ := s4) (n := numZ L[i]) b4 (by omega)
      have K34 : KS [] s2 s4 := K3.trans K4 (fun y hy => .inr (I3 y hy))
      have Kall : KS [] s1 s5 := ((hk.trans' K2).trans' K34).trans' K5
      simp only [k15_a, WK, vop, evAll, evOpt, evParts, vbuiltin, vun, vextract, Nat.reduceLT, Nat.reduceEqDiff, ↓reduceIte, reduceCtorEq, Nat.reduceAdd, Int.reduceLT, Int.reduceNeg, valloc_std, noSB, vhot, h23, g0, hz0, decide_false]
      refine KD.ret c3 ?_
      rcases ei with ei | ⟨ei, rfl, rfl⟩
      all_goals
        simp only [k15_a, WK, vop, evAll, evOpt, evParts, vbuiltin, vun, vextract, Nat.reduceLT, Nat.reduceEqDiff, ↓reduceIte, reduceCtorEq, Nat.reduceAdd, Int.reduceLT, Int.reduceNeg, valloc_std, noSB, vhot, ei, vice_int]
        refine KD.ret c5 ?_
        by_cases hd : (decS (numZ L[i]) (readD L[i] d).2).2 = 0
        · have hd' : (((decS (numZ L[i]) (readD L[i] d).2).2 : Nat) : Int) = 0 := by omega
          simp only [k15_a, WK, vop, evAll, evOpt, evParts, vbuiltin, vun, vextract, Nat.reduceLT, Nat.reduceEqDiff, ↓reduceIte, reduceCtorEq, Nat.reduceAdd, Int.reduceLT, Int.reduceNeg, valloc_std, noSB, vhot, h23, hd', eq_self, decide_true, hwi]
          exact ⟨i + 1, ⟨by simp [upd_some], by omega, (numZ L[i], (decS (numZ L[i]) (readD L[i] d).2).1), by simp [upd_some], by simpa [upd_some] using o5.bts, by rw [hlo, hdrop, loadN, if_neg hz0, if_pos hd], Kall⟩, by omega⟩
        · have hd' : ¬ (((decS (numZ L[i]) (readD L[i] d).2).2 : Nat) : Int) = 0 := by omega
          simp only [k15_a, WK, vop, evAll, evOpt, evParts, vbuiltin, vun, vextract, Nat.reduceLT, Nat.reduceEqDiff, ↓reduceIte, reduceCtorEq, Nat.reduceAdd, Int.reduceLT, Int.reduceNeg, valloc_std, noSB, vhot, h23, hd', decide_false, hwi]
          exact ⟨i + 1, ⟨by simp [upd_some], by omega, best, by simp [upd_some, h5], by simpa [upd_some] using h6, by rw [hlo, hdrop, loadN, if_neg hz0, if_neg hd], Kall⟩, by omega⟩
    · have hlt' : ¬ (i : Int) < (L.length : Nat) := by omega
      have hdrop : L.drop i = [] := List.drop_of_length_le (by omega)
      rw [hlo, hdrop, loadN]
      simp only [k15_a, WK, vop, evAll, evOpt, evParts, vbuiltin, vun, vextract, Nat.reduceLT, Nat.reduceEqDiff, ↓reduceIte, reduceCtorEq, Nat.reduceAdd, Int.reduceLT, Int.reduceNeg, valloc_std, noSB, vhot, h23, g22, hlt', decide_false, h5]
      exact ⟨e 6, rfl, h6, K1.trans' hk⟩
def numW (name : List UInt8) : Nat := (numP 106 name).getD 0
def stopV (e : Nat) : V := .iface 121 (.agg [.int .i64 (e : Nat)])
def recsK (b : List UInt8) : Nat → Nat → List (List UInt8) × Nat
  | 0, i => ([], i)
  | k + 1, i => match recAt b i with
    | none => ([], i)
    | some n => ((b.drop (i + 8)).take n :: (recsK b k (i + 8 + n)).1, (recsK b k (i + 8 + n)).2)
def recsB (b : List UInt8) : List (List UInt8) × Nat := recsK b (b.length + 1) 0
def segD (n : List UInt8) (d : Dk) : (Nat × List (List UInt8)) × Dk :=
  if (readD n d).1 ≠ 0 then (((readD n d).1, []), d) else
  let t : Nat × Dk := if (recsB (readD n d).2).2 < (readD n d).2.length then truncD n ((recsB (readD n d).2).2 : Nat) d else (0, d)
  if t.1 ≠ 0 then ((t.1, []), t.2) else
  if (syncD n t.2).1 ≠ 0 then (((syncD n t.2).1, []), (syncD n t.2).2) else ((0, (recsB (readD n d).2).1), (syncD n t.2).2)
structure OpS where
  first : Nat
  wf : Nat
  next : Nat
  brk : Bool
  recs : List (List UInt8)
def OpS.skips (s : OpS) (n : Nat) : Prop := 0 < s.first ∧ (s.brk = true ∨ n ≠ s.next)
instance (s : OpS) (n : Nat) : Decidable (s.skips n) := by unfold OpS.skips; infer_instance
def OpS.more (s : OpS) (n : Nat) (l : List (List UInt8)) : OpS := ⟨if s.first = 0 then n else s.first, n, n + l.length, s.brk, s.recs ++ l⟩
def openL : List (List UInt8) → OpS → Dk → (Nat × OpS) × Dk
  | [], s, d => ((0, s), d)
  | x :: l, s, d =>
    if numW x = 0 then openL l s d else
    if s.skips (numW x) then (if (removeD x d).1 ≠ 0 then (((removeD x d).1, s), (removeD x d).2) else openL l { s with brk := true } (removeD x d).2) else
    if (segD x d).1.1 ≠ 0 then (((segD x d).1.1, s), (segD x d).2) else openL l (s.more (numW x) (segD x d).1.2) (segD x d).2
def op0 : OpS := ⟨0, 1, 1, false, []⟩
def openD (per : Int) (d : Dk) : (Nat × OpS) × Dk :=
  if per < 1 then ((1, op0), d) else
  if d.on = false then ((20, op0), d) else
  openL (namesD d) op0 d
def OpS.from (s : OpS) : Nat := if s.first = 0 then 1 else s.first
theorem KS.over {S S1 : List Nat} {σ σ1 : St} (h : KS S1 σ σ1) (hs : ∀ x ∈ S1, x ∈ S) : KS S σ σ1 := h.mono fun x hx => .inl (hs x hx)
def wcells (r : Nat) (per : Int) (wf next sick : Nat) : List V := [.optr r 0, .int .i64 per, .int .i64 (wf : Nat), .int .i64 (next : Nat), .int .i64 (sick : Nat)]
structure OC (u : St) (b r : Nat) (per : Int) (s : OpS) (w : V) : Prop where
  c0 : u.objs[b]? = some (.cells [.optr (b + 4) 0])
  c1 : u.objs[b + 1]? = some (.cells [w])
  c2 : u.objs[b + 2]? = some (.cells [.int .i64 (s.first : Nat)])
  c3 : u.objs[b + 3]? = some (.cells [.int .i64 0])
  c4 : u.objs[b + 4]? = some (.cells (wcells r per s.wf s.next 0))
theorem OC.keep {u u' : St} {b r : Nat} {per : Int} {s : OpS} {w : V} {S : List Nat} (h : OC u b r per s w) (hk : KS S u u') (hS : ∀ k, k < 5 → b + k ∉ S) : OC u' b r per s w :=
  ⟨hk.ko _ _ (hS 0 (by omega)) h.c0, hk.ko _ _ (hS 1 (by omega)) h.c1, hk.ko _ _ (hS 2 (by omega)) h.c2, hk.ko _ _ (hS 3 (by omega)) h.c3, hk.ko _ _ (hS 4 (by omega)) h.c4⟩
structure Jn where
  per : Int
  wf : Nat
  next : Nat
  sick : Nat
def Jn.cells (j : Jn) (r : Nat) : List V := wcells r j.per j.wf j.next j.sick
def Jn.to (j : Jn) : Nat := if j.per ≤ (j.next : Int) - j.wf then j.next else j.wf
def appW (b : List UInt8) (j : Jn) (d : Dk) : (Nat × Nat) × Jn × Dk :=
  if 65536 < b.length then ((0, 3), j, d) else
  if j.sick ≠ 0 then ((0, j.sick), j, d) else
  if nameP 106 1 (j.to : Nat) = [] then ((0, 22), j, d) else
  let a := appendD (nameP 106 1 (j.to : Nat)) (frameB b) d
  if a.1 = 3 ∨ a.1 = 22 then ((0, 22), j, a.2) else
  let y : Nat × Dk := if a.1 = 0 then syncD (nameP 106 1 (j.to : Nat)) a.2 else a
  if y.1 ≠ 0 then ((0, y.1), { j with sick := y.1 }, y.2) else ((j.next, 0), { j with wf := j.to, next := j.next + 1 }, y.2)
def startsD (l : List (List UInt8)) : List Nat := (l.map numW).filter fun n => decide (0 < n)
def pruneL (below : Int) : List Nat → Nat → Dk → (Nat × Nat) × Dk
  | a :: b :: l, g, d => if (b : Int) ≤ below then (if (removeD (nameP 106 1 (a : Nat)) d).1 ≠ 0 then ((0, (removeD (nameP 106 1 (a : Nat)) d).1), (removeD (nameP 106 1 (a : Nat)) d).2) else pruneL below (b :: l) (g + 1) (removeD (nameP 106 1 (a : Nat)) d).2) else ((g, 0), d)
  | _, g, d => ((g, 0), d)
def pruneW (below : Int) (j : Jn) (d : Dk) : (Nat × Nat) × Jn × Dk :=
  if j.sick ≠ 0 then ((0, j.sick), j, d) else
  let x := pruneL below (startsD (namesD d)) 0 d
  if x.1.2 ≠ 0 then (x.1, { j with sick := x.1.2 }, x.2) else (x.1, j, x.2)
theorem WIR : RowT Tryz.prog 94 3 1 8 := ⟨IT.u, by kernel_rfl, ⟨_, (by kernel_rfl : zeroT Tryz.prog 3 = some (.int .i64 0)), rfl⟩, by kernel_rfl, by omega⟩
def OwnI (m : Nat) (u : St) (w : V) (xs : List Nat) : Prop := OwnR 3 1 m u w ((xs.map fun n : Nat => (n : Int)).map i64V) xs.length
theorem OwnI.app {s u : St} {w : V} {xs : List Nat} (h : OwnI s.toks.length u w xs) (hk : Keep s u) (n : Nat) (hl : xs.length ≤ 1000) :
    ∃ w' u', vappend Tryz.prog u 94 94 w (.slice .exact 1 [.int .i64 (n : Nat)] 1) = some (w', u') ∧ OwnI s.toks.length u' w' (xs ++ [n]) ∧ Keep s u' := by
  obtain ⟨w', u', a1, a2, a3, a4⟩ := OwnR.appendO WIR (σ0 := s) (t2 := 94) h rfl hk (y := .slice .exact 1 [.int .i64 (n : Nat)] 1) (ys := [.int .i64 (n : Nat)]) (l := 1) (by simp [vnewsO, vnews, IT.u]) rfl rfl (by omega) (by omega)
  refine ⟨w', u', a1, ?_, a3⟩
  unfold OwnI
  simpa [i64V] using a2
theorem OwnI.keep {m : Nat} {s s' : St} {w : V} {xs : List Nat} (h : OwnI m s w xs) (hk : ∀ k, tokLive s.toks k = true → tokLive s'.toks k = true) : OwnI m s' w xs := OwnR.keep h hk
theorem vstr_at {L : List (List UInt8)} {v : V} (h : RowV 1 v (L.map V.str) L.length) {i : Nat} (hi : i < L.length) : vindexAddr Tryz.prog 70 v (.int .i64 (i : Int)) = some (.eptr (L.map V.str) i) := by
  have := h.addr TSS SS9 (by omega) (kk := .i64) (i := (i : Int)) (by omega) (by omega)
  simpa using this
theorem vstr_ld {L : List (List UInt8)} {i : Nat} (hi : i < L.length) {objs : List Ob} : vload Tryz.prog objs 9 (.eptr (L.map V.str) i) = some (.str L[i]) := by
  have ha : isAggT Tryz.prog 9 = some false := by kernel_rfl
  simp [vload, vcellsAt, vpart, ha, hi]
theorem str_ix {b : UInt8} {t : List UInt8} {i : Nat} (hi : i < t.length) : vindex Tryz.prog 9 (.str (b :: t)) (.int .i64 ((i + 1 : Nat) : Int)) = some (.int .u8 ((t[i].toNat : Nat) : Int)) := by
  simp [vindex, T9, hi]; omega
theorem all_snoc {l : List UInt8} {c : UInt8} : (l ++ [c]).all isDig = (l.all isDig && isDig c) := by simp
theorem num_all {t : List UInt8} {pre : UInt8} (ht : t.length = 9) (h : t.all isDig = false) : numP pre (pre :: t) = none := by
  unfold numP
  simp only
  rw [if_neg (by rintro ⟨_, _, h3⟩; rw [h] at h3; cases h3)]
theorem num_val {t : List UInt8} {pre : UInt8} (ht : t.length = 9) (h : t.all isDig = true) : numP pre (pre :: t) = some (valD 0 t) := by
  unfold numP
  simp only
  rw [if_pos ⟨trivial, ht, h⟩]
theorem not_all {t : List UInt8} {i : Nat} (hi : i < t.length) (h : isDig t[i] = false) : t.all isDig = false := by
  rw [List.all_eq_false]
  exact ⟨t[i], List.getElem_mem hi, by rw [h]; simp⟩
theorem rsnumber_does {σ : St} (name : List UInt8) : Does Tryz.prog prims 60 [.str name] σ (.ret (.int .i64 (numZ name))) σ := by
  apply k60_is.ret (by simp)
  have hl := vlenS name
  by_cases h10 : name.length = 10
  · obtain ⟨b, t, rfl⟩ : ∃ b t, name = b :: t := by
      cases name with
      | nil => simp at h10
      | cons b t => exact ⟨b, t, rfl⟩
    have ht9 : t.length = 9 := by simpa using h10
    have h10' : (((b :: t).length : Nat) : Int) = 10 := by omega
    have hix : vindex Tryz.prog 9 (.str (b :: t)) (.int .i64 0) = some (.int .u8 ((b.toNat : Nat) : Int)) := by simp [vindex, T9]
    by_cases hb : b = 115
    · subst hb
      have hb' : (((115 : UInt8).toNat : Nat) : Int) = 115 := by decide
      simp only [k60_a, WK, vop, evAll, evOpt, evParts, vbuiltin, vun, vextract, Nat.reduceLT, Nat.reduceEqDiff, ↓reduceIte, reduceCtorEq, Nat.reduceAdd, Int.reduceLT, Int.reduceNeg, valloc_std, noSB, vhot, gD0, gD1, hl, h10', eq_self, decide_true, decide_false, Bool.not_true, hix, hb']
      refine Ev.loopF (fun (i : Nat) e s => e 4 = .int .i64 ((i + 1 : Nat) : Int) ∧ i ≤ 9 ∧ s = σ ∧ e 3 = .int .i64 ((valD 0 (t.take i) : Nat) : Int) ∧ (t.take i).all isDig = true) (fun i => 9 - i) 0 ?_ ?_
      · exact ⟨by simp [upd_some], by omega, rfl, by simp [upd_some, valD], by simp⟩
      rintro i e s ⟨h4, hi, rfl, h3, hall⟩ hf
      have g0 : e 0 = .str (115 :: t) := (hf 0 (by decide)).trans (by simp [upd_some])
      clear hf
      by_cases hlt : i < 9
      · have hlt' : ((i + 1 : Nat) : Int) < 10 := by omega
        have hit : i < t.length := by omega
        have hwi : IntKind.i64.wrap (((i + 1 : Nat) : Int) + 1) = ((i + 1 + 1 : Nat) : Int) := by rw [wrap_i64 (by omega) (by omega)]; omega
        have hx := str_ix (b := 115) hit
        have htk : t.take (i + 1) = t.take i ++ [t[i]] := List.take_succ_eq_append_getElem hit
        by_cases c1 : t[i].toNat < 48
        · have c1' : ((t[i].toNat : Nat) : Int) < 48 := by omega
          have hn := num_all (pre := 115) ht9 (not_all hit (by simp [isDig]; omega))
          simp only [k60_a, WK, vop, evAll, evOpt, evParts, vbuiltin, vun, vextract, Nat.reduceLT, Nat.reduceEqDiff, ↓reduceIte, reduceCtorEq, Nat.reduceAdd, Int.reduceLT, Int.reduceNeg, valloc_std, noSB, vhot, gD0, gD1, h4, g0, hlt', decide_true, hx, c1']
          unfold numZ; rw [hn]; try rfl
        by_cases c2 : 57 < t[i].toNat
        · have c1' : ¬ ((t[i].toNat : Nat) : Int) < 48 := by omega
          have c2' : (57 : Int) < ((t[i].toNat : Nat) : Int) := by omega
          have hn := num_all (pre := 115) ht9 (not_all hit (by simp [isDig]; omega))
          simp only [k60_a, WK, vop, evAll, evOpt, evParts, vbuiltin, vun, vextract, Nat.reduceLT, Nat.reduceEqDiff, ↓reduceIte, reduceCtorEq, Nat.reduceAdd, Int.reduceLT, Int.reduceNeg, valloc_std, noSB, vhot, gD0, gD1, h4, g0, hlt', decide_true, decide_false, hx, c1', c2']
          unfold numZ; rw [hn]; try rfl
        have c1' : ¬ ((t[i].toNat : Nat) : Int) < 48 := by omega
        have c2' : ¬ (57 : Int) < ((t[i].toNat : Nat) : Int) := by omega
        have hb9 := (digK_val (t.take i) hall).2
        have hp9 : 10 ^ (t.take i).length ≤ 10 ^ 9 := Nat.pow_le_pow_right (by decide) (by rw [List.length_take]; omega)
        have hv : valD 0 (t.take i) ≤ 1000000000 := by omega
        have hw1 : IntKind.i64.wrap (((valD 0 (t.take i) : Nat) : Int) * 10) = ((valD 0 (t.take i) * 10 : Nat) : Int) := by rw [wrap_i64 (by omega) (by omega)]; omega
        have hw2 : IntKind.u8.wrap (((t[i].toNat : Nat) : Int) - 48) = ((t[i].toNat - 48 : Nat) : Int) := by
          rw [show ((t[i].toNat : Nat) : Int) - 48 = ((t[i].toNat - 48 : Nat) : Int) from by omega]
          unfold IntKind.wrap
          simp [IntKind.bits, IntKind.signed, IntKind.max, IntKind.min]
          omega
        have hcv : vconv Tryz.prog 5 3 (.int .u8 ((t[i].toNat - 48 : Nat) : Int)) = some (.int .i64 ((t[i].toNat - 48 : Nat) : Int)) := by
          have h := conv83 (UInt8.ofNat (t[i].toNat - 48))
          have e : (UInt8.ofNat (t[i].toNat - 48)).toNat = t[i].toNat - 48 := by
            rw [UInt8.toNat_ofNat']; omega
          rw [e] at h
          exact h
        have hvs : valD 0 (t.take (i + 1)) = valD 0 (t.take i) * 10 + (t[i].toNat - 48) := by rw [htk, valD_append]; simp [valD]
        have hw3 : IntKind.i64.wrap (((valD 0 (t.take i) * 10 : Nat) : Int) + ((t[i].toNat - 48 : Nat) : Int)) = ((valD 0 (t.take (i + 1)) : Nat) : Int) := by rw [hvs, wrap_i64 (by omega) (by omega)]; omega
        have hd : isDig t[i] = true := by simp [isDig]; omega
        simp only [k60_a, WK, vop, evAll, evOpt, evParts, vbuiltin, vun, vextract, Nat.reduceLT, Nat.reduceEqDiff, ↓reduceIte, reduceCtorEq, Nat.reduceAdd, Int.reduceLT, Int.reduceNeg, valloc_std, noSB, vhot, gD0, gD1, h4, g0, h3, hlt', decide_true, decide_false, hx, c1', c2', hw1, hw2, hcv, hw3, hwi]
        exact ⟨i + 1, ⟨by simp [upd_some], by omega, by simp [upd_some], by rw [htk, all_snoc, hall, hd]; rfl⟩, by omega⟩
      · have hlt' : ¬ ((i + 1 : Nat) : Int) < 10 := by omega
        have htk : t.take i = t := List.take_of_length_le (by omega)
        rw [htk] at h3 hall
        have hn := num_val (pre := 115) ht9 hall
        simp only [k60_a, WK, vop, evAll, evOpt, evParts, vbuiltin, vun, vextract, Nat.reduceLT, Nat.reduceEqDiff, ↓reduceIte, reduceCtorEq, Nat.reduceAdd, Int.reduceLT, Int.reduceNeg, valloc_std, noSB, vhot, gD0, gD1, h4, h3, hlt', decide_false]
        unfold numZ; rw [hn]; try rfl
    · have hb' : ¬ ((b.toNat : Nat) : Int) = 115 := fun h => hb (by apply UInt8.toNat_inj.1; have : (115 : UInt8).toNat = 115 := rfl; omega)
      have hn : numP 115 (b :: t) = none := by
        unfold numP
        simp only
        rw [if_neg (fun h => hb h.1)]
      simp only [k60_a, WK, vop, evAll, evOpt, evParts, vbuiltin, vun, vextract, Nat.reduceLT, Nat.reduceEqDiff, ↓reduceIte, reduceCtorEq, Nat.reduceAdd, Int.reduceLT, Int.reduceNeg, valloc_std, noSB, vhot, gD0, gD1, hl, h10', eq_self, decide_true, decide_false, Bool.not_true, Bool.not_false, hix, hb']
      unfold numZ; rw [hn]; try rfl
  · have h10' : ¬ ((name.length : Nat) : Int) = 10 := by omega
    have hn : numP 115 name = none := by
      unfold numP
      cases name with
      | nil => rfl
      | cons b t => simp only; rw [if_neg (fun h => h10 (by simp [h.2.1]))]
    simp only [k60_a, WK, vop, evAll, evOpt, evParts, vbuiltin, vun, vextract, Nat.reduceLT, Nat.reduceEqDiff, ↓reduceIte, reduceCtorEq, Nat.reduceAdd, Int.reduceLT, Int.reduceNeg, valloc_std, noSB, vhot, gD0, gD1, hl, h10', decide_false, Bool.not_false]
    unfold numZ; rw [hn]; try rfl
end Go.Proofs.YtnegdinonfjdfaaGreatDoor.Q
