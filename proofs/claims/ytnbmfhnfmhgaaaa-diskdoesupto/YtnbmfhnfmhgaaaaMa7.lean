/- A part of the proof: Kg, Kh, Ki, Kj, Kk, Kl, Km, Kn, Ko, Kp, Kq. -/
import Derived.Test.YtnbmfhnfmhgaaaaMa6
/- Append. -/
set_option linter.unusedVariables false
set_option linter.unusedSimpArgs false
set_option maxRecDepth 100000
namespace Go.Proofs.Ytnbmfhnfmhgaaaa.Q
open Go Go.RowKit Go.Proofs
theorem lens_all {objs : List Ob} : ∀ {fs : List Ent}, (∀ p ∈ fs, FAt objs p) → fileLens objs (fs.map fent) = some (fs.map fun p => p.1.len)
  | [], _ => rfl
  | p :: fs, h => by
    have hp := h p (List.mem_cons_self ..)
    have h1 := rowOf_rl hp.s
    have h2 := rowOf_rl hp.w
    rw [List.length_map] at h1 h2
    simp only [List.map_cons, fileLens, fileLen, fent, hp.ob, h1, h2]
    have := lens_all fun q hq => h q (List.mem_cons_of_mem _ hq)
    rw [this]
theorem sum_le_all {l : List Nat} {m : Nat} (h : ∀ x ∈ l, x ≤ m) : l.sum ≤ l.length * m := by
  induction l with
  | nil => simp
  | cons x l ih =>
    have h1 := h x (List.mem_cons_self ..)
    have h2 := ih fun y hy => h y (List.mem_cons_of_mem _ hy)
    simp only [List.sum_cons, List.length_cons, Nat.succ_mul]
    omega
theorem sizeD_le {d : Dk} (hok : d.Ok) : sizeD d.files ≤ 16777216 := by
  have h1 := sum_le_all (l := d.files.map Fl.len) (m := 1048576) fun x hx => by
    obtain ⟨f, hf, rfl⟩ := List.mem_map.1 hx
    exact hok.sm f hf
  have h2 := hok.few
  unfold sizeD
  rw [List.length_map] at h1
  omega
theorem size_does {σ : St} {r rm : Nat} {d : Dk} {fs : List Ent} (h : DiskAt σ r d rm fs) (hok : d.Ok) : Does Try.prog prims 30 [.optr r 0] σ (.ret (.int .i64 (sizeD d.files : Nat))) ⟨σ.objs ++ [.dead], σ.toks⟩ := by
  refine Does.prim (by kernel_rfl) ?_
  simp only [prims]
  rw [if_pos trivial]
  have hs : (fs.map fun p => p.1.len).sum = sizeD d.files := by
    have := (h.pm.map Fl.len).sum_nat
    rw [List.map_map] at this
    exact this
  have hb := sizeD_le hok
  simp only [sizeP, h.hd, dcells, h.hm, lens_all h.hf, hs]
  rw [if_pos (by omega)]
theorem DiskAt.pushed {σ : St} {r rm : Nat} {d : Dk} {fs : List Ent} (h : DiskAt σ r d rm fs) (o : Ob) : DiskAt ⟨σ.objs ++ [o], σ.toks⟩ r d rm fs := h.keep (KS.push [] σ o) fun x _ => by simp
theorem putF_putF {x y : Fl} {l : List Fl} (hn : x.name = y.name) : putF x (putF y l) = putF x l := by
  unfold putF
  have h1 : ¬ y.name < y.name := lt_irrefl' _
  have e1 : (List.filter (fun f => decide (f.name < x.name)) (l.filter fun f => decide (y.name < f.name))) = [] := by
    rw [List.filter_filter, List.filter_eq_nil_iff]
    intro f _
    rw [hn]
    simp only [Bool.and_eq_true, decide_eq_true_eq, not_and]
    intro h2 h3
    exact lt_irrefl' _ (lt_trans' h2 h3)
  have e2 : (List.filter (fun f => decide (x.name < f.name)) (l.filter fun f => decide (f.name < y.name))) = [] := by
    rw [List.filter_filter, List.filter_eq_nil_iff]
    intro f _
    rw [hn]
    simp only [Bool.and_eq_true, decide_eq_true_eq, not_and]
    intro h2 h3
    exact lt_irrefl' _ (lt_trans' h2 h3)
  rw [List.filter_append, List.filter_append, List.filter_cons, List.filter_cons, e1, e2, hn]
  simp only [h1, decide_false, Bool.false_eq_true, ↓reduceIte, List.append_nil, List.nil_append, List.filter_filter, Bool.and_self]
theorem RB.ks {σ σ' : St} {v : V} {bs : List UInt8} {S : List Nat} (h : RB σ v bs) (hk : KS S σ σ') (hs : ∀ q ∈ S, ∀ cs, σ.objs[q]? ≠ some (.cells cs)) : RB σ' v bs := by
  rcases h with h | ⟨q, off, cs, e1, e2, e3⟩
  · exact .inl h
  · exact .inr ⟨q, off, cs, e1, hk.ko q _ (fun hq => hs q hq cs e2) e2, e3⟩
/-- A new file. -/
theorem DiskAt.fresh {σ : St} {r rm : Nat} {d : Dk} {fs : List Ent} (h : DiskAt σ r d rm fs) (hok : d.Ok) {n : List UInt8} (hg : getF d.files n = none) {σ1 σ2 : St} (h1 : σ1 = ⟨σ.objs ++ [.cells [.nils, .nils]], σ.toks⟩) :
    ∃ σ2 p d2, vmapSet Try.prog σ1 55 (.omap rm) (.str n) (.optr σ.objs.length 0) = some σ2 ∧ d2 = { d with files := putF ⟨n, [], []⟩ d.files } ∧ p.1 = ⟨n, [], []⟩ ∧ p.2.rf = σ.objs.length ∧ DiskAt σ2 r d2 rm (fs ++ [p]) ∧ KS [rm] σ σ2 ∧ Has d2 (fs ++ [p]) fs [] p n ∧ σ2.objs.length = σ.objs.length + 1 ∧ ∀ x ∈ foot r rm (fs ++ [p]), x ∈ foot r rm fs ∨ σ.objs.length ≤ x := by
  have D1 : DiskAt σ1 r d rm fs := by rw [h1]; exact h.pushed _
  have hlt := h.lt
  have hN := h.nd
  have hno := h.get_no hg
  unfold foot at hN
  rw [List.nodup_cons, List.nodup_cons] at hN
  have hrl := hlt r (by simp [foot])
  have hml := hlt rm (by simp [foot])
  have hml1 : rm < σ1.objs.length := by rw [h1]; simp; omega
  have hfl : ∀ x ∈ fs.flatMap (fun p => p.2.ids), x < σ.objs.length := fun x hx => hlt x (by simp only [foot, List.mem_cons]; exact .inr (.inr hx))
  refine ⟨⟨σ1.objs.set rm (.mp (fs.map fent ++ [(.str n, .optr σ.objs.length 0)])), σ1.toks⟩, (⟨n, [], []⟩, ⟨σ.objs.length, .nils, none, [], .nils, none, []⟩), _, ?_, rfl, rfl, rfl, ⟨?_, ?_, ?_, ?_, ?_⟩, ?_, ⟨rfl, rfl, ?_, hno, fun q hq => by cases hq⟩, ?_, ?_⟩
  · simp only [vmapSet, pTM, D1.hm, keyD, find_no hno]
  · simp only
    rw [List.getElem?_set_ne (fun e => hN.1 (by rw [e]; exact List.mem_cons_self ..))]
    exact D1.hd
  · simp only
    rw [List.getElem?_set_self hml1, List.map_append]
    rfl
  · intro q hq
    rcases List.mem_append.1 hq with hq | hq
    · exact (D1.hf q hq).frame fun x hx o ho => by
        simp only
        rw [List.getElem?_set_ne (fun e => hN.2.1 (by rw [e]; exact List.mem_flatMap.2 ⟨q, hq, hx⟩))]
        exact ho
    · rw [List.mem_singleton] at hq
      subst hq
      refine ⟨?_, rfl, rfl, rfl, rfl⟩
      simp only
      rw [List.getElem?_set_ne (by omega), h1]
      exact push_new _ _
  · have e : foot r rm (fs ++ [((⟨n, [], []⟩ : Fl), (⟨σ.objs.length, .nils, none, [], .nils, none, []⟩ : FO))]) = foot r rm fs ++ [σ.objs.length] := by
      simp [foot, FO.ids]
    rw [e, List.nodup_append]
    exact ⟨h.nd, by simp, fun x hx y hy => by rw [List.mem_singleton] at hy; have := hlt x hx; omega⟩
  · simp only [List.map_append, List.map_cons, List.map_nil]
    have hp := h.pm
    have h3 : (putF ⟨n, [], []⟩ d.files).Perm (⟨n, [], []⟩ :: d.files) := by
      unfold putF
      refine (List.perm_middle).trans (.cons _ ?_)
      have e : (d.files.filter fun f => decide (n < f.name)) = d.files.filter fun f => !decide (f.name < n) := by
        refine List.filter_congr fun f hf => ?_
        have hne := getF_none hg f hf
        rcases lt_or hne with h | h
        · have : ¬ n < f.name := fun h2 => lt_irrefl' _ (lt_trans' h h2)
          simp [h, this]
        · have : ¬ f.name < n := fun h2 => lt_irrefl' _ (lt_trans' h h2)
          simp [h, this]
      rw [e]
      exact List.filter_append_perm _ _
    exact (List.perm_append_singleton ..).trans ((hp.cons _).trans h3.symm)
  · refine (KS.push [rm] σ (.cells [.nils, .nils])).trans' ?_
    rw [← h1]
    exact KS.set (.inl (by simp)) _
  · have hm : (⟨n, [], []⟩ : Fl) ∈ putF ⟨n, [], []⟩ d.files := mem_putF.2 (.inl rfl)
    have hnd : ((putF ⟨n, [], []⟩ d.files).map Fl.name).Nodup := by
      rw [List.nodup_iff_pairwise_ne, List.pairwise_map]
      exact (rise_putF hok.rise).imp fun {f g} hlt (he : f.name = g.name) => lt_irrefl' f.name (by rw [← he] at hlt; exact hlt)
    exact getF_mem hnd hm
  · simp [h1]
  · intro x hx
    simp only [foot, List.mem_cons, List.flatMap_append, List.mem_append] at hx ⊢
    rcases hx with hx | hx | hx | hx
    · exact .inl (.inl hx)
    · exact .inl (.inr (.inl hx))
    · exact .inl (.inr (.inr hx))
    · simp [FO.ids] at hx; exact .inr (by omega)
/-- The bytes are put behind the file's, and the write is counted. -/
theorem append_tail {σ : St} {r rm : Nat} {d : Dk} {fs a b : List Ent} {p : Ent} {n bs : List UInt8} {v : V} {e : Nat → V} {R : VRes → St → Prop} (h : DiskAt σ r d rm fs) (hok : d.Ok) (hA : Has d fs a b p n) (hw : d.writes < 4611686018427387904) (hb : RB σ v bs) (hl : p.1.len + bs.length ≤ 1048576)
    (h0 : e 0 = .optr r 0) (h2 : e 2 = v) (h8 : e 8 = .optr p.2.rf 0) (d2 : Dk) (hd2 : d2 = { d with files := putF ⟨n, p.1.safe, p.1.wait ++ bs⟩ d.files })
    (hR : ∀ σ' x, Next σ r rm fs σ' (if (rawD d2).1 = true then offD d.keep (rawD d2).2 else (rawD d2).2) → x = (if (rawD d2).1 = true then 20 else 0 : Nat) → R (.ret (.int .i64 (x : Nat))) σ') :
    Ev Try.prog prims 88 (k10_r14.seq (((CC.region k10_r15).seq (CC.cond (.tmp 85) ((CC.region k10_r16).seq CC.ret) CC.skip)).seq ((CC.region k10_r17).seq CC.ret))) e σ (fnK Try.prog 88 [ResultVar.tmp 6] R) := by
  obtain ⟨g1, g2, g3⟩ := hA.ids h
  simp only [Fl.len] at hl
  have hbn := hb.news
  rw [← List.length_map (f := byteV)] at hbn
  obtain ⟨w', qw, σa, ha, hwa, hka, hqa, h1a⟩ := rowApp g1.w hbn (byteV_one bs) (by simp; omega)
  have hk2 : KS (p.2.rs.toList ++ p.2.rw.toList) σ σa := hka.mono fun x hx => .inl (List.mem_append_right _ hx)
  have hnd2 : (p.2.rs.toList ++ p.2.rw.toList).Nodup := by simp only [FO.ids, List.nodup_cons] at g2; exact g2.2
  have hlt2 : ∀ x ∈ p.2.rs.toList, x < σ.objs.length := fun x hx => g3 x (by simp only [FO.ids, List.mem_cons, List.mem_append]; exact .inr (.inl hx))
  have hsa : rowOf σa.objs p.2.s = some (p.2.rs, p.1.safe.map byteV) := rowOf_frame g1.s fun x hx o ho => hka.ko _ _ (fun hx2 => (List.nodup_append.1 hnd2).2.2 x hx x hx2 rfl) ho
  have hqn : (p.2.rs.toList ++ qw.toList).Nodup := by
    rw [List.nodup_append] at hnd2 ⊢
    refine ⟨hnd2.1, by cases qw <;> simp, fun x hx y hy e => ?_⟩
    rcases hqa y hy with h | h
    · exact hnd2.2.2 x hx y h e
    · have := hlt2 x hx; omega
  obtain ⟨N1, hob⟩ := h.upd hok hA (f' := ⟨n, p.1.safe, p.1.wait ++ bs⟩) hk2 hsa (by rw [List.map_append]; exact hwa) (fun x hx => by
    rcases List.mem_append.1 hx with h | h
    · exact .inl (List.mem_append_left _ h)
    · rcases hqa x h with h | h
      · exact .inl (List.mem_append_right _ h)
      · exact .inr h) hqn rfl
  rw [← hd2] at N1
  have lw : vload Try.prog σ.objs 28 (.optr p.2.rf 1) = some p.2.w := by rw [vload_obj g1.ob pGB]; rfl
  obtain ⟨σb, hσb⟩ : ∃ σb : St, σb = ⟨σa.objs.set p.2.rf (.cells [p.2.s, w']), σa.toks⟩ := ⟨_, rfl⟩
  have st : vstore Try.prog σa 28 (.optr p.2.rf 1) w' = some σb := by rw [vstore_obj hob SBB h1a (by simp), hσb]; rfl
  rw [← hσb] at N1
  obtain ⟨fs1, D1, K1, I1⟩ := N1
  have hgt := hok.get hA.g
  have ok2 : d2.Ok := by
    rw [hd2]
    refine hok.put hgt.2.2.1 (by simp only [Fl.len, List.length_append]; omega) fun hn => ?_
    simp only at hn
    rw [hA.g] at hn
    cases hn
  have hw2 : d2.writes < 4611686018427387904 := by rw [hd2]; exact hw
  have hkp : d2.keep = d.keep := by rw [hd2]
  obtain ⟨σ1, r1, r2, r3, r4, σ2, r5, r6⟩ := rawNext D1 ok2 hw2
  simp only [k10_a, WK, vop, evAll, evOpt, evParts, vbuiltin, vun, vextract, Nat.reduceLT, Nat.reduceEqDiff, ↓reduceIte, reduceCtorEq, Nat.reduceAdd, Int.reduceLT, Int.reduceNeg, valloc_std, noSB, vhot, h8, h2, h0, pFF1, lw, ha, st]
  refine KD.ret r1 ?_
  cases hgo : (rawD d2).1 with
  | true =>
    simp only [k10_a, WK, vop, evAll, evOpt, evParts, vbuiltin, vun, vextract, Nat.reduceLT, Nat.reduceEqDiff, ↓reduceIte, reduceCtorEq, Nat.reduceAdd, Int.reduceLT, Int.reduceNeg, valloc_std, noSB, vhot, h0]
    refine KD.ret r5 ?_
    simp only [k10_a, WK, vop, evAll, evOpt, evParts, vbuiltin, vun, vextract, Nat.reduceLT, Nat.reduceEqDiff, ↓reduceIte, reduceCtorEq, Nat.reduceAdd, Int.reduceLT, Int.reduceNeg, valloc_std, noSB, vhot]
    refine hR _ 20 ?_ (by rw [if_pos hgo])
    rw [if_pos hgo, ← hkp]
    exact Next.trans K1 I1 r6
  | false =>
    simp only [k10_a, WK, vop, evAll, evOpt, evParts, vbuiltin, vun, vextract, Nat.reduceLT, Nat.reduceEqDiff, ↓reduceIte, reduceCtorEq, Nat.reduceAdd, Int.reduceLT, Int.reduceNeg, valloc_std, noSB, vhot, h0]
    refine hR _ 0 ?_ (by rw [if_neg (by rw [hgo]; simp)])
    rw [if_neg (by rw [hgo]; simp)]
    exact Next.trans K1 I1 ⟨fs1, r2, r3, fun x hx => .inl hx⟩
theorem append_sees {σ : St} {r rm : Nat} {d : Dk} {fs : List Ent} {v : V} {n bs : List UInt8} (h : DiskAt σ r d rm fs) (hok : d.Ok) (hw : d.writes < 4611686018427387904) (hb : RB σ v bs) (hbl : bs.length ≤ 1000000000) :
    ∃ q σ', Does Try.prog prims 10 [.optr r 0, .str n, v] σ q σ' ∧ (q = .ret (.int .i64 ((appendD n bs d).1 : Nat)) ∧ Next σ r rm fs σ' (appendD n bs d).2) := by
  apply k10_is.does (by simp)
  have lm : vload Try.prog σ.objs 55 (.optr r 0) = some (.omap rm) := by rw [vload_obj h.hd pGM]; rfl
  have lr : vload Try.prog σ.objs 3 (.optr r 1) = some (.int .i64 d.room) := by rw [vload_obj h.hd G3]; rfl
  obtain ⟨σd, hσd⟩ : ∃ σd : St, σd = ⟨σ.objs ++ [.dead], σ.toks⟩ := ⟨_, rfl⟩
  have Kd : KS (foot r rm fs) σ σd := by rw [hσd]; exact KS.push _ _ _
  have Dd : DiskAt σd r d rm fs := by rw [hσd]; exact h.pushed .dead
  have lr2 : vload Try.prog σd.objs 3 (.optr r 1) = some (.int .i64 d.room) := by rw [vload_obj Dd.hd G3]; rfl
  have lm2 : vload Try.prog σd.objs 55 (.optr r 0) = some (.omap rm) := by rw [vload_obj Dd.hd pGM]; rfl
  have hsz := size_does h hok
  rw [← hσd] at hsz
  have hbd : RB σd v bs := by
    rw [hσd]
    exact hb.keep ((Keep.refl σ).push _)
  have hszl := sizeD_le hok
  have hws : IntKind.i64.wrap (((sizeD d.files : Nat) : Int) + (bs.length : Nat)) = ((sizeD d.files + bs.length : Nat) : Int) := by rw [wrap_i64 (by omega) (by omega)]; omega
  have hkt : ∀ σ', Next σd r rm fs σ' (appendD n bs d).2 → Next σ r rm fs σ' (appendD n bs d).2 := fun σ' hN => Next.trans Kd (fun x hx => .inl hx) hN
  simp only [k10_a, WK, vop, evAll, evOpt, evParts, vbuiltin, vun, vextract, Nat.reduceLT, Nat.reduceEqDiff, ↓reduceIte, reduceCtorEq, Nat.reduceAdd, Int.reduceLT, Int.reduceNeg, valloc_std, noSB, vhot, List.getD_cons_zero, List.getD_cons_succ]
  refine KD.ret (ready_does h n) ?_
  generalize hC : CC.seq k10_r14 _ = C14
  by_cases hr : readyD d n = 0
  · have hr' : ((readyD d n : Nat) : Int) = 0 := by omega
    cases hg : getF d.files n with
    | some f =>
      obtain ⟨a, p, b, hA⟩ := h.get_yes hok hg
      have hf : p.1 = f := by have := hA.g; rw [hg] at this; injection this with this; exact this.symm
      obtain ⟨g1, g2, g3⟩ := hA.ids h
      have hgt := hok.get hg
      have ls : vload Try.prog σ.objs 28 (.optr p.2.rf 0) = some p.2.s := by rw [vload_obj g1.ob pGB]; rfl
      have lw : vload Try.prog σ.objs 28 (.optr p.2.rf 1) = some p.2.w := by rw [vload_obj g1.ob pGB]; rfl
      have vs : vlen Try.prog 28 p.2.s = some (.int .i64 (p.1.safe.length : Nat)) := by rw [rowOf_len g1.s, List.length_map]
      have vw : vlen Try.prog 28 p.2.w = some (.int .i64 (p.1.wait.length : Nat)) := by rw [rowOf_len g1.w, List.length_map]
      have hlen : p.1.safe.length + p.1.wait.length ≤ 1048576 := by rw [hf]; exact hgt.2.2.2
      have w1 : IntKind.i64.wrap (1048576 - (p.1.safe.length : Int)) = 1048576 - (p.1.safe.length : Int) := wrap_i64 (by omega) (by omega)
      have w2 : IntKind.i64.wrap (1048576 - (p.1.safe.length : Int) - (p.1.wait.length : Int)) = 1048576 - (p.1.safe.length : Int) - (p.1.wait.length : Int) := wrap_i64 (by omega) (by omega)
      have hn0 : ¬ readyD d n ≠ 0 := fun h => h hr
      by_cases hbig : 1048576 < f.len + bs.length
      · have e : appendD n bs d = (3, d) := by unfold appendD; rw [if_neg hn0, hg]; simp only [Option.getD_some]; rw [if_pos hbig]
        have hbig' : 1048576 - (p.1.safe.length : Int) - (p.1.wait.length : Int) < (bs.length : Nat) := by rw [hf]; simp only [Fl.len] at hbig; omega
        simp only [k10_a, WK, vop, evAll, evOpt, evParts, vbuiltin, vun, vextract, Nat.reduceLT, Nat.reduceEqDiff, ↓reduceIte, reduceCtorEq, Nat.reduceAdd, Int.reduceLT, Int.reduceNeg, valloc_std, noSB, vhot, hr', pFA r 0 (by omega), lm, h.look_yes hA, hb.len, neq_optr pTF, eql_optr pTF, pFF0, pFF1, ls, lw, vs, vw, w1, w2, hbig', e]
        exact ⟨rfl, Next.refl h⟩
      · have hbig' : ¬ 1048576 - (p.1.safe.length : Int) - (p.1.wait.length : Int) < (bs.length : Nat) := by rw [hf]; simp only [Fl.len] at hbig; omega
        have hb2 : ¬ (1048576 : Int) < (bs.length : Nat) := by simp only [Fl.len] at hbig; omega
        simp only [k10_a, WK, vop, evAll, evOpt, evParts, vbuiltin, vun, vextract, Nat.reduceLT, Nat.reduceEqDiff, ↓reduceIte, reduceCtorEq, Nat.reduceAdd, Int.reduceLT, Int.reduceNeg, valloc_std, noSB, vhot, hr', pFA r 0 (by omega), pFA r 1 (by omega), lm, lr, lr2, h.look_yes hA, hb.len, neq_optr pTF, eql_optr pTF, pFF0, pFF1, ls, lw, vs, vw, w1, w2, hbig', hb2, decide_false]
        refine KD.ret hsz ?_
        by_cases hfull : d.room < ((sizeD d.files + bs.length : Nat) : Int)
        · have e : appendD n bs d = (22, d) := by
            unfold appendD; rw [if_neg hn0, hg]; simp only [Option.getD_some]; rw [if_neg hbig, if_pos (.inr hfull)]
          rw [e] at hkt ⊢
          simp only [k10_a, WK, vop, evAll, evOpt, evParts, vbuiltin, vun, vextract, Nat.reduceLT, Nat.reduceEqDiff, ↓reduceIte, reduceCtorEq, Nat.reduceAdd, Int.reduceLT, Int.reduceNeg, valloc_std, noSB, vhot, hr', pFA r 0 (by omega), pFA r 1 (by omega), lm, lr, lr2, hb.len, hws, hfull, decide_true]
          exact ⟨rfl, hkt _ (Next.refl Dd)⟩
        · have e : appendD n bs d = (if (rawD { d with files := putF ⟨n, f.safe, f.wait ++ bs⟩ d.files }).1 = true then (20, offD d.keep (rawD { d with files := putF ⟨n, f.safe, f.wait ++ bs⟩ d.files }).2) else (0, (rawD { d with files := putF ⟨n, f.safe, f.wait ++ bs⟩ d.files }).2)) := by
            unfold appendD; rw [if_neg hn0, hg]; simp only [Option.getD_some]; rw [if_neg hbig, if_neg (fun h => h.elim (fun h1 => by simp at h1) hfull)]
          simp only [k10_a, WK, vop, evAll, evOpt, evParts, vbuiltin, vun, vextract, Nat.reduceLT, Nat.reduceEqDiff, ↓reduceIte, reduceCtorEq, Nat.reduceAdd, Int.reduceLT, Int.reduceNeg, valloc_std, noSB, vhot, hr', pFA r 0 (by omega), pFA r 1 (by omega), lm, lr, lr2, hb.len, hws, hfull, decide_false, eql_optr pTF]
          rw [← hC]
          refine append_tail Dd hok hA hw hbd (by rw [hf]; omega) (by simp [upd_some]) (by simp [upd_some]) (by simp [upd_some]) _ rfl ?_
          intro σ' x hN hx
          rw [hf] at hN hx
          refine ⟨?_, hkt σ' ?_⟩
          · rw [hx, e]; split <;> rfl
          · rw [e]
            split at hN
            · rename_i h9; rw [if_pos h9]; exact hN
            · rename_i h9; rw [if_neg h9]; exact hN
    | none =>
      have hn0 : ¬ readyD d n ≠ 0 := fun h => h hr
      have hlD : vmapLen Try.prog σ.objs 55 (.omap rm) = some (.int .i64 (d.files.length : Nat)) := by
        simp only [vmapLen, pTM, h.hm, List.length_map]
        have := h.pm.length_eq
        rw [List.length_map] at this
        rw [this]
      have hvl : vlen Try.prog 55 (.omap rm) = none := by simp [vlen, pTM]
      by_cases hbig : 1048576 < bs.length
      · have hbig' : (1048576 : Int) < (bs.length : Nat) := by omega
        have e : appendD n bs d = (3, d) := by unfold appendD; rw [if_neg hn0, hg]; simp only [Option.getD_none]; rw [if_pos (by simp [Fl.len]; omega)]
        simp only [k10_a, WK, vop, evAll, evOpt, evParts, vbuiltin, vun, vextract, Nat.reduceLT, Nat.reduceEqDiff, ↓reduceIte, reduceCtorEq, Nat.reduceAdd, Int.reduceLT, Int.reduceNeg, valloc_std, noSB, vhot, hr', pFA r 0 (by omega), lm, h.look_no hg, hb.len, neq_nilp pTF, eql_nilp pTF, ofNilP, hbig', decide_true, e]
        exact ⟨rfl, Next.refl h⟩
      · have hbig' : ¬ (1048576 : Int) < (bs.length : Nat) := by omega
        have hbig2 : ¬ 1048576 < (⟨n, [], []⟩ : Fl).len + bs.length := by simp [Fl.len]; omega
        simp only [k10_a, WK, vop, evAll, evOpt, evParts, vbuiltin, vun, vextract, Nat.reduceLT, Nat.reduceEqDiff, ↓reduceIte, reduceCtorEq, Nat.reduceAdd, Int.reduceLT, Int.reduceNeg, valloc_std, noSB, vhot, hr', pFA r 0 (by omega), lm, h.look_no hg, hb.len, neq_nilp pTF, eql_nilp pTF, ofNilP, hbig', decide_false, hlD, hvl]
        by_cases hmany : 16 ≤ d.files.length
        · have hmany' : (16 : Int) ≤ (d.files.length : Nat) := by omega
          have e : appendD n bs d = (22, d) := by
            unfold appendD; rw [if_neg hn0, hg]; simp only [Option.getD_none]; rw [if_neg hbig2, if_pos (.inl ⟨rfl, hmany⟩)]
          simp only [k10_a, WK, vop, evAll, evOpt, evParts, vbuiltin, vun, vextract, Nat.reduceLT, Nat.reduceEqDiff, ↓reduceIte, reduceCtorEq, Nat.reduceAdd, Int.reduceLT, Int.reduceNeg, valloc_std, noSB, vhot, hmany', decide_true, e]
          exact ⟨rfl, Next.refl h⟩
        · have hmany' : ¬ (16 : Int) ≤ (d.files.length : Nat) := by omega
          simp only [k10_a, WK, vop, evAll, evOpt, evParts, vbuiltin, vun, vextract, Nat.reduceLT, Nat.reduceEqDiff, ↓reduceIte, reduceCtorEq, Nat.reduceAdd, Int.reduceLT, Int.reduceNeg, valloc_std, noSB, vhot, hmany', decide_false, pFA r 0 (by omega), pFA r 1 (by omega), lm, lr, lr2, hb.len]
          refine KD.ret hsz ?_
          by_cases hfull : d.room < ((sizeD d.files + bs.length : Nat) : Int)
          · have e : appendD n bs d = (22, d) := by
              unfold appendD; rw [if_neg hn0, hg]; simp only [Option.getD_none]; rw [if_neg hbig2, if_pos (.inr hfull)]
            rw [e] at hkt ⊢
            simp only [k10_a, WK, vop, evAll, evOpt, evParts, vbuiltin, vun, vextract, Nat.reduceLT, Nat.reduceEqDiff, ↓reduceIte, reduceCtorEq, Nat.reduceAdd, Int.reduceLT, Int.reduceNeg, valloc_std, noSB, vhot, hr', pFA r 0 (by omega), pFA r 1 (by omega), lm, lr, lr2, hb.len, hws, hfull, decide_true]
            exact ⟨rfl, hkt _ (Next.refl Dd)⟩
          · obtain ⟨x, hx⟩ : ∃ x : Dk, x = { d with files := putF ⟨n, [], bs⟩ d.files } := ⟨_, rfl⟩
            have e : appendD n bs d = (if (rawD x).1 = true then (20, offD d.keep (rawD x).2) else (0, (rawD x).2)) := by
              unfold appendD; rw [if_neg hn0, hg]; simp only [Option.getD_none]; rw [if_neg hbig2, if_neg (fun h => h.elim (fun h1 => hmany h1.2) hfull), hx]; rfl
            obtain ⟨s1, hs1⟩ : ∃ s1 : St, s1 = ⟨σd.objs ++ [.cells [.nils, .nils]], σd.toks⟩ := ⟨_, rfl⟩
            obtain ⟨s2, p, d2, hst, hd2, hp1, hp2, D2, K2, A2, L2, I2⟩ := Dd.fresh hok hg (σ2 := s1) hs1
            have l1 : vload Try.prog s1.objs 55 (.optr r 0) = some (.omap rm) := by rw [hs1, vload_obj (Dd.pushed _).hd pGM]; rfl
            have hbf : vbuild Try.prog 60 [] = some (.agg [.nils, .nils]) := by kernel_rfl
            have ok2 : d2.Ok := by
              rw [hd2]
              exact hok.put (readyD_named hr).1 (by simp [Fl.len]) fun _ => by omega
            have hb2 : RB s2 v bs := hbd.ks K2 fun q hq cs hc => by
              rw [List.mem_singleton] at hq
              subst hq
              rw [Dd.hm] at hc
              cases hc
            have K2 : KS (foot r rm fs) σd s2 := K2.mono fun q hq => .inl (by rw [List.mem_singleton] at hq; subst hq; simp [foot])
            simp only [k10_a, WK, vop, evAll, evOpt, evParts, vbuiltin, vun, vextract, Nat.reduceLT, Nat.reduceEqDiff, ↓reduceIte, reduceCtorEq, Nat.reduceAdd, Int.reduceLT, Int.reduceNeg, valloc_std, noSB, vhot, hr', pFA r 0 (by omega), pFA r 1 (by omega), lm, lr, lr2, hb.len, hws, hfull, decide_false, eql_nilp pTF, hbf, vbox, vcells, ← hs1, l1, hst]
            rw [← hC]
            refine append_tail D2 ok2 A2 (by rw [hd2]; exact hw) hb2 (by rw [hp1]; simp [Fl.len]; omega) (by simp [upd_some]) (by simp [upd_some]) (by simp [upd_some, hp2]) x ?_ ?_
            · rw [hx, hd2, hp1]; simp only [List.nil_append]; rw [putF_putF (x := ⟨n, [], bs⟩) (y := ⟨n, [], []⟩) rfl]
            intro σ' c hN hc
            have hkp : d2.keep = d.keep := by rw [hd2]
            rw [hkp] at hN
            refine ⟨?_, hkt σ' ?_⟩
            · rw [hc, e]; split <;> rfl
            · rw [e]
              split at hN
              · rename_i h9; rw [if_pos h9]; exact Next.trans K2 I2 hN
              · rename_i h9; rw [if_neg h9]; exact Next.trans K2 I2 hN
  · have hr' : ¬ ((readyD d n : Nat) : Int) = 0 := by omega
    have e : appendD n bs d = (readyD d n, d) := by unfold appendD; rw [if_pos hr]
    simp only [k10_a, WK, vop, evAll, evOpt, evParts, vbuiltin, vun, vextract, Nat.reduceLT, Nat.reduceEqDiff, ↓reduceIte, reduceCtorEq, Nat.reduceAdd, Int.reduceLT, Int.reduceNeg, valloc_std, noSB, vhot, hr', e]
    exact Next.refl h
end Go.Proofs.Ytnbmfhnfmhgaaaa.Q

/- Sync, Truncate, Rename, Remove. -/
set_option linter.unusedVariables false
set_option linter.unusedSimpArgs false
set_option maxRecDepth 100000
namespace Go.Proofs.Ytnbmfhnfmhgaaaa.Q
open Go Go.RowKit Go.Proofs
theorem rowOf_news {objs : List Ob} {v : V} {q : Option Nat} {cs : List V} (h : rowOf objs v = some (q, cs)) : vnewsO Try.prog objs 28 v 1 = some (cs, cs.length) := by
  rcases rowOf_spec h with ⟨rfl, rfl, rfl⟩ | ⟨r, full, rfl, rfl, hr, hl, hc⟩
  · simp [vnewsO, vnews, pTB]
  · have h2 : List.take cs.length full = cs := hc.symm
    simp [vnewsO, vnews, pTB, hr, hl, h2]
theorem Has.facts {σ : St} {r rm : Nat} {d : Dk} {fs a b : List Ent} {p : Ent} {n : List UInt8} (h : DiskAt σ r d rm fs) (hok : d.Ok) (hA : Has d fs a b p n) :
    vload Try.prog σ.objs 28 (.optr p.2.rf 0) = some p.2.s ∧ vload Try.prog σ.objs 28 (.optr p.2.rf 1) = some p.2.w ∧ vlen Try.prog 28 p.2.s = some (.int .i64 (p.1.safe.length : Nat)) ∧ vlen Try.prog 28 p.2.w = some (.int .i64 (p.1.wait.length : Nat)) ∧
      p.1.safe.length + p.1.wait.length ≤ 1048576 ∧ namedD n = true ∧ (p.2.rs.toList ++ p.2.rw.toList).Nodup ∧ p.2.rf ∉ p.2.rs.toList ++ p.2.rw.toList := by
  obtain ⟨g1, g2, g3⟩ := hA.ids h
  have hgt := hok.get hA.g
  simp only [FO.ids, List.nodup_cons] at g2
  exact ⟨by rw [vload_obj g1.ob pGB]; rfl, by rw [vload_obj g1.ob pGB]; rfl, by rw [rowOf_len g1.s, List.length_map], by rw [rowOf_len g1.w, List.length_map], hgt.2.2.2, hgt.2.2.1, g2.2, g2.1⟩
theorem sync_sees {σ : St} {r rm : Nat} {d : Dk} {fs : List Ent} {n : List UInt8} (h : DiskAt σ r d rm fs) (hok : d.Ok) (hw : d.writes < 4611686018427387904) :
    ∃ q σ', Does Try.prog prims 13 [.optr r 0, .str n] σ q σ' ∧ (q = .ret (.int .i64 ((syncD n d).1 : Nat)) ∧ Next σ r rm fs σ' (syncD n d).2) := by
  apply k13_is.does (by simp)
  simp only [k13_a, WK, vop, evAll, evOpt, evParts, vbuiltin, vun, vextract, Nat.reduceLT, Nat.reduceEqDiff, ↓reduceIte, reduceCtorEq, Nat.reduceAdd, Int.reduceLT, Int.reduceNeg, valloc_std, noSB, vhot, List.getD_cons_zero, List.getD_cons_succ]
  by_cases hz : thereD d n = 0
  · obtain ⟨a, b, p, hA, hr⟩ := there_ok h hok hz
    refine KD.ret (there_yes h hr hA) ?_
    obtain ⟨σ1, r1, D1, r3, r4, σ2, r5, r6⟩ := rawNext h hok hw
    obtain ⟨f1, f2, f3, f4, f5⟩ := raw_files d
    simp only [k13_a, WK, vop, evAll, evOpt, evParts, vbuiltin, vun, vextract, Nat.reduceLT, Nat.reduceEqDiff, ↓reduceIte, reduceCtorEq, Nat.reduceAdd, Int.reduceLT, Int.reduceNeg, valloc_std, noSB, vhot]
    refine KD.ret r1 ?_
    have hz' : ¬ thereD d n ≠ 0 := fun h => h hz
    cases hgo : (rawD d).1 with
    | true =>
      have e : syncD n d = (20, offD d.keep (rawD d).2) := by unfold syncD; rw [if_neg hz', if_pos hgo]
      simp only [k13_a, WK, vop, evAll, evOpt, evParts, vbuiltin, vun, vextract, Nat.reduceLT, Nat.reduceEqDiff, ↓reduceIte, reduceCtorEq, Nat.reduceAdd, Int.reduceLT, Int.reduceNeg, valloc_std, noSB, vhot]
      refine KD.ret r5 ?_
      simp only [k13_a, WK, vop, evAll, evOpt, evParts, vbuiltin, vun, vextract, Nat.reduceLT, Nat.reduceEqDiff, ↓reduceIte, reduceCtorEq, Nat.reduceAdd, Int.reduceLT, Int.reduceNeg, valloc_std, noSB, vhot, e]
      exact ⟨rfl, r6⟩
    | false =>
      have A1 := hA.files (d2 := (rawD d).2) f1
      have e : syncD n d = (0, { (rawD d).2 with files := putF ⟨n, p.1.safe ++ p.1.wait, []⟩ d.files }) := by
        unfold syncD; rw [if_neg hz', if_neg (by rw [hgo]; simp), hA.g]; rfl
      obtain ⟨g1, g2, g3⟩ := A1.ids D1
      obtain ⟨l1, l2, v1, v2, hl, hn, hnd, hrf⟩ := A1.facts D1 hok.raw
      obtain ⟨s', qs, σa, ha, hsa, hka, hqa, h1a⟩ := rowApp g1.s (rowOf_news g1.w) (byteV_one _) (by simp; omega)
      obtain ⟨N1, hob⟩ := D1.upd hok.raw A1 (f' := ⟨n, p.1.safe ++ p.1.wait, []⟩) (s' := s') (w' := .nils) (qs := qs) (qw := none) (hka.mono fun x hx => .inl (List.mem_append_left _ hx)) (by rw [List.map_append]; exact hsa) rfl (fun x hx => by
        rcases List.mem_append.1 hx with h | h
        · rcases hqa x h with h | h
          · exact .inl (List.mem_append_left _ h)
          · exact .inr h
        · cases h) (by cases qs <;> simp) rfl
      obtain ⟨σb, hσb⟩ : ∃ σb : St, σb = ⟨σa.objs.set p.2.rf (.cells [s', p.2.w]), σa.toks⟩ := ⟨_, rfl⟩
      have st1 : vstore Try.prog σa 28 (.optr p.2.rf 0) s' = some σb := by rw [vstore_obj hob SBB h1a (by simp), hσb]; rfl
      have hobb : σb.objs[p.2.rf]? = some (.cells [s', p.2.w]) := by rw [hσb]; exact obj_set hob
      have st2 : vstore Try.prog σb 28 (.optr p.2.rf 1) .nils = some ⟨σa.objs.set p.2.rf (.cells [s', .nils]), σa.toks⟩ := by
        rw [vstore_obj hobb SBB rfl (by simp), hσb]; simp [List.set_set]
      simp only [k13_a, WK, vop, evAll, evOpt, evParts, vbuiltin, vun, vextract, Nat.reduceLT, Nat.reduceEqDiff, ↓reduceIte, reduceCtorEq, Nat.reduceAdd, Int.reduceLT, Int.reduceNeg, valloc_std, noSB, vhot, pFF0, pFF1, l1, l2, ha, st1, st2, nilEP, e]
      rw [f1] at N1
      exact ⟨rfl, Next.trans r3 (fun x hx => .inl hx) N1⟩
  · refine KD.ret (there_no h n hz) ?_
    have hz' : ¬ ((thereD d n : Nat) : Int) = 0 := by omega
    have e : syncD n d = (thereD d n, d) := by unfold syncD; rw [if_pos hz]
    simp only [k13_a, WK, vop, evAll, evOpt, evParts, vbuiltin, vun, vextract, Nat.reduceLT, Nat.reduceEqDiff, ↓reduceIte, reduceCtorEq, Nat.reduceAdd, Int.reduceLT, Int.reduceNeg, valloc_std, noSB, vhot, hz', e]
    exact Next.refl h
theorem trunc_sees {σ : St} {r rm : Nat} {d : Dk} {fs : List Ent} {n : List UInt8} {k : Int} (h : DiskAt σ r d rm fs) (hok : d.Ok) (hw : d.writes < 4611686018427387904) :
    ∃ q σ', Does Try.prog prims 26 [.optr r 0, .str n, .int .i64 k] σ q σ' ∧ (q = .ret (.int .i64 ((truncD n k d).1 : Nat)) ∧ Next σ r rm fs σ' (truncD n k d).2) := by
  apply k26_is.does (by simp)
  simp only [k26_a, WK, vop, evAll, evOpt, evParts, vbuiltin, vun, vextract, Nat.reduceLT, Nat.reduceEqDiff, ↓reduceIte, reduceCtorEq, Nat.reduceAdd, Int.reduceLT, Int.reduceNeg, valloc_std, noSB, vhot, List.getD_cons_zero, List.getD_cons_succ]
  by_cases hz : thereD d n = 0
  · obtain ⟨a, b, p, hA, hr⟩ := there_ok h hok hz
    refine KD.ret (there_yes h hr hA) ?_
    have hz' : ¬ thereD d n ≠ 0 := fun h => h hz
    obtain ⟨l1, l2, v1, v2, hl, hn, hnd, hrf⟩ := hA.facts h hok
    have hw1 : IntKind.i64.wrap ((p.1.safe.length : Int) + (p.1.wait.length : Int)) = ((p.1.safe.length + p.1.wait.length : Nat) : Int) := by rw [wrap_i64 (by omega) (by omega)]; omega
    by_cases hneg : k < 0
    · have e : truncD n k d = (3, d) := by unfold truncD; rw [if_neg hz', hA.g]; simp only [Option.getD_some]; rw [if_pos (.inl hneg)]
      simp only [k26_a, WK, vop, evAll, evOpt, evParts, vbuiltin, vun, vextract, Nat.reduceLT, Nat.reduceEqDiff, ↓reduceIte, reduceCtorEq, Nat.reduceAdd, Int.reduceLT, Int.reduceNeg, valloc_std, noSB, vhot, hneg, decide_true, e]
      exact ⟨rfl, Next.refl h⟩
    · by_cases hbig : ((p.1.safe.length + p.1.wait.length : Nat) : Int) < k
      · have e : truncD n k d = (3, d) := by unfold truncD; rw [if_neg hz', hA.g]; simp only [Option.getD_some]; rw [if_pos (.inr hbig)]
        simp only [k26_a, WK, vop, evAll, evOpt, evParts, vbuiltin, vun, vextract, Nat.reduceLT, Nat.reduceEqDiff, ↓reduceIte, reduceCtorEq, Nat.reduceAdd, Int.reduceLT, Int.reduceNeg, valloc_std, noSB, vhot, hneg, decide_false, pFF0, pFF1, l1, l2, v1, v2, hw1, hbig, decide_true, e]
        exact ⟨rfl, Next.refl h⟩
      · obtain ⟨σ1, r1, D1, r3, r4, σ2, r5, r6⟩ := rawNext h hok hw
        obtain ⟨f1, f2, f3, f4, f5⟩ := raw_files d
        simp only [k26_a, WK, vop, evAll, evOpt, evParts, vbuiltin, vun, vextract, Nat.reduceLT, Nat.reduceEqDiff, ↓reduceIte, reduceCtorEq, Nat.reduceAdd, Int.reduceLT, Int.reduceNeg, valloc_std, noSB, vhot, hneg, decide_false, pFF0, pFF1, l1, l2, v1, v2, hw1, hbig]
        refine KD.ret r1 ?_
        have hc : ¬ (k < 0 ∨ ((p.1.len : Nat) : Int) < k) := fun h => h.elim hneg hbig
        cases hgo : (rawD d).1 with
        | true =>
          have e : truncD n k d = (20, offD d.keep (rawD d).2) := by unfold truncD; rw [if_neg hz', hA.g]; simp only [Option.getD_some]; rw [if_neg hc, if_pos hgo]
          simp only [k26_a, WK, vop, evAll, evOpt, evParts, vbuiltin, vun, vextract, Nat.reduceLT, Nat.reduceEqDiff, ↓reduceIte, reduceCtorEq, Nat.reduceAdd, Int.reduceLT, Int.reduceNeg, valloc_std, noSB, vhot]
          refine KD.ret r5 ?_
          simp only [k26_a, WK, vop, evAll, evOpt, evParts, vbuiltin, vun, vextract, Nat.reduceLT, Nat.reduceEqDiff, ↓reduceIte, reduceCtorEq, Nat.reduceAdd, Int.reduceLT, Int.reduceNeg, valloc_std, noSB, vhot, e]
          exact ⟨rfl, r6⟩
        | false =>
          have A1 := hA.files (d2 := (rawD d).2) f1
          have e : truncD n k d = (0, { (rawD d).2 with files := putF ⟨n, p.1.safe.take k.toNat, p.1.wait.take (k.toNat - p.1.safe.length)⟩ d.files }) := by
            unfold truncD; rw [if_neg hz', hA.g]; simp only [Option.getD_some]; rw [if_neg hc, if_neg (by rw [hgo]; simp)]
          obtain ⟨g1, g2, g3⟩ := A1.ids D1
          obtain ⟨l1, l2, v1, v2, hl, hn, hnd, hrf⟩ := A1.facts D1 hok.raw
          have hws : IntKind.i64.wrap (k - (p.1.safe.length : Int)) = k - (p.1.safe.length : Int) := wrap_i64 (by omega) (by omega)
          have hmx : vmm true (.int .i64 0) (.int .i64 (k - (p.1.safe.length : Int))) = some (.int .i64 ((k.toNat - p.1.safe.length : Nat) : Int)) := by
            simp only [vmm, ↓reduceIte]
            congr 2
            split <;> omega
          have hmn : vmm false (.int .i64 k) (.int .i64 (p.1.safe.length : Nat)) = some (.int .i64 ((min k.toNat p.1.safe.length : Nat) : Int)) := by
            simp only [vmm, Bool.false_eq_true, ↓reduceIte]
            congr 2
            split <;> omega
          obtain ⟨w', hw', hrw⟩ := rowOf_take g1.w (n := k.toNat - p.1.safe.length) (by rw [List.length_map]; omega)
          obtain ⟨s', hs', hrs⟩ := rowOf_take g1.s (n := min k.toNat p.1.safe.length) (by rw [List.length_map]; omega)
          rw [bytes_take] at hrw hrs
          have hts : p.1.safe.take (min k.toNat p.1.safe.length) = p.1.safe.take k.toNat := by
            rw [← List.take_take, List.take_of_length_le (Nat.le_refl _)]
          rw [hts] at hrs
          obtain ⟨N1, hob⟩ := D1.upd hok.raw A1 (σa := σ1) (f' := ⟨n, p.1.safe.take k.toNat, p.1.wait.take (k.toNat - p.1.safe.length)⟩) (s' := s') (w' := w') (qs := p.2.rs) (qw := p.2.rw) (KS.refl _ _) hrs hrw (fun x hx => .inl hx) hnd rfl
          obtain ⟨σb, hσb⟩ : ∃ σb : St, σb = ⟨σ1.objs.set p.2.rf (.cells [p.2.s, w']), σ1.toks⟩ := ⟨_, rfl⟩
          have st1 : vstore Try.prog σ1 28 (.optr p.2.rf 1) w' = some σb := by rw [vstore_obj hob SBB (rowOf_one hrw) (by simp), hσb]; rfl
          have hobb : σb.objs[p.2.rf]? = some (.cells [p.2.s, w']) := by rw [hσb]; exact obj_set hob
          have st2 : vstore Try.prog σb 28 (.optr p.2.rf 0) s' = some ⟨σ1.objs.set p.2.rf (.cells [s', w']), σ1.toks⟩ := by
            rw [vstore_obj hobb SBB (rowOf_one hrs) (by simp), hσb]; simp [List.set_set]
          have l3 : vload Try.prog σb.objs 28 (.optr p.2.rf 0) = some p.2.s := by rw [vload_obj hobb pGB]; rfl
          simp only [k26_a, WK, vop, evAll, evOpt, evParts, vbuiltin, vun, vextract, Nat.reduceLT, Nat.reduceEqDiff, ↓reduceIte, reduceCtorEq, Nat.reduceAdd, Int.reduceLT, Int.reduceNeg, valloc_std, noSB, vhot, pFF0, pFF1, l1, l2, v1, v2, hws, hmx, hw', st1, l3, hmn, hs', st2, pTB, e]
          rw [f1] at N1
          exact ⟨rfl, Next.trans r3 (fun x hx => .inl hx) N1⟩
  · refine KD.ret (there_no h n hz) ?_
    have hz' : ¬ ((thereD d n : Nat) : Int) = 0 := by omega
    have e : truncD n k d = (thereD d n, d) := by unfold truncD; rw [if_pos hz]
    simp only [k26_a, WK, vop, evAll, evOpt, evParts, vbuiltin, vun, vextract, Nat.reduceLT, Nat.reduceEqDiff, ↓reduceIte, reduceCtorEq, Nat.reduceAdd, Int.reduceLT, Int.reduceNeg, valloc_std, noSB, vhot, hz', decide_false, e]
    exact Next.refl h
/-! ### Files leave the map, and come into it -/
theorem DiskAt.gone {σ : St} {r rm : Nat} {d : Dk} {fs a b : List Ent} {p : Ent} {n : List UInt8} (h : DiskAt σ r d rm fs) (hok : d.Ok) (hA : Has d fs a b p n) :
    ∃ σ', vmapDel Try.prog σ 55 (.omap rm) (.str n) = some σ' ∧ DiskAt σ' r { d with files := dropF n d.files } rm (a ++ b) ∧ KS [rm] σ σ' ∧ FAt σ'.objs p ∧ p.2.ids.Nodup ∧ (∀ x ∈ p.2.ids, x ∈ foot r rm fs ∧ x ∉ foot r rm (a ++ b)) ∧ ∀ x ∈ foot r rm (a ++ b), x ∈ foot r rm fs := by
  have hlt := h.lt
  have hN := h.nd
  obtain ⟨g1, g2, g3⟩ := hA.ids h
  have hfs := hA.e
  subst hfs
  have hpm := h.pm
  unfold foot at hN
  rw [List.nodup_cons, List.nodup_cons, flat_mid] at hN
  obtain ⟨n1, n2, n3⟩ := hN
  have hml := hlt rm (by simp [foot])
  have hv := find_yes (a := a) (b := b) (p := p) (by rw [hA.nm]; exact hA.a) 0
  rw [hA.nm] at hv
  have hne : ∀ x, x ∈ (a ++ p :: b).flatMap (fun p => p.2.ids) → rm ≠ x := fun x hx e => n2 (by rw [flat_mid] at hx; rw [e]; exact hx)
  have hkeep : ∀ q ∈ a ++ p :: b, FAt (σ.objs.set rm (.mp ((a ++ b).map fent))) q := fun q hq => (h.hf q hq).frame fun x hx o ho => by
    rw [List.getElem?_set_ne (hne x (List.mem_flatMap.2 ⟨q, hq, hx⟩))]; exact ho
  have hids : ∀ x ∈ foot r rm (a ++ b), x ∈ foot r rm (a ++ p :: b) := by
    intro x hx
    simp only [foot, List.mem_cons, List.flatMap_append, List.flatMap_cons, List.mem_append] at hx ⊢
    rcases hx with h | h | h | h
    · exact .inl h
    · exact .inr (.inl h)
    · exact .inr (.inr (.inl h))
    · exact .inr (.inr (.inr (.inr h)))
  have hsub : ((a ++ b).flatMap fun p => p.2.ids).Sublist ((a ++ p :: b).flatMap fun p => p.2.ids) := by
    rw [flat_mid, List.flatMap_append]
    exact (List.Sublist.refl _).append (List.sublist_append_right ..)
  refine ⟨⟨σ.objs.set rm (.mp ((a ++ b).map fent)), σ.toks⟩, ?_, ⟨?_, ?_, fun q hq => hkeep q ?_, ?_, ?_⟩, KS.set (.inl (by simp)) _, hkeep p (by simp), g2, fun x hx => ⟨?_, fun hx2 => ?_⟩, hids⟩
  · simp only [vmapDel, pTM, h.hm, keyD, hv]
    congr 3
    rw [List.map_append, List.map_cons, Nat.zero_add, ← List.length_map (f := fent), List.eraseIdx_append_of_length_le (Nat.le_refl _), Nat.sub_self, List.map_append]
    rfl
  · simp only
    rw [List.getElem?_set_ne (fun e => n1 (by rw [e]; exact List.mem_cons_self ..))]
    exact h.hd
  · simp only
    rw [List.getElem?_set_self hml]
  · rcases List.mem_append.1 hq with h | h <;> simp [h]
  · have := h.nd
    unfold foot at this ⊢
    exact (List.Sublist.cons_cons _ (List.Sublist.cons_cons _ hsub)).nodup this
  · simp only [List.map_append, List.map_cons] at hpm ⊢
    have e : (a.map (·.1) ++ b.map (·.1)) = dropF n (a.map (·.1) ++ p.1 :: b.map (·.1)) := by
      unfold dropF
      rw [List.filter_append, List.filter_cons]
      simp only [hA.nm, ne_eq, not_true_eq_false, decide_false, Bool.false_eq_true, ↓reduceIte]
      rw [List.filter_eq_self.2, List.filter_eq_self.2]
      · intro f hf
        obtain ⟨q, hq, rfl⟩ := List.mem_map.1 hf
        simp [hA.b q hq]
      · intro f hf
        obtain ⟨q, hq, rfl⟩ := List.mem_map.1 hf
        simp [hA.a q hq]
    rw [e]
    exact hpm.filter _
  · simp only [foot, List.mem_cons, List.mem_flatMap]
    exact .inr (.inr ⟨p, by simp, hx⟩)
  · simp only [foot, List.mem_cons, List.flatMap_append, List.mem_append] at hx2
    rw [List.nodup_append, List.nodup_append] at n3
    rcases hx2 with h | h | h | h
    · subst h; exact n1 (List.mem_cons_of_mem _ (by simp [hx]))
    · subst h; exact n2 (by simp [hx])
    · exact n3.2.2 x h x (List.mem_append_left _ hx) rfl
    · exact n3.2.1.2.2 x hx x h rfl
theorem putF_new {l : List Fl} {x : Fl} (hg : getF l x.name = none) : (putF x l).Perm (x :: l) := by
  unfold putF
  refine (List.perm_middle).trans (.cons _ ?_)
  have e : (l.filter fun f => decide (x.name < f.name)) = l.filter fun f => !decide (f.name < x.name) := by
    refine List.filter_congr fun f hf => ?_
    have hne := getF_none hg f hf
    rcases lt_or hne with h | h
    · have : ¬ x.name < f.name := fun h2 => lt_irrefl' _ (lt_trans' h h2)
      simp [h, this]
    · have : ¬ f.name < x.name := fun h2 => lt_irrefl' _ (lt_trans' h h2)
      simp [h, this]
  rw [e]
  exact List.filter_append_perm _ _
theorem DiskAt.come {σ : St} {r rm : Nat} {d : Dk} {fs : List Ent} {p : Ent} (h : DiskAt σ r d rm fs) (hok : d.Ok) (hF : FAt σ.objs p) (hnd : p.2.ids.Nodup) (hdj : ∀ x ∈ p.2.ids, x ∉ foot r rm fs) :
    ∃ σ' fs', vmapSet Try.prog σ 55 (.omap rm) (.str p.1.name) (.optr p.2.rf 0) = some σ' ∧ DiskAt σ' r { d with files := putF p.1 d.files } rm fs' ∧ KS [rm] σ σ' ∧ ∀ x ∈ foot r rm fs', x ∈ foot r rm fs ∨ x ∈ p.2.ids := by
  have hlt := h.lt
  have hN := h.nd
  have hN0 := hN
  have hml := hlt rm (by simp [foot])
  unfold foot at hN
  rw [List.nodup_cons, List.nodup_cons] at hN
  obtain ⟨n1, n2, n3⟩ := hN
  have hkeep : ∀ q ∈ fs, ∀ o, FAt (σ.objs.set rm o) q := fun q hq o => (h.hf q hq).frame fun x hx o ho => by
    rw [List.getElem?_set_ne (fun e => n2 (by rw [e]; exact List.mem_flatMap.2 ⟨q, hq, hx⟩))]; exact ho
  have hkp : ∀ o, FAt (σ.objs.set rm o) p := fun o => hF.frame fun x hx o ho => by
    rw [List.getElem?_set_ne (fun e => hdj x hx (by rw [← e]; simp [foot]))]; exact ho
  have hrm : rm ≠ r := fun e => n1 (by rw [← e]; exact List.mem_cons_self ..)
  cases hg : getF d.files p.1.name with
  | none =>
    have hno := h.get_no hg
    refine ⟨⟨σ.objs.set rm (.mp ((fs ++ [p]).map fent)), σ.toks⟩, fs ++ [p], ?_, ⟨?_, ?_, ?_, ?_, ?_⟩, KS.set (.inl (by simp)) _, ?_⟩
    · simp only [vmapSet, pTM, h.hm, keyD, find_no hno]
      rw [List.map_append]
      rfl
    · simp only; rw [List.getElem?_set_ne hrm]; exact h.hd
    · simp only; rw [List.getElem?_set_self hml]
    · intro q hq
      rcases List.mem_append.1 hq with hq | hq
      · exact hkeep q hq _
      · rw [List.mem_singleton] at hq; subst hq; exact hkp _
    · have e : foot r rm (fs ++ [p]) = foot r rm fs ++ p.2.ids := by simp [foot]
      rw [e, List.nodup_append]
      exact ⟨hN0, hnd, fun x hx y hy e => hdj y hy (by rw [← e]; exact hx)⟩
    · simp only [List.map_append, List.map_cons, List.map_nil]
      exact (List.perm_append_singleton ..).trans ((h.pm.cons _).trans (putF_new hg).symm)
    · intro x hx
      have e : foot r rm (fs ++ [p]) = foot r rm fs ++ p.2.ids := by simp [foot]
      rw [e, List.mem_append] at hx
      exact hx
  | some f =>
    obtain ⟨a, q, b, hA⟩ := h.get_yes hok hg
    have hfs := hA.e
    subst hfs
    have hpm := h.pm
    have hv := find_yes (a := a) (b := b) (p := q) (by rw [hA.nm]; exact hA.a) 0
    rw [hA.nm] at hv
    have hmem : ∀ x ∈ foot r rm (a ++ p :: b), x ∈ foot r rm (a ++ q :: b) ∨ x ∈ p.2.ids := by
      intro x hx
      simp only [foot, List.mem_cons, List.flatMap_append, List.flatMap_cons, List.mem_append] at hx ⊢
      rcases hx with h | h | h | h | h
      · exact .inl (.inl h)
      · exact .inl (.inr (.inl h))
      · exact .inl (.inr (.inr (.inl h)))
      · exact .inr h
      · exact .inl (.inr (.inr (.inr (.inr h))))
    refine ⟨⟨σ.objs.set rm (.mp ((a ++ p :: b).map fent)), σ.toks⟩, a ++ p :: b, ?_, ⟨?_, ?_, ?_, ?_, ?_⟩, KS.set (.inl (by simp)) _, hmem⟩
    · simp only [vmapSet, pTM, h.hm, keyD, hv]
      congr 3
      rw [List.map_append, List.map_cons, Nat.zero_add, ← List.length_map (f := fent), List.set_append_right _ _ (Nat.le_refl _), Nat.sub_self, List.map_append]
      rfl
    · simp only; rw [List.getElem?_set_ne hrm]; exact h.hd
    · simp only; rw [List.getElem?_set_self hml]
    · intro x hx
      simp only [List.mem_append, List.mem_cons] at hx
      rcases hx with hx | rfl | hx
      · exact hkeep x (by simp [hx]) _
      · exact hkp _
      · exact hkeep x (by simp [hx]) _
    · unfold foot at hN0 ⊢
      rw [flat_mid] at hN0 ⊢
      have hdj2 : ∀ x ∈ p.2.ids, x ∉ r :: rm :: ((a.flatMap fun p => p.2.ids) ++ (q.2.ids ++ b.flatMap fun p => p.2.ids)) := fun x hx hx2 => hdj x hx (by unfold foot; rw [flat_mid]; exact hx2)
      rw [← List.cons_append, ← List.cons_append] at hN0 ⊢
      rw [List.nodup_append, List.nodup_append] at hN0 ⊢
      obtain ⟨m1, ⟨m2, m3, m4⟩, m5⟩ := hN0
      refine ⟨m1, ⟨hnd, m3, fun x hx y hy e => hdj2 x hx (by rw [e]; simp [hy])⟩, fun x hx y hy e => ?_⟩
      rcases List.mem_append.1 hy with hy | hy
      · refine hdj2 y hy ?_
        rw [← e]
        rw [← List.cons_append, ← List.cons_append]
        exact List.mem_append_left _ hx
      · exact m5 x hx y (List.mem_append_right _ hy) e
    · simp only [List.map_append, List.map_cons] at hpm ⊢
      exact putF_perm hok.rise hpm hA.nm.symm
end Go.Proofs.Ytnbmfhnfmhgaaaa.Q

/- Remove, Rename, and the small calls. -/
set_option linter.unusedVariables false
set_option linter.unusedSimpArgs false
set_option maxRecDepth 100000
namespace Go.Proofs.Ytnbmfhnfmhgaaaa.Q
open Go Go.RowKit Go.Proofs
theorem remove_sees {σ : St} {r rm : Nat} {d : Dk} {fs : List Ent} {n : List UInt8} (h : DiskAt σ r d rm fs) (hok : d.Ok) (hw : d.writes < 4611686018427387904) :
    ∃ q σ', Does Try.prog prims 28 [.optr r 0, .str n] σ q σ' ∧ (q = .ret (.int .i64 ((removeD n d).1 : Nat)) ∧ Next σ r rm fs σ' (removeD n d).2) := by
  apply k28_is.does (by simp)
  simp only [k28_a, WK, vop, evAll, evOpt, evParts, vbuiltin, vun, vextract, Nat.reduceLT, Nat.reduceEqDiff, ↓reduceIte, reduceCtorEq, Nat.reduceAdd, Int.reduceLT, Int.reduceNeg, valloc_std, noSB, vhot, List.getD_cons_zero, List.getD_cons_succ]
  by_cases hz : thereD d n = 0
  · obtain ⟨a, b, p, hA, hr⟩ := there_ok h hok hz
    refine KD.ret (there_yes h hr hA) ?_
    obtain ⟨σ1, r1, D1, r3, r4, σ2, r5, r6⟩ := rawNext h hok hw
    obtain ⟨f1, f2, f3, f4, f5⟩ := raw_files d
    simp only [k28_a, WK, vop, evAll, evOpt, evParts, vbuiltin, vun, vextract, Nat.reduceLT, Nat.reduceEqDiff, ↓reduceIte, reduceCtorEq, Nat.reduceAdd, Int.reduceLT, Int.reduceNeg, valloc_std, noSB, vhot]
    refine KD.ret r1 ?_
    have hz' : ¬ thereD d n ≠ 0 := fun h => h hz
    cases hgo : (rawD d).1 with
    | true =>
      have e : removeD n d = (20, offD d.keep (rawD d).2) := by unfold removeD; rw [if_neg hz', if_pos hgo]
      simp only [k28_a, WK, vop, evAll, evOpt, evParts, vbuiltin, vun, vextract, Nat.reduceLT, Nat.reduceEqDiff, ↓reduceIte, reduceCtorEq, Nat.reduceAdd, Int.reduceLT, Int.reduceNeg, valloc_std, noSB, vhot]
      refine KD.ret r5 ?_
      simp only [k28_a, WK, vop, evAll, evOpt, evParts, vbuiltin, vun, vextract, Nat.reduceLT, Nat.reduceEqDiff, ↓reduceIte, reduceCtorEq, Nat.reduceAdd, Int.reduceLT, Int.reduceNeg, valloc_std, noSB, vhot, e]
      exact ⟨rfl, r6⟩
    | false =>
      have A1 := hA.files (d2 := (rawD d).2) f1
      have e : removeD n d = (0, { (rawD d).2 with files := dropF n d.files }) := by
        unfold removeD; rw [if_neg hz', if_neg (by rw [hgo]; simp)]
      have lm : vload Try.prog σ1.objs 55 (.optr r 0) = some (.omap rm) := by rw [vload_obj D1.hd pGM]; rfl
      obtain ⟨σb, hdl, N1, K1, _, _, _, I1⟩ := D1.gone hok.raw A1
      simp only [k28_a, WK, vop, evAll, evOpt, evParts, vbuiltin, vun, vextract, Nat.reduceLT, Nat.reduceEqDiff, ↓reduceIte, reduceCtorEq, Nat.reduceAdd, Int.reduceLT, Int.reduceNeg, valloc_std, noSB, vhot, pFA r 0 (by omega), lm, hdl, e]
      rw [f1] at N1
      exact ⟨rfl, Next.trans r3 (fun x hx => .inl hx) ⟨_, N1, K1.mono fun x hx => .inl (by rw [List.mem_singleton] at hx; subst hx; simp [foot]), fun x hx => .inl (I1 x hx)⟩⟩
  · refine KD.ret (there_no h n hz) ?_
    have hz' : ¬ ((thereD d n : Nat) : Int) = 0 := by omega
    have e : removeD n d = (thereD d n, d) := by unfold removeD; rw [if_pos hz]
    simp only [k28_a, WK, vop, evAll, evOpt, evParts, vbuiltin, vun, vextract, Nat.reduceLT, Nat.reduceEqDiff, ↓reduceIte, reduceCtorEq, Nat.reduceAdd, Int.reduceLT, Int.reduceNeg, valloc_std, noSB, vhot, hz', e]
    exact Next.refl h
theorem thereD_cases (d : Dk) (n : List UInt8) : (namedD n = false → thereD d n = 1) ∧ (namedD n = true → thereD d n = 0 ∨ thereD d n = 20 ∨ thereD d n = 21) := by
  unfold thereD readyD
  cases h1 : namedD n <;> cases h2 : d.on <;> cases h3 : (getF d.files n).isNone <;> simp
theorem rename_sees {σ : St} {r rm : Nat} {d : Dk} {fs : List Ent} {n m : List UInt8} (h : DiskAt σ r d rm fs) (hok : d.Ok) (hw : d.writes < 4611686018427387904) :
    ∃ q σ', Does Try.prog prims 27 [.optr r 0, .str n, .str m] σ q σ' ∧ (q = .ret (.int .i64 ((renameD n m d).1 : Nat)) ∧ Next σ r rm fs σ' (renameD n m d).2) := by
  apply k27_is.does (by simp)
  simp only [k27_a, WK, vop, evAll, evOpt, evParts, vbuiltin, vun, vextract, Nat.reduceLT, Nat.reduceEqDiff, ↓reduceIte, reduceCtorEq, Nat.reduceAdd, Int.reduceLT, Int.reduceNeg, valloc_std, noSB, vhot, List.getD_cons_zero, List.getD_cons_succ]
  obtain ⟨c1, c2⟩ := thereD_cases d n
  by_cases hz : thereD d n = 0
  · obtain ⟨a, b, p, hA, hr⟩ := there_ok h hok hz
    have hn := (readyD_named hr).1
    refine KD.ret (there_yes h hr hA) ?_
    have z2 : ¬ (0 : Int) = 2 := by decide
    have z1 : ¬ (0 : Int) = 1 := by decide
    simp only [k27_a, WK, vop, evAll, evOpt, evParts, vbuiltin, vun, vextract, Nat.reduceLT, Nat.reduceEqDiff, ↓reduceIte, reduceCtorEq, Nat.reduceAdd, Int.reduceLT, Int.reduceNeg, valloc_std, noSB, vhot, z2, z1, decide_false]
    refine KD.ret (named_does m σ) ?_
    have hz' : ¬ thereD d n ≠ 0 := fun h => h hz
    cases hm : namedD m with
    | false =>
      have e : renameD n m d = (1, d) := by unfold renameD; rw [if_pos (.inr hm)]
      simp only [k27_a, WK, vop, evAll, evOpt, evParts, vbuiltin, vun, vextract, Nat.reduceLT, Nat.reduceEqDiff, ↓reduceIte, reduceCtorEq, Nat.reduceAdd, Int.reduceLT, Int.reduceNeg, valloc_std, noSB, vhot, Bool.not_false, e]
      exact ⟨rfl, Next.refl h⟩
    | true =>
      have hnm : ¬ (namedD n = false ∨ namedD m = false) := by rw [hn, hm]; simp
      obtain ⟨σ1, r1, D1, r3, r4, σ2, r5, r6⟩ := rawNext h hok hw
      obtain ⟨f1, f2, f3, f4, f5⟩ := raw_files d
      simp only [k27_a, WK, vop, evAll, evOpt, evParts, vbuiltin, vun, vextract, Nat.reduceLT, Nat.reduceEqDiff, ↓reduceIte, reduceCtorEq, Nat.reduceAdd, Int.reduceLT, Int.reduceNeg, valloc_std, noSB, vhot, Bool.not_true]
      refine KD.ret r1 ?_
      cases hgo : (rawD d).1 with
      | true =>
        have e : renameD n m d = (20, offD d.keep (rawD d).2) := by unfold renameD; rw [if_neg hnm, if_neg hz', if_pos hgo]
        simp only [k27_a, WK, vop, evAll, evOpt, evParts, vbuiltin, vun, vextract, Nat.reduceLT, Nat.reduceEqDiff, ↓reduceIte, reduceCtorEq, Nat.reduceAdd, Int.reduceLT, Int.reduceNeg, valloc_std, noSB, vhot]
        refine KD.ret r5 ?_
        simp only [k27_a, WK, vop, evAll, evOpt, evParts, vbuiltin, vun, vextract, Nat.reduceLT, Nat.reduceEqDiff, ↓reduceIte, reduceCtorEq, Nat.reduceAdd, Int.reduceLT, Int.reduceNeg, valloc_std, noSB, vhot, e]
        exact ⟨rfl, r6⟩
      | false =>
        have A1 := hA.files (d2 := (rawD d).2) f1
        have e : renameD n m d = (0, { (rawD d).2 with files := putF ⟨m, p.1.safe, p.1.wait⟩ (dropF n d.files) }) := by
          unfold renameD; rw [if_neg hnm, if_neg hz', if_neg (by rw [hgo]; simp), hA.g]; rfl
        have lm : vload Try.prog σ1.objs 55 (.optr r 0) = some (.omap rm) := by rw [vload_obj D1.hd pGM]; rfl
        obtain ⟨σb, hdl, N1, K1, F1, Q1, J1, I1⟩ := D1.gone hok.raw A1
        have lm2 : vload Try.prog σb.objs 55 (.optr r 0) = some (.omap rm) := by rw [vload_obj N1.hd pGM]; rfl
        obtain ⟨σc, fs', hst, N2, K2, I2⟩ := N1.come (p := (⟨m, p.1.safe, p.1.wait⟩, p.2)) (hok.raw.drop n) ⟨F1.ob, F1.s, F1.w, F1.cs, F1.ds⟩ Q1 (fun x hx => (J1 x hx).2)
        simp only [k27_a, WK, vop, evAll, evOpt, evParts, vbuiltin, vun, vextract, Nat.reduceLT, Nat.reduceEqDiff, ↓reduceIte, reduceCtorEq, Nat.reduceAdd, Int.reduceLT, Int.reduceNeg, valloc_std, noSB, vhot, pFA r 0 (by omega), lm, hdl, lm2, hst, e]
        rw [f1] at N2
        have hrm : ∀ x ∈ [rm], x ∈ foot r rm fs ∨ σ1.objs.length ≤ x := fun x hx => .inl (by rw [List.mem_singleton] at hx; subst hx; simp [foot])
        refine ⟨rfl, Next.trans r3 (fun x hx => .inl hx) ⟨_, N2, (K1.mono hrm).trans K2 hrm, fun x hx => ?_⟩⟩
        rcases I2 x hx with h | h
        · exact .inl (I1 x h)
        · exact .inl (J1 x h).1
  · refine KD.ret (there_no h n hz) ?_
    have hz' : ¬ ((thereD d n : Nat) : Int) = 0 := by omega
    cases hn : namedD n with
    | false =>
      have ht := c1 hn
      have e : renameD n m d = (1, d) := by unfold renameD; rw [if_pos (.inl hn)]
      have z2 : ¬ (1 : Int) = 2 := by decide
      have ht' : ((thereD d n : Nat) : Int) = 1 := by omega
      rw [e]
      simp only [k27_a, WK, vop, evAll, evOpt, evParts, vbuiltin, vun, vextract, Nat.reduceLT, Nat.reduceEqDiff, ↓reduceIte, reduceCtorEq, Nat.reduceAdd, Int.reduceLT, Int.reduceNeg, valloc_std, noSB, vhot, ht', z2, decide_false, decide_true]
      exact ⟨rfl, Next.refl h⟩
    | true =>
      have h2 : ¬ ((thereD d n : Nat) : Int) = 2 := by have := c2 hn; omega
      have h1 : ¬ ((thereD d n : Nat) : Int) = 1 := by have := c2 hn; omega
      simp only [k27_a, WK, vop, evAll, evOpt, evParts, vbuiltin, vun, vextract, Nat.reduceLT, Nat.reduceEqDiff, ↓reduceIte, reduceCtorEq, Nat.reduceAdd, Int.reduceLT, Int.reduceNeg, valloc_std, noSB, vhot, h1, h2, decide_false]
      refine KD.ret (named_does m σ) ?_
      cases hm : namedD m with
      | false =>
        have e : renameD n m d = (1, d) := by unfold renameD; rw [if_pos (.inr hm)]
        simp only [k27_a, WK, vop, evAll, evOpt, evParts, vbuiltin, vun, vextract, Nat.reduceLT, Nat.reduceEqDiff, ↓reduceIte, reduceCtorEq, Nat.reduceAdd, Int.reduceLT, Int.reduceNeg, valloc_std, noSB, vhot, Bool.not_false, e]
        exact ⟨rfl, Next.refl h⟩
      | true =>
        have hnm : ¬ (namedD n = false ∨ namedD m = false) := by rw [hn, hm]; simp
        have e : renameD n m d = (thereD d n, d) := by unfold renameD; rw [if_neg hnm, if_pos hz]
        simp only [k27_a, WK, vop, evAll, evOpt, evParts, vbuiltin, vun, vextract, Nat.reduceLT, Nat.reduceEqDiff, ↓reduceIte, reduceCtorEq, Nat.reduceAdd, Int.reduceLT, Int.reduceNeg, valloc_std, noSB, vhot, Bool.not_true, hz', decide_false, e]
        exact Next.refl h
end Go.Proofs.Ytnbmfhnfmhgaaaa.Q

/- Concat, Read and Names. -/
set_option linter.unusedVariables false
set_option linter.unusedSimpArgs false
set_option maxRecDepth 100000
namespace Go.Proofs.Ytnbmfhnfmhgaaaa.Q
open Go Go.RowKit Go.Proofs
theorem TBB : Try.prog.underlying 22 = some (.slice 28) := by kernel_rfl
theorem grow_does {σ : St} {n : Nat} (hn : n ≤ 1000000000) : ∃ v q σ', Does Try.prog prims 50 [.nils, .int .i64 (n : Int)] σ (.ret v) σ' ∧ rowOf σ'.objs v = some (q, []) ∧ KS [] σ σ' ∧ ∀ x ∈ q.toList, σ.objs.length ≤ x := by
  have key : ∃ r σ', Does Try.prog prims 50 [.nils, .int .i64 (n : Int)] σ r σ' ∧ ∃ v q, r = .ret v ∧ rowOf σ'.objs v = some (q, []) ∧ KS [] σ σ' ∧ ∀ x ∈ q.toList, σ.objs.length ≤ x := by
    apply k50_is.does (by simp)
    have h0 : ¬ (n : Int) < 0 := by omega
    have hvc : vcap Try.prog 28 .nils = some (.int .i64 0) := by kernel_rfl
    have hvl : vlen Try.prog 28 .nils = some (.int .i64 0) := by kernel_rfl
    have hw0 : IntKind.i64.wrap ((0 : Int) - 0) = 0 := by decide
    have hwn : IntKind.i64.wrap ((n : Int) - 0) = n := by rw [wrap_i64 (by omega) (by omega)]; omega
    have hsl : vslice Try.prog 28 .nils none (some (.int .i64 0)) none = some .nils := by kernel_rfl
    by_cases hz : n = 0
    · have h1 : ¬ (0 : Int) < (n : Int) := by omega
      simp only [k50_a, WK, vop, evAll, evOpt, evParts, vbuiltin, vun, vextract, Nat.reduceLT, Nat.reduceEqDiff, ↓reduceIte, reduceCtorEq, Nat.reduceAdd, Int.reduceLT, Int.reduceNeg, valloc_std, noSB, vhot, List.getD_cons_zero, List.getD_cons_succ, h0, hvc, hvl, hw0, hwn, nilEP, h1, decide_false]
      exact ⟨.nils, none, rfl, rfl, KS.refl _ _, fun x hx => by cases hx⟩
    · have h1 : (0 : Int) < (n : Int) := by omega
      have hno : vappendRow Try.prog σ 28 3 .nils (.int .i64 (n : Int)) = none := by
        simp [vappendRow, pTB, bInfo, pS1, bZero, vnewsO, vnews, T3]
      have hmk : vappendMake Try.prog σ 28 3 .nils (.int .i64 (n : Int)) = some (.hslice σ.objs.length 0 1 n, ⟨σ.objs ++ [.cells []], σ.toks⟩) := by
        have : 0 < n := by omega
        have h9 : n ≤ 140737488355328 := by omega
        simp [vappendMake, pTB, bInfo, pS1, bZero, T3, vcells, this, h9]
      have hb := vbounds_hi (k := .i64) (n := 0) (len := n) (by omega) (by omega)
      have hs2 : vslice Try.prog 28 (.hslice σ.objs.length 0 1 n) none (some (.int .i64 0)) none = some (.hslice σ.objs.length 0 1 0) := by
        simp only [vslice, pTB, pS1, hb]
        simp
      simp only [k50_a, WK, vop, evAll, evOpt, evParts, vbuiltin, vun, vextract, Nat.reduceLT, Nat.reduceEqDiff, ↓reduceIte, reduceCtorEq, Nat.reduceAdd, Int.reduceLT, Int.reduceNeg, valloc_std, noSB, vhot, List.getD_cons_zero, List.getD_cons_succ, h0, hvc, hvl, hw0, hwn, nilEP, h1, decide_true, hsl, pTB, hno, hmk, hs2]
      refine ⟨_, some σ.objs.length, rfl, ?_, KS.push _ _ _, fun x hx => by simp at hx; omega⟩
      simp [rowOf]
  obtain ⟨r, σ', h1, v, q, rfl, h2⟩ := key
  exact ⟨v, q, σ', h1, h2⟩
/-- Rows put behind each other. -/
theorem concat_does {σ : St} {pm : Perm} {vs : List V} {bss : List (List UInt8)} (hl : vs.length = bss.length) (hb : ∀ (i : Nat) (h : i < vs.length) (h' : i < bss.length), RB σ vs[i] bss[i]) (hlen : bss.flatten.length ≤ 1000000000) (hcl : bss.length ≤ 1000000000) :
    ∃ v q σ', Does Try.prog prims 36 [.slice pm 1 vs vs.length] σ (.ret v) σ' ∧ rowOf σ'.objs v = some (q, bss.flatten.map byteV) ∧ KS [] σ σ' ∧ ∀ x ∈ q.toList, σ.objs.length ≤ x := by
  have key : ∃ r σ', Does Try.prog prims 36 [.slice pm 1 vs vs.length] σ r σ' ∧ ∃ v q, r = .ret v ∧ rowOf σ'.objs v = some (q, bss.flatten.map byteV) ∧ KS [] σ σ' ∧ ∀ x ∈ q.toList, σ.objs.length ≤ x := by
    apply k36_is.does (by simp)
    have hvl : vlen Try.prog 22 (.slice pm 1 vs vs.length) = some (.int .i64 (vs.length : Nat)) := by simp [vlen, TBB]
    have haddr : ∀ i : Nat, i < vs.length → vindexAddr Try.prog 22 (.slice pm 1 vs vs.length) (.int .i64 (i : Int)) = some (.eptr vs i) := by
      intro i hi
      have h1 : vs.isEmpty = false := by cases vs with | nil => simp at hi | cons => rfl
      have h2 : (i : Int) < vs.length := by omega
      simp [vindexAddr, TBB, SBB, h1, h2]
    have hload : ∀ (s : St) (i : Nat) (hi : i < vs.length), vload Try.prog s.objs 28 (.eptr vs i) = some vs[i] := by
      intro s i hi
      simp [vload, vcellsAt, vpart, pGB, hi]
    have hsum : ∀ i, i ≤ bss.length → (bss.take i).flatten.length ≤ bss.flatten.length := by
      intro i hi
      have := congrArg List.length (congrArg List.flatten (List.take_append_drop i bss))
      rw [List.flatten_append, List.length_append] at this
      omega
    have hstep : ∀ i (h : i < bss.length), (bss.take (i + 1)).flatten = (bss.take i).flatten ++ bss[i] := by
      intro i h
      rw [List.take_succ_eq_append_getElem h, List.flatten_append]
      simp
    simp only [k36_a, WK, vop, evAll, evOpt, evParts, vbuiltin, vun, vextract, Nat.reduceLT, Nat.reduceEqDiff, ↓reduceIte, reduceCtorEq, Nat.reduceAdd, Int.reduceLT, Int.reduceNeg, valloc_std, noSB, vhot, List.getD_cons_zero, List.getD_cons_succ, hvl, nilEP]
    refine Ev.loopF (fun (i : Nat) e σ' => σ' = σ ∧ e 11 = .int .i64 (i : Nat) ∧ i ≤ vs.length ∧ e 3 = .int .i64 ((bss.take i).flatten.length : Nat)) (fun i => vs.length - i) 0 ⟨rfl, by simp [upd_some], Nat.zero_le _, by simp [upd_some]⟩ ?_
    rintro i e σ' ⟨rfl, h11, hi, h3⟩ hf
    have h0 : e 0 = .slice pm 1 vs vs.length := (hf 0 (by decide)).trans (by simp [upd_some])
    have h9 : e 9 = .slice pm 1 vs vs.length := (hf 9 (by decide)).trans (by simp [upd_some])
    have h10 : e 10 = .int .i64 (vs.length : Nat) := (hf 10 (by decide)).trans (by simp [upd_some])
    clear hf
    by_cases hlt : i < vs.length
    · have hlt' : (i : Int) < vs.length := by omega
      have hlb : i < bss.length := by omega
      have hwi : IntKind.i64.wrap ((i : Int) + 1) = ((i + 1 : Nat) : Int) := by rw [show ((i : Int) + 1) = ((i + 1 : Nat) : Int) from by omega]; exact wrap_nat (by omega)
      have hle := hsum (i + 1) (by omega)
      have hst := hstep i hlb
      have hws : IntKind.i64.wrap (((bss.take i).flatten.length : Nat) + (bss[i].length : Nat) : Int) = (((bss.take (i + 1)).flatten.length : Nat) : Int) := by
        rw [hst, List.length_append] at hle ⊢
        rw [wrap_i64 (by omega) (by omega)]; omega
      have hn0 : ¬ (((bss.take (i + 1)).flatten.length : Nat) : Int) < 0 := by omega
      simp only [k36_a, WK, vop, evAll, evOpt, evParts, vbuiltin, vun, vextract, Nat.reduceLT, Nat.reduceEqDiff, ↓reduceIte, reduceCtorEq, Nat.reduceAdd, Int.reduceLT, Int.reduceNeg, valloc_std, noSB, vhot, h9, h10, h11, h3, hlt', haddr i hlt, hload _ i hlt, (hb i hlt hlb).len, hws, hn0, hwi, decide_true, decide_false]
      exact ⟨i + 1, ⟨by simp [upd_some], by omega, by simp [upd_some]⟩, by omega⟩
    · have hlt' : ¬ (i : Int) < vs.length := by omega
      have hall : bss.take i = bss := List.take_of_length_le (by omega)
      rw [hall] at h3
      obtain ⟨v1, q1, s1, g1, g2, g3, g4⟩ := grow_does (σ := σ') hlen
      simp only [k36_a, WK, vop, evAll, evOpt, evParts, vbuiltin, vun, vextract, Nat.reduceLT, Nat.reduceEqDiff, ↓reduceIte, reduceCtorEq, Nat.reduceAdd, Int.reduceLT, Int.reduceNeg, valloc_std, noSB, vhot, h9, h10, h11, h3, hlt', decide_false, nilEP]
      refine KD.ret g1 ?_
      simp only [k36_a, WK, vop, evAll, evOpt, evParts, vbuiltin, vun, vextract, Nat.reduceLT, Nat.reduceEqDiff, ↓reduceIte, reduceCtorEq, Nat.reduceAdd, Int.reduceLT, Int.reduceNeg, valloc_std, noSB, vhot, h0, hvl]
      refine Ev.loopF (fun (j : Nat) e s => ∃ q, e 27 = .int .i64 (j : Nat) ∧ j ≤ vs.length ∧ rowOf s.objs (e 6) = some (q, (bss.take j).flatten.map byteV) ∧ KS [] σ' s ∧ ∀ x ∈ q.toList, σ'.objs.length ≤ x) (fun i => vs.length - i) 0 ⟨q1, by simp [upd_some], Nat.zero_le _, by simpa [upd_some] using g2, g3, g4⟩ ?_
      rintro j e2 s ⟨q, k27, hj, k6, kk, kq⟩ hf2
      have k25 : e2 25 = .slice pm 1 vs vs.length := (hf2 25 (by decide)).trans (by simp [upd_some])
      have k26 : e2 26 = .int .i64 (vs.length : Nat) := (hf2 26 (by decide)).trans (by simp [upd_some])
      clear hf2
      by_cases hlt2 : j < vs.length
      · have hlt2' : (j : Int) < vs.length := by omega
        have hlb : j < bss.length := by omega
        have hwi : IntKind.i64.wrap ((j : Int) + 1) = ((j + 1 : Nat) : Int) := by rw [show ((j : Int) + 1) = ((j + 1 : Nat) : Int) from by omega]; exact wrap_nat (by omega)
        have hR := (hb j hlt2 hlb).ks kk (fun q hq => by cases hq)
        have hle := hsum (j + 1) (by omega)
        rw [hstep j hlb, List.length_append] at hle
        have hbn := hR.news
        rw [← List.length_map (f := byteV)] at hbn
        obtain ⟨v', q', s2, a1, a2, a3, a4, a5⟩ := rowApp k6 hbn (byteV_one _) (by rw [List.length_map, List.length_map]; omega)
        simp only [k36_a, WK, vop, evAll, evOpt, evParts, vbuiltin, vun, vextract, Nat.reduceLT, Nat.reduceEqDiff, ↓reduceIte, reduceCtorEq, Nat.reduceAdd, Int.reduceLT, Int.reduceNeg, valloc_std, noSB, vhot, k25, k26, k27, hlt2', haddr j hlt2, hload _ j hlt2, hwi, a1, decide_true]
        refine ⟨j + 1, ⟨q', by simp [upd_some], by omega, ?_, kk.trans a3 fun x hx => .inr (kq x hx), fun x hx => ?_⟩, by omega⟩
        · rw [hstep j hlb, List.map_append]; simpa [upd_some] using a2
        · rcases a4 x hx with h | h
          · exact kq x h
          · have := kk.le; omega
      · have hlt2' : ¬ (j : Int) < vs.length := by omega
        have hall2 : bss.take j = bss := List.take_of_length_le (by omega)
        rw [hall2] at k6
        simp only [k36_a, WK, vop, evAll, evOpt, evParts, vbuiltin, vun, vextract, Nat.reduceLT, Nat.reduceEqDiff, ↓reduceIte, reduceCtorEq, Nat.reduceAdd, Int.reduceLT, Int.reduceNeg, valloc_std, noSB, vhot, k25, k26, k27, hlt2', decide_false]
        exact ⟨_, q, rfl, k6, kk, kq⟩
  obtain ⟨r, σ', h1, v, q, rfl, h2⟩ := key
  exact ⟨v, q, σ', h1, h2⟩
theorem mkRows2 (a b : V) (h1 : one a = true) (h2 : one b = true) : vbuildSlice Try.prog 22 2 [(0, a), (1, b)] = some (.slice .exact 1 [a, b] 2) := by
  have hz : zeroT Try.prog 28 = some .nils := by kernel_rfl
  have e : List.range 2 = [0, 1] := by decide
  have hn : vcells V.nils = [V.nils] := rfl
  simp [vbuildSlice, TBB, SBB, hz, hn, zeroCellsV, vfill, setAll, e, vcells_one h1, vcells_one h2, h1, h2]
theorem read_sees {σ : St} {r rm : Nat} {d : Dk} {fs : List Ent} {n : List UInt8} (h : DiskAt σ r d rm fs) (hok : d.Ok) :
    ∃ p σ', Does Try.prog prims 12 [.optr r 0, .str n] σ p σ' ∧ ∃ v q, p = .ret (.tuple [v, .int .i64 ((readD n d).1 : Nat)]) ∧ rowOf σ'.objs v = some (q, (readD n d).2.map byteV) ∧ KS [] σ σ' ∧ ∀ x ∈ q.toList, σ.objs.length ≤ x := by
  apply k12_is.does (by simp)
  simp only [k12_a, WK, vop, evAll, evOpt, evParts, vbuiltin, vun, vextract, Nat.reduceLT, Nat.reduceEqDiff, ↓reduceIte, reduceCtorEq, Nat.reduceAdd, Int.reduceLT, Int.reduceNeg, valloc_std, noSB, vhot, List.getD_cons_zero, List.getD_cons_succ, nilEP]
  by_cases hz : thereD d n = 0
  · obtain ⟨a, b, p, hA, hr⟩ := there_ok h hok hz
    have hz' : ¬ thereD d n ≠ 0 := fun h => h hz
    have e : readD n d = (0, p.1.safe ++ p.1.wait) := by unfold readD; rw [if_neg hz', hA.g]; rfl
    obtain ⟨g1, g2, g3⟩ := hA.ids h
    obtain ⟨l1, l2, v1, v2, hl, hn, hnd, hrf⟩ := hA.facts h hok
    obtain ⟨v, q, σ', c1, c2, c3, c4⟩ := concat_does (σ := σ) (pm := .exact) (vs := [p.2.s, p.2.w]) (bss := [p.1.safe, p.1.wait]) rfl (fun i h h' => by
      match i, h with
      | 0, _ => exact rowOf_rb g1.s
      | 1, _ => exact rowOf_rb g1.w) (by simp; omega) (by simp)
    refine KD.ret (there_yes h hr hA) ?_
    simp only [k12_a, WK, vop, evAll, evOpt, evParts, vbuiltin, vun, vextract, Nat.reduceLT, Nat.reduceEqDiff, ↓reduceIte, reduceCtorEq, Nat.reduceAdd, Int.reduceLT, Int.reduceNeg, valloc_std, noSB, vhot, pFF0, pFF1, l1, l2, mkRows2 p.2.s p.2.w (rowOf_one g1.s) (rowOf_one g1.w), nilEP]
    refine KD.ret c1 ?_
    simp only [k12_a, WK, vop, evAll, evOpt, evParts, vbuiltin, vun, vextract, Nat.reduceLT, Nat.reduceEqDiff, ↓reduceIte, reduceCtorEq, Nat.reduceAdd, Int.reduceLT, Int.reduceNeg, valloc_std, noSB, vhot, pFF0, pFF1, l1, l2, e]
    refine ⟨v, q, rfl, ?_, c3, c4⟩
    simpa using c2
  · refine KD.ret (there_no h n hz) ?_
    have hz' : ¬ ((thereD d n : Nat) : Int) = 0 := by omega
    have e : readD n d = (thereD d n, []) := by unfold readD; rw [if_pos hz]
    simp only [k12_a, WK, vop, evAll, evOpt, evParts, vbuiltin, vun, vextract, Nat.reduceLT, Nat.reduceEqDiff, ↓reduceIte, reduceCtorEq, Nat.reduceAdd, Int.reduceLT, Int.reduceNeg, valloc_std, noSB, vhot, hz', e, nilEP]
    exact ⟨.nils, none, rfl, rfl, KS.refl _ _, fun x hx => by cases hx⟩
end Go.Proofs.Ytnbmfhnfmhgaaaa.Q

/- Names, and the small calls. -/
set_option linter.unusedVariables false
set_option linter.unusedSimpArgs false
set_option maxRecDepth 100000
namespace Go.Proofs.Ytnbmfhnfmhgaaaa.Q
open Go Go.RowKit Go.Proofs
theorem keys_does {σ : St} {rm : Nat} : ∃ t, Does Try.prog prims 34 [.omap rm] σ (.ret (.func 49 [.optr σ.objs.length 0])) ⟨σ.objs ++ [.tcells t [.omap rm]], σ.toks⟩ := by
  have key : ∃ r σ', Does Try.prog prims 34 [.omap rm] σ r σ' ∧ (r = .ret (.func 49 [.optr σ.objs.length 0]) ∧ ∃ t, σ' = ⟨σ.objs ++ [.tcells t [.omap rm]], σ.toks⟩) := by
    apply k34_is.does (by simp)
    have hn : ofVal .nilFunc = some .nilf := by kernel_rfl
    have hc : vcells (.omap rm) = [.omap rm] := rfl
    simp only [k34_a, WK, vop, evAll, evOpt, evParts, vbuiltin, vun, vextract, Nat.reduceLT, Nat.reduceEqDiff, ↓reduceIte, reduceCtorEq, Nat.reduceAdd, Int.reduceLT, Int.reduceNeg, valloc_std, noSB, vhot, List.getD_cons_zero, List.getD_cons_succ, hn, vboxT, hc]
    exact ⟨_, rfl⟩
  obtain ⟨r, σ', h, rfl, t, rfl⟩ := key
  exact ⟨t, h⟩
theorem strs_ents {fs : List Ent} : strsOf (fs.map fent) = some (fs.map fun p => p.1.name) := by
  induction fs with
  | nil => rfl
  | cons p fs ih => simp only [List.map_cons, fent, strsOf] at ih ⊢; rw [ih]; rfl
theorem leS_trans (a b c : List UInt8) : leS a b = true → leS b c = true → leS a c = true := by
  simp only [leS, decide_eq_true_eq]; exact List.le_trans
theorem leS_total (a b : List UInt8) : (leS a b || leS b a) = true := by
  simp only [leS, Bool.or_eq_true, decide_eq_true_eq]; exact List.le_total a b
theorem sort_names {d : Dk} (hok : d.Ok) {ks : List (List UInt8)} (h : ks.Perm (d.files.map Fl.name)) : ks.mergeSort leS = d.files.map Fl.name := by
  have h1 : (d.files.map Fl.name).Pairwise fun a b => a ≤ b := by
    rw [List.pairwise_map]
    exact hok.rise.imp fun {f g} hlt => List.le_of_lt hlt
  have h2 := (List.mergeSort_perm ks leS).trans h
  have h3 : (ks.mergeSort leS).Pairwise fun a b => a ≤ b := (List.pairwise_mergeSort leS_trans leS_total ks).imp fun {a b} hab => by simpa [leS] using hab
  exact h2.eq_of_pairwise (le := fun a b => a ≤ b) (fun a b _ _ hab hba => List.le_antisymm hab hba) h3 h1
theorem names_sees {σ : St} {r rm : Nat} {d : Dk} {fs : List Ent} (h : DiskAt σ r d rm fs) (hok : d.Ok) :
    ∃ p σ', Does Try.prog prims 11 [.optr r 0] σ p σ' ∧ ∃ v q, p = .ret v ∧ rowOf σ'.objs v = some (q, (namesD d).map V.str) ∧ KS [] σ σ' ∧ ∀ x ∈ q.toList, σ.objs.length ≤ x := by
  apply k11_is.does (by simp)
  have lo : vload Try.prog σ.objs 4 (.optr r 2) = some (.bool (!d.on)) := by rw [vload_obj h.hd G4]; rfl
  have lm : vload Try.prog σ.objs 55 (.optr r 0) = some (.omap rm) := by rw [vload_obj h.hd pGM]; rfl
  cases hon : d.on with
  | false =>
    rw [hon] at lo
    have e : namesD d = [] := by simp [namesD, hon]
    simp only [k11_a, WK, vop, evAll, evOpt, evParts, vbuiltin, vun, vextract, Nat.reduceLT, Nat.reduceEqDiff, ↓reduceIte, reduceCtorEq, Nat.reduceAdd, Int.reduceLT, Int.reduceNeg, valloc_std, noSB, vhot, List.getD_cons_zero, List.getD_cons_succ, nilEP, ofNilP, eql_optr pTD, pFA r 2 (by omega), lo, Bool.not_false, e]
    exact ⟨.nils, none, rfl, rfl, KS.refl _ _, fun x hx => by cases hx⟩
  | true =>
    rw [hon] at lo
    have e : namesD d = d.files.map Fl.name := by simp [namesD, hon]
    obtain ⟨t, hk⟩ := keys_does (σ := σ) (rm := rm)
    obtain ⟨s1, hs1⟩ : ∃ s1 : St, s1 = ⟨σ.objs ++ [.tcells t [.omap rm]], σ.toks⟩ := ⟨_, rfl⟩
    rw [← hs1] at hk
    have K1 : KS [] σ s1 := by rw [hs1]; exact KS.push _ _ _
    have D1 : DiskAt s1 r d rm fs := by rw [hs1]; exact h.pushed _
    have L1 : s1.objs.length = σ.objs.length + 1 := by rw [hs1]; simp
    have hb : s1.objs[σ.objs.length]? = some (.tcells t [.omap rm]) := by rw [hs1]; exact push_new _ _
    have hperm : (fs.map fun p => p.1.name).Perm (d.files.map Fl.name) := by
      have := h.pm.map Fl.name
      rw [List.map_map] at this
      exact this
    have hsort := sort_names hok hperm
    have hnd := h.names hok
    have hlen : (fs.map fun p => p.1.name).length ≤ 16 := by rw [hperm.length_eq, List.length_map]; exact hok.few
    have hsm : ((fs.map fun p => p.1.name).all fun s => decide (s.length ≤ 140737488355328)) = true := by
      rw [List.all_eq_true]
      intro s hs
      obtain ⟨f, hf, rfl⟩ := List.mem_map.1 (hperm.mem_iff.1 hs)
      have := hok.nm f hf
      simp only [namedD, decide_eq_true_eq] at this ⊢
      omega
    have hp : ∃ v s2 q, Does Try.prog prims 33 [.func 49 [.optr σ.objs.length 0]] s1 (.ret v) s2 ∧ rowOf s2.objs v = some (q, (namesD d).map V.str) ∧ KS [] s1 s2 ∧ ∀ x ∈ q.toList, s1.objs.length ≤ x := by
      by_cases h0 : (fs.map fun p => p.1.name) = []
      · refine ⟨.nils, s1, none, Does.prim (by kernel_rfl) ?_, ?_, KS.refl _ _, fun x hx => by cases hx⟩
        · simp only [prims]
          rw [if_neg (by decide +kernel), if_neg (by decide +kernel), if_pos trivial]
          simp only [sortedP, hb, D1.hm, strs_ents, ↓reduceIte]
          rw [if_pos ⟨hnd, by omega, hsm⟩, if_pos h0]
        · rw [e, ← hsort, h0, List.mergeSort_nil]; rfl
      · refine ⟨.hslice s1.objs.length 0 1 (fs.map fun p => p.1.name).length, ⟨s1.objs ++ [.cells (((fs.map fun p => p.1.name).mergeSort leS).map V.str)], s1.toks⟩, some s1.objs.length, Does.prim (by kernel_rfl) ?_, ?_, KS.push _ _ _, fun x hx => by simp at hx; omega⟩
        · simp only [prims]
          rw [if_neg (by decide +kernel), if_neg (by decide +kernel), if_pos trivial]
          simp only [sortedP, hb, D1.hm, strs_ents, ↓reduceIte]
          rw [if_pos ⟨hnd, by omega, hsm⟩, if_neg h0]
        · have hl : (fs.map fun p => p.1.name).length = (((fs.map fun p => p.1.name).mergeSort leS).map V.str).length := by simp [List.length_mergeSort]
          have hpn := push_new s1.objs (.cells (((fs.map fun p => p.1.name).mergeSort leS).map V.str))
          simp only [rowOf, hpn]
          rw [if_pos (by rw [← hl]; exact Nat.le_refl _), hl, List.take_of_length_le (Nat.le_refl _), hsort, e]
    obtain ⟨v, s2, q, h1, h2, h3, h4⟩ := hp
    simp only [k11_a, WK, vop, evAll, evOpt, evParts, vbuiltin, vun, vextract, Nat.reduceLT, Nat.reduceEqDiff, ↓reduceIte, reduceCtorEq, Nat.reduceAdd, Int.reduceLT, Int.reduceNeg, valloc_std, noSB, vhot, List.getD_cons_zero, List.getD_cons_succ, nilEP, ofNilP, eql_optr pTD, pFA r 2 (by omega), pFA r 0 (by omega), lo, lm, Bool.not_true]
    refine KD.ret hk ?_
    simp only [k11_a, WK, vop, evAll, evOpt, evParts, vbuiltin, vun, vextract, Nat.reduceLT, Nat.reduceEqDiff, ↓reduceIte, reduceCtorEq, Nat.reduceAdd, Int.reduceLT, Int.reduceNeg, valloc_std, noSB, vhot]
    refine KD.ret h1 ?_
    simp only [k11_a, WK, vop, evAll, evOpt, evParts, vbuiltin, vun, vextract, Nat.reduceLT, Nat.reduceEqDiff, ↓reduceIte, reduceCtorEq, Nat.reduceAdd, Int.reduceLT, Int.reduceNeg, valloc_std, noSB, vhot]
    exact ⟨v, q, rfl, h2, K1.trans' h3, fun x hx => by have := h4 x hx; omega⟩
/-! ### The small calls -/
theorem room_does {σ : St} {r rm : Nat} {d : Dk} {fs : List Ent} (h : DiskAt σ r d rm fs) (n : Int) : ∃ σ', Does Try.prog prims 25 [.optr r 0, .int .i64 n] σ (.ret (.tuple [])) σ' ∧ Next σ r rm fs σ' { d with room := n } := by
  have key : ∃ p σ', Does Try.prog prims 25 [.optr r 0, .int .i64 n] σ p σ' ∧ (p = .ret (.tuple []) ∧ Next σ r rm fs σ' { d with room := n }) := by
    apply k25_is.does (by simp)
    obtain ⟨s1, hs1⟩ : ∃ s1 : St, s1 = ⟨σ.objs.set r (.cells (dcells rm { d with room := n })), σ.toks⟩ := ⟨_, rfl⟩
    have st1 : vstore Try.prog σ 3 (.optr r 1) (.int .i64 n) = some s1 := by rw [vstore_obj h.hd S3 rfl (by simp [dcells]), hs1]; rfl
    obtain ⟨D1, K1⟩ := h.head (d2 := { d with room := n }) rfl hs1
    simp only [k25_a, WK, vop, evAll, evOpt, evParts, vbuiltin, vun, vextract, Nat.reduceLT, Nat.reduceEqDiff, ↓reduceIte, reduceCtorEq, Nat.reduceAdd, Int.reduceLT, Int.reduceNeg, valloc_std, noSB, vhot, List.getD_cons_zero, List.getD_cons_succ, ofNilP, neq_optr pTD, pFA r 1 (by omega), st1]
    exact ⟨fs, D1, K1, fun x hx => .inl hx⟩
  obtain ⟨p, σ', h1, rfl, h2⟩ := key
  exact ⟨σ', h1, h2⟩
theorem on_does {σ : St} {r rm : Nat} {d : Dk} {fs : List Ent} (h : DiskAt σ r d rm fs) : ∃ σ', Does Try.prog prims 17 [.optr r 0] σ (.ret (.tuple [])) σ' ∧ Next σ r rm fs σ' { d with on := true } := by
  have key : ∃ p σ', Does Try.prog prims 17 [.optr r 0] σ p σ' ∧ (p = .ret (.tuple []) ∧ Next σ r rm fs σ' { d with on := true }) := by
    apply k17_is.does (by simp)
    obtain ⟨s1, hs1⟩ : ∃ s1 : St, s1 = ⟨σ.objs.set r (.cells (dcells rm { d with on := true })), σ.toks⟩ := ⟨_, rfl⟩
    have st1 : vstore Try.prog σ 4 (.optr r 2) (.bool false) = some s1 := by rw [vstore_obj h.hd S4 rfl (by simp [dcells]), hs1]; rfl
    obtain ⟨D1, K1⟩ := h.head (d2 := { d with on := true }) rfl hs1
    simp only [k17_a, WK, vop, evAll, evOpt, evParts, vbuiltin, vun, vextract, Nat.reduceLT, Nat.reduceEqDiff, ↓reduceIte, reduceCtorEq, Nat.reduceAdd, Int.reduceLT, Int.reduceNeg, valloc_std, noSB, vhot, List.getD_cons_zero, List.getD_cons_succ, ofNilP, neq_optr pTD, pFA r 2 (by omega), st1]
    exact ⟨fs, D1, K1, fun x hx => .inl hx⟩
  obtain ⟨p, σ', h1, rfl, h2⟩ := key
  exact ⟨σ', h1, h2⟩
theorem arm_does {σ : St} {r rm : Nat} {d : Dk} {fs : List Ent} (h : DiskAt σ r d rm fs) (n k : Int) : ∃ σ', Does Try.prog prims 24 [.optr r 0, .int .i64 n, .int .i64 k] σ (.ret (.tuple [])) σ' ∧ Next σ r rm fs σ' (armD n k d) := by
  have key : ∃ p σ', Does Try.prog prims 24 [.optr r 0, .int .i64 n, .int .i64 k] σ p σ' ∧ (p = .ret (.tuple []) ∧ Next σ r rm fs σ' (armD n k d)) := by
    apply k24_is.does (by simp)
    have hmx : vmm true (.int .i64 n) (.int .i64 0) = some (.int .i64 (n.toNat : Nat)) := by
      simp only [vmm, ↓reduceIte]
      congr 2
      split <;> omega
    obtain ⟨s1, hs1⟩ : ∃ s1 : St, s1 = ⟨σ.objs.set r (.cells (dcells rm { d with armed := n.toNat })), σ.toks⟩ := ⟨_, rfl⟩
    have st1 : vstore Try.prog σ 3 (.optr r 4) (.int .i64 (n.toNat : Nat)) = some s1 := by rw [vstore_obj h.hd S3 rfl (by simp [dcells]), hs1]; rfl
    obtain ⟨D1, K1⟩ := h.head (d2 := { d with armed := n.toNat }) rfl hs1
    obtain ⟨s2, hs2⟩ : ∃ s2 : St, s2 = ⟨s1.objs.set r (.cells (dcells rm (armD n k d))), s1.toks⟩ := ⟨_, rfl⟩
    have st2 : vstore Try.prog s1 3 (.optr r 5) (.int .i64 k) = some s2 := by rw [vstore_obj D1.hd S3 rfl (by simp [dcells]), hs2]; rfl
    obtain ⟨D2, K2⟩ := D1.head (d2 := armD n k d) rfl hs2
    simp only [k24_a, WK, vop, evAll, evOpt, evParts, vbuiltin, vun, vextract, Nat.reduceLT, Nat.reduceEqDiff, ↓reduceIte, reduceCtorEq, Nat.reduceAdd, Int.reduceLT, Int.reduceNeg, valloc_std, noSB, vhot, List.getD_cons_zero, List.getD_cons_succ, ofNilP, neq_optr pTD, pFA r 4 (by omega), pFA r 5 (by omega), hmx, st1, st2]
    exact ⟨fs, D2, K1.trans' K2, fun x hx => .inl hx⟩
  obtain ⟨p, σ', h1, rfl, h2⟩ := key
  exact ⟨σ', h1, h2⟩
theorem down_does {σ : St} {r rm : Nat} {d : Dk} {fs : List Ent} (h : DiskAt σ r d rm fs) : Does Try.prog prims 16 [.optr r 0] σ (.ret (.bool (!d.on))) σ := by
  apply k16_is.ret (by simp)
  have lo : vload Try.prog σ.objs 4 (.optr r 2) = some (.bool (!d.on)) := by rw [vload_obj h.hd G4]; rfl
  simp only [k16_a, WK, vop, evAll, evOpt, evParts, vbuiltin, vun, vextract, Nat.reduceLT, Nat.reduceEqDiff, ↓reduceIte, reduceCtorEq, Nat.reduceAdd, Int.reduceLT, Int.reduceNeg, valloc_std, noSB, vhot, List.getD_cons_zero, List.getD_cons_succ, ofNilP, neq_optr pTD, pFA r 2 (by omega), lo]
theorem writes_does {σ : St} {r rm : Nat} {d : Dk} {fs : List Ent} (h : DiskAt σ r d rm fs) : Does Try.prog prims 23 [.optr r 0] σ (.ret (.int .i64 (d.writes : Nat))) σ := by
  apply k23_is.ret (by simp)
  have lo : vload Try.prog σ.objs 3 (.optr r 3) = some (.int .i64 (d.writes : Nat)) := by rw [vload_obj h.hd G3]; rfl
  simp only [k23_a, WK, vop, evAll, evOpt, evParts, vbuiltin, vun, vextract, Nat.reduceLT, Nat.reduceEqDiff, ↓reduceIte, reduceCtorEq, Nat.reduceAdd, Int.reduceLT, Int.reduceNeg, valloc_std, noSB, vhot, List.getD_cons_zero, List.getD_cons_succ, ofNilP, eql_optr pTD, pFA r 3 (by omega), lo]
def newD (n : Int) : Dk := ⟨[], n, true, 0, 0, 0⟩
theorem newdisk_does (σ : St) (n : Int) : ∃ σ' r rm, Does Try.prog prims 9 [.int .i64 n] σ (.ret (.optr r 0)) σ' ∧ DiskAt σ' r (newD n) rm [] ∧ KS [] σ σ' ∧ ∀ x ∈ foot r rm [], σ.objs.length ≤ x := by
  have key : ∃ p σ', Does Try.prog prims 9 [.int .i64 n] σ p σ' ∧ ∃ r rm, p = .ret (.optr r 0) ∧ DiskAt σ' r (newD n) rm [] ∧ KS [] σ σ' ∧ ∀ x ∈ foot r rm [], σ.objs.length ≤ x := by
    apply k9_is.does (by simp)
    have hb : ∀ m : Nat, vbuild Try.prog 57 [(0, .omap m), (1, .int .i64 n)] = some (.agg [.omap m, .int .i64 n, .bool false, .int .i64 0, .int .i64 0, .int .i64 0]) := fun m => by kernel_rfl
    simp only [k9_a, WK, vop, evAll, evOpt, evParts, vbuiltin, vun, vextract, Nat.reduceLT, Nat.reduceEqDiff, ↓reduceIte, reduceCtorEq, Nat.reduceAdd, Int.reduceLT, Int.reduceNeg, valloc_std, noSB, vhot, List.getD_cons_zero, List.getD_cons_succ, ofNilP, vmakeMap, hb, vbox, vcells]
    refine ⟨σ.objs.length + 1, σ.objs.length, by simp, ⟨?_, ?_, fun p hp => (by cases hp), by simp [foot], by simp [newD]⟩, (KS.push [] σ (.mp [])).trans' (KS.push [] ⟨σ.objs ++ [.mp []], σ.toks⟩ _), fun x hx => by simp [foot] at hx; omega⟩
    · have := push_new (σ.objs ++ [Ob.mp []]) (.cells (dcells σ.objs.length (newD n)))
      simp only [List.length_append, List.length_cons, List.length_nil, Nat.zero_add] at this
      exact this
    · simp only
      rw [List.getElem?_append_left (by simp)]
      exact push_new _ _
  obtain ⟨p, σ', h1, r, rm, rfl, h2⟩ := key
  exact ⟨σ', r, rm, h1, h2⟩
theorem newD_ok {n : Int} (h : InI64 n) : (newD n).Ok := ⟨by simp [newD], fun f hf => (by cases hf), by simp [newD], fun f hf => (by cases hf), by simp [newD], h, by unfold InI64; simp [newD]⟩
end Go.Proofs.Ytnbmfhnfmhgaaaa.Q

/- The document's disk as it lies in memory. -/
set_option linter.unusedVariables false
set_option linter.unusedSimpArgs false
set_option maxRecDepth 100000
namespace Go.Proofs.Ytnbmfhnfmhgaaaa.Q
open Go Go.RowKit Go.Proofs
theorem TFS : Try.prog.underlying 69 = some (.slice 77) := by kernel_rfl
theorem GFi : isAggT Try.prog 77 = some true := by kernel_rfl
theorem SFi : sizeT Try.prog 77 = some 3 := by kernel_rfl
theorem GFS : isAggT Try.prog 69 = some false := by kernel_rfl
theorem SFS : sizeT Try.prog 69 = some 1 := by kernel_rfl
theorem ZFi : zeroT Try.prog 77 = some (.agg [.str [], .nils, .nils]) := by kernel_rfl
theorem bFi : (Try.prog.info? 77).map (·.bytes) = some 64 := by kernel_rfl
theorem rFA : ∀ (r k : Nat) (hk : k < 6), vfieldAddr Try.prog 71 (.optr r 0) k = some (.optr r k)
  | r, 0, _ => by kernel_rfl
  | r, 1, _ => by kernel_rfl
  | r, 2, _ => by kernel_rfl
  | r, 3, _ => by kernel_rfl
  | r, 4, _ => by kernel_rfl
  | r, 5, _ => by kernel_rfl
theorem fFA0 (r o : Nat) : vfieldAddr Try.prog 77 (.optr r o) 0 = some (.optr r o) := by kernel_rfl
theorem fFA1 (r o : Nat) : vfieldAddr Try.prog 77 (.optr r o) 1 = some (.optr r (o + 1)) := by kernel_rfl
theorem fFA2 (r o : Nat) : vfieldAddr Try.prog 77 (.optr r o) 2 = some (.optr r (o + 2)) := by kernel_rfl
theorem bytesLt_lt : ∀ a b : List UInt8, bytesLt a b = decide (a < b)
  | a, [] => by simp [bytesLt]
  | [], _ :: _ => by simp [bytesLt]
  | a :: x, b :: y => by
    rw [bytesLt, bytesLt_lt x y]
    simp only [List.cons_lt_cons_iff]
    rw [Bool.eq_iff_iff]
    simp
theorem sbE {a b : List UInt8} : strBin .eql a b = some (.bool (decide (a = b))) := rfl
theorem sbN {a b : List UInt8} : strBin .neq a b = some (.bool (!decide (a = b))) := rfl
theorem sbL {a b : List UInt8} : strBin .lss a b = some (.bool (decide (a < b))) := by rw [← bytesLt_lt]; rfl
/-- A file of the document's. -/
structure RE where
  f : Fl
  s : V
  w : V
def RE.cells (x : RE) : List V := [.str x.f.name, x.s, x.w]
def RE.Ok (x : RE) : Prop := BtsV x.s x.f.safe ∧ BtsV x.w x.f.wait
def rcells (rs : List RE) : List V := rs.flatMap RE.cells
theorem RE.cells_len (x : RE) : x.cells.length = 3 := rfl
theorem rcells_len (rs : List RE) : (rcells rs).length = rs.length * 3 := flat_len RE.cells_len rs
theorem RE.one {x : RE} (h : x.Ok) : x.cells.all one = true := by
  simp only [RE.cells, List.all_cons, List.all_nil, h.1.one, h.2.one, Bool.and_true, Bool.and_self]
  rfl
/-- A row of files. -/
def RRow (objs : List Ob) (fv : V) (q : Option Nat) (rs : List RE) : Prop := (fv = .nils ∧ q = none ∧ rs = []) ∨ ∃ ro, fv = .hslice ro 0 3 rs.length ∧ q = some ro ∧ objs[ro]? = some (.cells (rcells rs))
theorem RRow.len {objs : List Ob} {fv : V} {q : Option Nat} {rs : List RE} (h : RRow objs fv q rs) : vlen Try.prog 69 fv = some (.int .i64 (rs.length : Nat)) := by
  rcases h with ⟨rfl, rfl, rfl⟩ | ⟨ro, rfl, _⟩ <;> simp [vlen, TFS]
theorem RRow.keep {σ σ' : St} {fv : V} {q : Option Nat} {rs : List RE} {S : List Nat} (h : RRow σ.objs fv q rs) (hk : KS S σ σ') (hs : ∀ x ∈ q.toList, x ∉ S) : RRow σ'.objs fv q rs := by
  rcases h with h | ⟨ro, h1, h2, h3⟩
  · exact .inl h
  · exact .inr ⟨ro, h1, h2, hk.ko _ _ (hs ro (by simp [h2])) h3⟩
theorem RRow.lt {objs : List Ob} {fv : V} {q : Option Nat} {rs : List RE} (h : RRow objs fv q rs) : ∀ x ∈ q.toList, x < objs.length := by
  rcases h with ⟨_, rfl, _⟩ | ⟨ro, _, rfl, h3⟩
  · intro x hx; cases hx
  · intro x hx; simp at hx; subst hx; exact (List.getElem?_eq_some_iff.1 h3).1
theorem RRow.one {objs : List Ob} {fv : V} {q : Option Nat} {rs : List RE} (h : RRow objs fv q rs) : one fv = true := by
  rcases h with ⟨rfl, _⟩ | ⟨ro, rfl, _⟩ <;> rfl
/-- One of them. -/
theorem RRow.at {objs : List Ob} {fv : V} {q : Option Nat} {rs : List RE} (h : RRow objs fv q rs) {i : Nat} (hi : i < rs.length) : ∃ ro, q = some ro ∧ objs[ro]? = some (.cells (rcells rs)) ∧ vindexAddr Try.prog 69 fv (.int .i64 (i : Int)) = some (.optr ro (i * 3)) ∧ vload Try.prog objs 77 (.optr ro (i * 3)) = some (.agg rs[i].cells) := by
  rcases h with ⟨_, _, rfl⟩ | ⟨ro, rfl, rfl, h3⟩
  · simp at hi
  · have hi' : (i : Int) < rs.length := by omega
    refine ⟨ro, rfl, h3, by simp [vindexAddr, TFS, SFi, hi'], ?_⟩
    rw [vload_sub h3 GFi SFi (by rw [rcells_len]; omega)]
    unfold rcells
    rw [flat_part RE.cells_len hi]
/-- One more. -/
theorem RRow.push {σ : St} {fv : V} {q : Option Nat} {rs : List RE} (h : RRow σ.objs fv q rs) (hok : ∀ x ∈ rs, x.Ok) {x : RE} (hx : x.Ok) (hl : rs.length ≤ 1000000) :
    ∃ y s1 fv' q' s2, vbuildRow Try.prog σ 69 1 [(0, .agg x.cells)] = some (y, s1) ∧ vappendRow Try.prog s1 69 69 fv y = some (fv', s2) ∧ RRow s2.objs fv' q' (rs ++ [x]) ∧ KS q.toList σ s2 ∧ ∀ z ∈ q'.toList, σ.objs.length ≤ z := by
  have hone := RE.one hx
  have hz : vcells (V.agg [.str [], .nils, .nils]) = [.str [], .nils, .nils] := rfl
  have hc : vcells (V.agg x.cells) = x.cells := rfl
  have e3 : List.range 3 = [0, 1, 2] := by decide
  have hb0 : ∀ a b c : V, [a, b, c].all Q.one = true → vbuildRow Try.prog σ 69 1 [(0, .agg [a, b, c])] = some (.hslice σ.objs.length 0 3 1, ⟨σ.objs ++ [.cells [a, b, c]], σ.toks⟩) := by
    intro a b c h
    have hc : vcells (V.agg [a, b, c]) = [a, b, c] := rfl
    simp only [List.all_cons, List.all_nil, Bool.and_true, Bool.and_eq_true] at h
    simp [vbuildRow, TFS, SFi, ZFi, hz, zeroCellsV, vfill, e3, hc, setAll, h.1, h.2.1, h.2.2]
  have hb : vbuildRow Try.prog σ 69 1 [(0, .agg x.cells)] = some (.hslice σ.objs.length 0 3 1, ⟨σ.objs ++ [.cells x.cells], σ.toks⟩) := hb0 _ _ _ hone
  obtain ⟨s1, hs1⟩ : ∃ s1 : St, s1 = ⟨σ.objs ++ [.cells x.cells], σ.toks⟩ := ⟨_, rfl⟩
  rw [← hs1] at hb
  have K1 : KS [] σ s1 := by rw [hs1]; exact KS.push _ _ _
  have h1 : RRow s1.objs fv q rs := h.keep K1 fun x _ => by simp
  have hy : s1.objs[σ.objs.length]? = some (.cells x.cells) := by rw [hs1]; exact push_new _ _
  have L1 : s1.objs.length = σ.objs.length + 1 := by rw [hs1]; simp
  have hn : vnewsO Try.prog s1.objs 69 (.hslice σ.objs.length 0 3 1) 3 = some (x.cells, 1) := by
    have : List.take 3 x.cells = x.cells := by simp [RE.cells]
    simp [vnewsO, vnews, TFS, hy, RE.cells_len, this]
  have hxl : x.cells.length = 3 := rfl
  rcases h1 with ⟨rfl, rfl, rfl⟩ | ⟨ro, rfl, rfl, h3⟩
  · refine ⟨_, s1, .hslice s1.objs.length 0 3 1, some s1.objs.length, ⟨s1.objs ++ [.cells x.cells], s1.toks⟩, hb, ?_, .inr ⟨_, rfl, rfl, ?_⟩, K1.trans (KS.push [] s1 _) fun x hx => .inl hx, fun z hz => ?_⟩
    · simp [vappendRow, TFS, bFi, SFi, ZFi, hz, hn]
    · have := push_new s1.objs (.cells x.cells)
      simp only [List.nil_append, rcells, List.flatMap_cons, List.flatMap_nil, List.append_nil]
      exact this
    · simp at hz; omega
  · refine ⟨_, s1, .hslice s1.objs.length 0 3 (rs.length + 1), some s1.objs.length, ⟨s1.objs.set ro .dead ++ [.cells (rcells rs ++ x.cells)], s1.toks⟩, hb, ?_, .inr ⟨_, by simp, rfl, ?_⟩, ?_, fun z hz => ?_⟩
    · have h4 : List.take (rs.length * 3) (rcells rs) = rcells rs := List.take_of_length_le (by rw [rcells_len]; omega)
      have h5 : rs.length + 1 ≤ 140737488355328 := by omega
      have h6 : (rs.length + 1) * 64 ≤ 140737488355328 := by omega
      have h7 := rcells_len rs
      simp [vappendRow, TFS, bFi, SFi, ZFi, hz, hn, h3, h4, h5, h6, h7, hone]
    · have := push_new (s1.objs.set ro .dead) (.cells (rcells rs ++ x.cells))
      rw [List.length_set] at this
      simp only [rcells, List.flatMap_append, List.flatMap_cons, List.flatMap_nil, List.append_nil] at this ⊢
      exact this
    · refine (K1.mono fun x hx => by cases hx).trans' ⟨fun p o hp ho => ?_, by simp, Nat.le_refl _, fun _ h => h⟩
      have hpl := (List.getElem?_eq_some_iff.1 ho).1
      simp only
      rw [List.getElem?_append_left (by rw [List.length_set]; exact hpl), List.getElem?_set_ne (fun e => hp (by simp [e]))]
      exact ho
    · simp at hz; omega
/-- A file on its own. -/
theorem fileNew {σ : St} {x : RE} (hx : x.Ok) : vstore Try.prog ⟨σ.objs ++ [.cells [.str [], .nils, .nils]], σ.toks⟩ 77 (.optr σ.objs.length 0) (.agg x.cells) = some ⟨σ.objs ++ [.cells x.cells], σ.toks⟩ := by
  rw [vstore_agg (cs := [.str [], .nils, .nils]) (cs' := x.cells) (push_new _ _) (by rw [SFi]; rfl) rfl (RE.one hx)]
  simp
structure RefAt (σ : St) (r : Nat) (d : Dk) (q : Option Nat) (rs : List RE) : Prop where
  hd : ∃ fv, σ.objs[r]? = some (.cells [fv, .int .i64 d.room, .bool d.on, .int .i64 (d.writes : Nat), .int .i64 (d.armed : Nat), .int .i64 d.keep]) ∧ RRow σ.objs fv q rs
  ok : ∀ x ∈ rs, x.Ok
  fl : rs.map RE.f = d.files
  ne : r ∉ q.toList
theorem RefAt.keep {σ σ' : St} {r : Nat} {d : Dk} {q : Option Nat} {rs : List RE} {S : List Nat} (h : RefAt σ r d q rs) (hk : KS S σ σ') (hs : ∀ x ∈ r :: q.toList, x ∉ S) : RefAt σ' r d q rs := by
  obtain ⟨⟨fv, h1, h2⟩, h3, h4, h5⟩ := h
  exact ⟨⟨fv, hk.ko _ _ (hs r (by simp)) h1, h2.keep hk fun x hx => hs x (List.mem_cons_of_mem _ hx)⟩, h3, h4, h5⟩
theorem RefAt.lt {σ : St} {r : Nat} {d : Dk} {q : Option Nat} {rs : List RE} (h : RefAt σ r d q rs) : ∀ x ∈ r :: q.toList, x < σ.objs.length := by
  obtain ⟨⟨fv, h1, h2⟩, _⟩ := h
  intro x hx
  rcases List.mem_cons.1 hx with rfl | hx
  · exact (List.getElem?_eq_some_iff.1 h1).1
  · exact h2.lt x hx
/-- What the document's disk is behind a call. -/
def RNext (σ : St) (r : Nat) (q : Option Nat) (σ' : St) (d' : Dk) : Prop := ∃ q' rs', RefAt σ' r d' q' rs' ∧ KS (r :: q.toList) σ σ' ∧ ∀ x ∈ r :: q'.toList, x ∈ r :: q.toList ∨ σ.objs.length ≤ x
theorem RNext.refl {σ : St} {r : Nat} {d : Dk} {q : Option Nat} {rs : List RE} (h : RefAt σ r d q rs) : RNext σ r q σ d := ⟨q, rs, h, KS.refl _ _, fun x hx => .inl hx⟩
theorem RNext.trans {σ σ1 σ2 : St} {r : Nat} {d : Dk} {q q1 : Option Nat} (hk : KS (r :: q.toList) σ σ1) (hs : ∀ x ∈ r :: q1.toList, x ∈ r :: q.toList ∨ σ.objs.length ≤ x) (h : RNext σ1 r q1 σ2 d) : RNext σ r q σ2 d := by
  obtain ⟨q', rs', h1, h2, h3⟩ := h
  refine ⟨q', rs', h1, hk.trans h2 hs, fun x hx => ?_⟩
  have := hk.le
  rcases h3 x hx with h | h
  · exact hs x h
  · exact .inr (by omega)
/-- Pushes only. -/
theorem RNext.only {σ σ1 : St} {r : Nat} {d : Dk} {q : Option Nat} {rs : List RE} (h : RefAt σ r d q rs) (hk : KS [] σ σ1) : RNext σ r q σ1 d := ⟨q, rs, h.keep hk fun x _ => by simp, hk.mono (fun x hx => by cases hx), fun x hx => .inl hx⟩
/-- Only its head changes. -/
theorem RefAt.head {σ : St} {r : Nat} {d d2 : Dk} {q : Option Nat} {rs : List RE} (h : RefAt σ r d q rs) (hf : d2.files = d.files) {fv : V} (hv : RRow σ.objs fv q rs) {σ' : St} (hs : σ' = ⟨σ.objs.set r (.cells [fv, .int .i64 d2.room, .bool d2.on, .int .i64 (d2.writes : Nat), .int .i64 (d2.armed : Nat), .int .i64 d2.keep]), σ.toks⟩) : RefAt σ' r d2 q rs ∧ KS (r :: q.toList) σ σ' := by
  have hrl := h.lt r (by simp)
  have hne := h.ne
  have K : KS [r] σ σ' := by rw [hs]; exact KS.set (.inl (by simp)) _
  refine ⟨⟨⟨fv, by rw [hs]; simp only; rw [List.getElem?_set_self hrl], hv.keep K fun x hx hx2 => ?_⟩, h.ok, by rw [hf]; exact h.fl, h.ne⟩, K.mono fun x hx => .inl (by rw [List.mem_singleton] at hx; subst hx; simp)⟩
  rw [List.mem_singleton] at hx2
  subst hx2
  exact hne hx
end Go.Proofs.Ytnbmfhnfmhgaaaa.Q

/- The document's disk: its small functions. -/
set_option linter.unusedVariables false
set_option linter.unusedSimpArgs false
set_option maxRecDepth 100000
namespace Go.Proofs.Ytnbmfhnfmhgaaaa.Q
open Go Go.RowKit Go.Proofs
theorem rready_does {σ : St} {r : Nat} {d : Dk} {q : Option Nat} {rs : List RE} (h : RefAt σ r d q rs) (n : List UInt8) : Does Try.prog prims 51 [.optr r 0, .str n] σ (.ret (.int .i64 (readyD d n : Nat))) σ := by
  apply k51_is.ret (by simp)
  obtain ⟨fv, h1, h2⟩ := h.hd
  have lo : vload Try.prog σ.objs 4 (.optr r 2) = some (.bool d.on) := by rw [vload_obj h1 G4]; rfl
  have e : vlen Try.prog 9 (.str n) = some (.int .i64 (n.length : Nat)) := by simp [vlen, T9]
  by_cases a1 : n.length < 1
  · have a1' : (n.length : Int) < 1 := by omega
    have hn : namedD n = false := by simp [namedD]; omega
    simp only [k51_a, WK, vop, evAll, evOpt, evParts, vbuiltin, vun, vextract, Nat.reduceLT, Nat.reduceEqDiff, ↓reduceIte, reduceCtorEq, Nat.reduceAdd, Int.reduceLT, Int.reduceNeg, valloc_std, noSB, vhot, List.getD_cons_zero, List.getD_cons_succ, e, a1', decide_true]
    simp [readyD, hn]
  · have a1' : ¬ (n.length : Int) < 1 := by omega
    by_cases a2 : 16 < n.length
    · have a2' : (16 : Int) < (n.length : Int) := by omega
      have hn : namedD n = false := by simp [namedD]; omega
      simp only [k51_a, WK, vop, evAll, evOpt, evParts, vbuiltin, vun, vextract, Nat.reduceLT, Nat.reduceEqDiff, ↓reduceIte, reduceCtorEq, Nat.reduceAdd, Int.reduceLT, Int.reduceNeg, valloc_std, noSB, vhot, List.getD_cons_zero, List.getD_cons_succ, e, a1', a2', decide_true, decide_false]
      simp [readyD, hn]
    · have a2' : ¬ (16 : Int) < (n.length : Int) := by omega
      have hn : namedD n = true := by simp [namedD]; omega
      simp only [k51_a, WK, vop, evAll, evOpt, evParts, vbuiltin, vun, vextract, Nat.reduceLT, Nat.reduceEqDiff, ↓reduceIte, reduceCtorEq, Nat.reduceAdd, Int.reduceLT, Int.reduceNeg, valloc_std, noSB, vhot, List.getD_cons_zero, List.getD_cons_succ, e, a1', a2', decide_false, rFA r 2 (by omega), lo]
      cases ho : d.on <;> simp [k51_a, WK, vop, evAll, evOpt, evParts, vbuiltin, vun, vextract, Nat.reduceLT, Nat.reduceEqDiff, ↓reduceIte, reduceCtorEq, Nat.reduceAdd, Int.reduceLT, Int.reduceNeg, valloc_std, noSB, vhot, readyD, hn, ho]
/-- Where a file stands. -/
theorem rat_does {σ : St} {r : Nat} {d : Dk} {q : Option Nat} {rs : List RE} (h : RefAt σ r d q rs) (hfew : rs.length ≤ 1000000) (n : List UInt8) :
    ∃ p σ', Does Try.prog prims 52 [.optr r 0, .str n] σ p σ' ∧ KS [] σ σ' ∧ ((p = .ret (.int .i64 (-1)) ∧ ∀ x ∈ rs, x.f.name ≠ n) ∨ ∃ i, ∃ hi : i < rs.length, p = .ret (.int .i64 (i : Nat)) ∧ rs[i].f.name = n) := by
  apply k52_is.does (by simp)
  obtain ⟨fv, h1, h2⟩ := h.hd
  have lf : vload Try.prog σ.objs 69 (.optr r 0) = some fv := by rw [vload_obj h1 GFS]; rfl
  simp only [k52_a, WK, vop, evAll, evOpt, evParts, vbuiltin, vun, vextract, Nat.reduceLT, Nat.reduceEqDiff, ↓reduceIte, reduceCtorEq, Nat.reduceAdd, Int.reduceLT, Int.reduceNeg, valloc_std, noSB, vhot, List.getD_cons_zero, List.getD_cons_succ, rFA r 0 (by omega), lf, h2.len]
  refine Ev.loopF (fun (i : Nat) e s => e 12 = .int .i64 (i : Nat) ∧ i ≤ rs.length ∧ KS [] σ s ∧ ∀ x ∈ rs.take i, x.f.name ≠ n) (fun i => rs.length - i) 0 ⟨by simp [upd_some], Nat.zero_le _, KS.refl _ _, by simp⟩ ?_
  rintro i e s ⟨h12, hi, hk, hno⟩ hf
  have h1' : e 1 = .str n := (hf 1 (by decide)).trans (by simp [upd_some])
  have h9 : e 10 = fv := (hf 10 (by decide)).trans (by simp [upd_some])
  have h10 : e 11 = .int .i64 (rs.length : Nat) := (hf 11 (by decide)).trans (by simp [upd_some])
  clear hf
  by_cases hlt : i < rs.length
  · have hlt' : (i : Int) < rs.length := by omega
    have hwi : IntKind.i64.wrap ((i : Int) + 1) = ((i + 1 : Nat) : Int) := by rw [show ((i : Int) + 1) = ((i + 1 : Nat) : Int) from by omega]; exact wrap_nat (by omega)
    obtain ⟨ro, _, _, ha, hl⟩ := (h2.keep hk fun x _ => by simp).at hlt
    have hx := h.ok rs[i] (List.getElem_mem hlt)
    obtain ⟨s1, hs1⟩ : ∃ s1 : St, s1 = ⟨s.objs ++ [.cells rs[i].cells], s.toks⟩ := ⟨_, rfl⟩
    have hst := fileNew (σ := s) hx
    rw [← hs1] at hst
    have K1 : KS [] s s1 := by rw [hs1]; exact KS.push _ _ _
    have ho : s1.objs[s.objs.length]? = some (.cells rs[i].cells) := by rw [hs1]; exact push_new _ _
    have hln : vload Try.prog s1.objs 9 (.optr s.objs.length 0) = some (.str rs[i].f.name) := by rw [vload_obj ho G9]; rfl
    have hz : vcells (V.agg [.str [], .nils, .nils]) = [.str [], .nils, .nils] := rfl
    by_cases he : rs[i].f.name = n
    · simp only [k52_a, WK, vop, evAll, evOpt, evParts, vbuiltin, vun, vextract, Nat.reduceLT, Nat.reduceEqDiff, ↓reduceIte, reduceCtorEq, Nat.reduceAdd, Int.reduceLT, Int.reduceNeg, valloc_std, noSB, vhot, h12, h10, h9, h1', hlt', decide_true, ha, hl, ZFi, vbox, hz, hst, fFA0, hln, sbE, he, eq_self]
      exact ⟨hk.trans' K1, .inr ⟨i, hlt, rfl, he⟩⟩
    · simp only [k52_a, WK, vop, evAll, evOpt, evParts, vbuiltin, vun, vextract, Nat.reduceLT, Nat.reduceEqDiff, ↓reduceIte, reduceCtorEq, Nat.reduceAdd, Int.reduceLT, Int.reduceNeg, valloc_std, noSB, vhot, h12, h10, h9, h1', hlt', decide_true, ha, hl, ZFi, vbox, hz, hst, fFA0, hln, sbE, he, decide_false, hwi]
      refine ⟨i + 1, ⟨by simp [upd_some], by omega, hk.trans' K1, fun x hx => ?_⟩, by omega⟩
      rw [List.take_succ_eq_append_getElem hlt, List.mem_append, List.mem_singleton] at hx
      rcases hx with hx | rfl
      · exact hno x hx
      · exact he
  · have hlt' : ¬ (i : Int) < rs.length := by omega
    have hall : rs.take i = rs := List.take_of_length_le (by omega)
    rw [hall] at hno
    simp only [k52_a, WK, vop, evAll, evOpt, evParts, vbuiltin, vun, vextract, Nat.reduceLT, Nat.reduceEqDiff, ↓reduceIte, reduceCtorEq, Nat.reduceAdd, Int.reduceLT, Int.reduceNeg, valloc_std, noSB, vhot, h12, h10, hlt', decide_false]
    exact ⟨hk, .inl hno⟩
theorem rsize_does {σ : St} {r : Nat} {d : Dk} {q : Option Nat} {rs : List RE} (h : RefAt σ r d q rs) (hok : d.Ok) :
    ∃ p σ', Does Try.prog prims 53 [.optr r 0] σ p σ' ∧ (p = .ret (.int .i64 (sizeD d.files : Nat)) ∧ KS [] σ σ') := by
  apply k53_is.does (by simp)
  obtain ⟨fv, h1, h2⟩ := h.hd
  have lf : vload Try.prog σ.objs 69 (.optr r 0) = some fv := by rw [vload_obj h1 GFS]; rfl
  have hsz : sizeD d.files = (rs.map fun x => x.f.len).sum := by rw [← h.fl, sizeD, List.map_map]; rfl
  have hfew : rs.length ≤ 16 := by have := hok.few; rw [← h.fl, List.length_map] at this; exact this
  have hmax := sizeD_le hok
  have hpart : ∀ i, ((rs.take i).map fun x => x.f.len).sum ≤ (rs.map fun x => x.f.len).sum := by
    intro i
    have := congrArg (fun l => (l.map fun x : RE => x.f.len).sum) (List.take_append_drop i rs)
    simp only [List.map_append, List.sum_append] at this
    omega
  simp only [k53_a, WK, vop, evAll, evOpt, evParts, vbuiltin, vun, vextract, Nat.reduceLT, Nat.reduceEqDiff, ↓reduceIte, reduceCtorEq, Nat.reduceAdd, Int.reduceLT, Int.reduceNeg, valloc_std, noSB, vhot, List.getD_cons_zero, List.getD_cons_succ, rFA r 0 (by omega), lf, h2.len]
  refine Ev.loopF (fun (i : Nat) e s => e 11 = .int .i64 (i : Nat) ∧ i ≤ rs.length ∧ KS [] σ s ∧ e 3 = .int .i64 (((rs.take i).map fun x => x.f.len).sum : Nat)) (fun i => rs.length - i) 0 ⟨by simp [upd_some], Nat.zero_le _, KS.refl _ _, by simp [upd_some]⟩ ?_
  rintro i e s ⟨h12, hi, hk, h3⟩ hf
  have h9 : e 9 = fv := (hf 9 (by decide)).trans (by simp [upd_some])
  have h10 : e 10 = .int .i64 (rs.length : Nat) := (hf 10 (by decide)).trans (by simp [upd_some])
  clear hf
  by_cases hlt : i < rs.length
  · have hlt' : (i : Int) < rs.length := by omega
    have hwi : IntKind.i64.wrap ((i : Int) + 1) = ((i + 1 : Nat) : Int) := by rw [show ((i : Int) + 1) = ((i + 1 : Nat) : Int) from by omega]; exact wrap_nat (by omega)
    obtain ⟨ro, _, _, ha, hl⟩ := (h2.keep hk fun x _ => by simp).at hlt
    have hx := h.ok rs[i] (List.getElem_mem hlt)
    obtain ⟨s1, hs1⟩ : ∃ s1 : St, s1 = ⟨s.objs ++ [.cells rs[i].cells], s.toks⟩ := ⟨_, rfl⟩
    have hst := fileNew (σ := s) hx
    rw [← hs1] at hst
    have K1 : KS [] s s1 := by rw [hs1]; exact KS.push _ _ _
    have ho : s1.objs[s.objs.length]? = some (.cells rs[i].cells) := by rw [hs1]; exact push_new _ _
    have hl1 : vload Try.prog s1.objs 28 (.optr s.objs.length 1) = some rs[i].s := by rw [vload_obj ho pGB]; rfl
    have hl2 : vload Try.prog s1.objs 28 (.optr s.objs.length 2) = some rs[i].w := by rw [vload_obj ho pGB]; rfl
    have hz : vcells (V.agg [.str [], .nils, .nils]) = [.str [], .nils, .nils] := rfl
    have hstep : ((rs.take (i + 1)).map fun x => x.f.len).sum = ((rs.take i).map fun x => x.f.len).sum + rs[i].f.safe.length + rs[i].f.wait.length := by
      rw [List.take_succ_eq_append_getElem hlt, List.map_append, List.sum_append]
      simp only [List.map_cons, List.map_nil, List.sum_cons, List.sum_nil, Fl.len]
      omega
    have hle := hpart (i + 1)
    have w1 : IntKind.i64.wrap ((((rs.take i).map fun x => x.f.len).sum : Nat) + (rs[i].f.safe.length : Nat) : Int) = ((((rs.take i).map fun x => x.f.len).sum + rs[i].f.safe.length : Nat) : Int) := by rw [wrap_i64 (by omega) (by omega)]; omega
    have w2 : IntKind.i64.wrap (((((rs.take i).map fun x => x.f.len).sum + rs[i].f.safe.length : Nat) : Int) + (rs[i].f.wait.length : Nat)) = ((((rs.take (i + 1)).map fun x => x.f.len).sum : Nat) : Int) := by rw [hstep, wrap_i64 (by omega) (by omega)]; omega
    simp only [k53_a, WK, vop, evAll, evOpt, evParts, vbuiltin, vun, vextract, Nat.reduceLT, Nat.reduceEqDiff, ↓reduceIte, reduceCtorEq, Nat.reduceAdd, Int.reduceLT, Int.reduceNeg, valloc_std, noSB, vhot, h12, h10, h9, h3, hlt', decide_true, ha, hl, ZFi, vbox, hz, hst, fFA1, fFA2, Nat.zero_add, hl1, hl2, hx.1.len T22, hx.2.len T22, w1, w2, hwi]
    exact ⟨i + 1, ⟨by simp [upd_some], by omega, hk.trans' K1, by simp [upd_some]⟩, by omega⟩
  · have hlt' : ¬ (i : Int) < rs.length := by omega
    have hall : rs.take i = rs := List.take_of_length_le (by omega)
    rw [hall, ← hsz] at h3
    simp only [k53_a, WK, vop, evAll, evOpt, evParts, vbuiltin, vun, vextract, Nat.reduceLT, Nat.reduceEqDiff, ↓reduceIte, reduceCtorEq, Nat.reduceAdd, Int.reduceLT, Int.reduceNeg, valloc_std, noSB, vhot, h12, h10, h3, hlt', decide_false]
    exact hk
theorem rraw_does {σ : St} {r : Nat} {d : Dk} {q : Option Nat} {rs : List RE} (h : RefAt σ r d q rs) (hok : d.Ok) (hw : d.writes < 4611686018427387904) :
    ∃ σ', Does Try.prog prims 55 [.optr r 0] σ (.ret (.bool (rawD d).1)) σ' ∧ RefAt σ' r (rawD d).2 q rs ∧ KS (r :: q.toList) σ σ' := by
  have key : ∃ p σ', Does Try.prog prims 55 [.optr r 0] σ p σ' ∧ (p = .ret (.bool (rawD d).1) ∧ RefAt σ' r (rawD d).2 q rs ∧ KS (r :: q.toList) σ σ') := by
    apply k55_is.does (by simp)
    obtain ⟨fv, h1, h2⟩ := h.hd
    have hww : IntKind.i64.wrap ((d.writes : Int) + 1) = ((d.writes + 1 : Nat) : Int) := by rw [show (d.writes : Int) + 1 = ((d.writes + 1 : Nat) : Int) by omega]; exact wrap_nat (by omega)
    have l1 : vload Try.prog σ.objs 3 (.optr r 3) = some (.int .i64 (d.writes : Nat)) := by rw [vload_obj h1 G3]; rfl
    obtain ⟨d1, hd1⟩ : ∃ d1 : Dk, d1 = { d with writes := d.writes + 1 } := ⟨_, rfl⟩
    obtain ⟨s1, hs1⟩ : ∃ s1 : St, s1 = ⟨σ.objs.set r (.cells [fv, .int .i64 d1.room, .bool d1.on, .int .i64 (d1.writes : Nat), .int .i64 (d1.armed : Nat), .int .i64 d1.keep]), σ.toks⟩ := ⟨_, rfl⟩
    have st1 : vstore Try.prog σ 3 (.optr r 3) (.int .i64 ((d.writes + 1 : Nat) : Int)) = some s1 := by rw [vstore_obj h1 S3 rfl (by simp), hs1, hd1]; rfl
    obtain ⟨D1, K1⟩ := h.head (d2 := d1) (by rw [hd1]) h2 hs1
    have o1 : s1.objs[r]? = some (.cells [fv, .int .i64 d1.room, .bool d1.on, .int .i64 (d1.writes : Nat), .int .i64 (d1.armed : Nat), .int .i64 d1.keep]) := by rw [hs1]; exact obj_set h1
    have l2 : vload Try.prog s1.objs 3 (.optr r 4) = some (.int .i64 (d.armed : Nat)) := by rw [vload_obj o1 G3, hd1]; rfl
    simp only [k55_a, WK, vop, evAll, evOpt, evParts, vbuiltin, vun, vextract, Nat.reduceLT, Nat.reduceEqDiff, ↓reduceIte, reduceCtorEq, Nat.reduceAdd, Int.reduceLT, Int.reduceNeg, valloc_std, noSB, vhot, List.getD_cons_zero, rFA r 3 (by omega), rFA r 4 (by omega), l1, hww, st1, l2]
    by_cases ha : d.armed = 0
    · have ha' : ((d.armed : Nat) : Int) = 0 := by omega
      have e : rawD d = (false, d1) := by simp [rawD, ha, hd1]
      simp only [k55_a, WK, vop, evAll, evOpt, evParts, vbuiltin, vun, vextract, Nat.reduceLT, Nat.reduceEqDiff, ↓reduceIte, reduceCtorEq, Nat.reduceAdd, Int.reduceLT, Int.reduceNeg, valloc_std, noSB, vhot, ha', decide_true, e]
      exact ⟨D1, K1⟩
    · have ha' : ¬ ((d.armed : Nat) : Int) = 0 := by omega
      have hwa : IntKind.i64.wrap ((d.armed : Int) - 1) = ((d.armed - 1 : Nat) : Int) := by
        have := hok.arm
        rw [show (d.armed : Int) - 1 = ((d.armed - 1 : Nat) : Int) by omega]; exact wrap_nat (by omega)
      obtain ⟨d2, hd2⟩ : ∃ d2 : Dk, d2 = { d with writes := d.writes + 1, armed := d.armed - 1 } := ⟨_, rfl⟩
      obtain ⟨s2, hs2⟩ : ∃ s2 : St, s2 = ⟨s1.objs.set r (.cells [fv, .int .i64 d2.room, .bool d2.on, .int .i64 (d2.writes : Nat), .int .i64 (d2.armed : Nat), .int .i64 d2.keep]), s1.toks⟩ := ⟨_, rfl⟩
      have st2 : vstore Try.prog s1 3 (.optr r 4) (.int .i64 ((d.armed - 1 : Nat) : Int)) = some s2 := by rw [vstore_obj o1 S3 rfl (by simp), hs2, hd1, hd2]; rfl
      obtain ⟨D2, K2⟩ := D1.head (d2 := d2) (by rw [hd1, hd2]) (h2.keep (S := [r]) (by rw [hs1]; exact KS.set (.inl (by simp)) _) fun x hx hx2 => h.ne (by rw [List.mem_singleton] at hx2; rw [← hx2]; exact hx)) hs2
      have o2 : s2.objs[r]? = some (.cells [fv, .int .i64 d2.room, .bool d2.on, .int .i64 (d2.writes : Nat), .int .i64 (d2.armed : Nat), .int .i64 d2.keep]) := by rw [hs2]; exact obj_set o1
      have l3 : vload Try.prog s2.objs 3 (.optr r 4) = some (.int .i64 ((d.armed - 1 : Nat) : Int)) := by rw [vload_obj o2 G3, hd2]; rfl
      have e : rawD d = (decide (d.armed = 1), d2) := by simp [rawD, ha, hd2]
      simp only [k55_a, WK, vop, evAll, evOpt, evParts, vbuiltin, vun, vextract, Nat.reduceLT, Nat.reduceEqDiff, ↓reduceIte, reduceCtorEq, Nat.reduceAdd, Int.reduceLT, Int.reduceNeg, valloc_std, noSB, vhot, rFA r 3 (by omega), rFA r 4 (by omega), ha', decide_false, hwa, st2, l3, l2, e]
      refine ⟨?_, D2, K1.trans' K2⟩
      congr 2
      by_cases h1 : d.armed = 1
      · simp [h1]
      · have : ¬ ((d.armed - 1 : Nat) : Int) = 0 := by omega
        simp [h1]; omega
  obtain ⟨p, σ', h1, rfl, h2⟩ := key
  exact ⟨σ', h1, h2⟩
end Go.Proofs.Ytnbmfhnfmhgaaaa.Q

/- The document's disk: put, drop, Off. -/
set_option linter.unusedVariables false
set_option linter.unusedSimpArgs false
set_option maxRecDepth 100000
namespace Go.Proofs.Ytnbmfhnfmhgaaaa.Q
open Go Go.RowKit Go.Proofs
theorem KS.ofKeep {σ σ' : St} (h : Keep σ σ') : KS [] σ σ' := h.ks []
/-- A copy, and bytes behind it, that are no written rows. -/
theorem copy2 {σ : St} {v w : V} {bs ys : List UInt8} (hv : RB σ v bs) (hw : RB σ w ys) (hl : bs.length + ys.length ≤ 140737488300000) :
    ∃ v1 σ1 v2 σ2, vappend Try.prog σ 28 28 (.slice .exact 1 [] 0) v = some (v1, σ1) ∧ vappend Try.prog σ1 28 28 v1 w = some (v2, σ2) ∧ BtsV v1 bs ∧ BtsV v2 (bs ++ ys) ∧ KS [] σ σ1 ∧ KS [] σ σ2 ∧ σ1.objs = σ.objs ∧ σ2.objs = σ.objs := by
  have ho1 : OwnV 5 σ.toks.length σ (.slice .exact 1 [] 0) [] := .inr ⟨_, rfl, .inl rfl⟩
  obtain ⟨v1, σ1, h1, h2, h3, h4⟩ := ho1.toR.appendO BT.row rfl (Keep.refl σ) (hv.news) (by simp) (byteV_one bs) (by simp; omega) (by simp; omega)
  rw [List.map_nil, List.nil_append] at h2
  have hv1 := OwnR.toV h2
  have hw1 : RB σ1 w ys := hw.keep h3
  obtain ⟨v2, σ2, g1, g2, g3, g4⟩ := hv1.toR.appendO BT.row rfl h3 hw1.news (by simp) (byteV_one ys) (by omega) (by omega)
  rw [← List.map_append] at g2
  exact ⟨v1, σ1, v2, σ2, h1, g1, hv1.bts, (OwnR.toV g2).bts, KS.ofKeep h3, KS.ofKeep g3, h4, by rw [g4, h4]⟩
theorem fb0 : vbuildSlice Try.prog 28 0 [] = some (.slice .exact 1 [] 0) := by kernel_rfl
theorem fb1 (b : UInt8) : vbuildSlice Try.prog 28 1 [(0, byteV b)] = some (.slice .exact 1 [byteV b] 1) := by kernel_rfl
/-- The loop of put, plainly. -/
def putI (x : Fl) (pre : List RE) : List RE := pre.filter fun g => decide (g.f.name < x.name)
def putJ (x : Fl) (pre : List RE) : List RE := pre.filter fun g => decide (x.name < g.f.name)
theorem put_fl {x : RE} {rs : List RE} : (putI x.f rs ++ x :: putJ x.f rs).map RE.f = putF x.f (rs.map RE.f) := by
  unfold putI putJ putF
  rw [List.map_append, List.map_cons, List.filter_map, List.filter_map]
  rfl
theorem put_does' {σ : St} {r : Nat} {d : Dk} {q : Option Nat} {rs : List RE} {x : RE} (h : RefAt σ r d q rs) (hok : d.Ok) (hx : x.Ok) :
    ∃ p σ', Does Try.prog prims 54 [.optr r 0, .agg x.cells] σ p σ' ∧ (p = .ret (.tuple []) ∧ RNext σ r q σ' { d with files := putF x.f d.files }) := by
  apply k54_is.does (by simp)
  have hfew : rs.length ≤ 16 := by have := hok.few; rw [← h.fl, List.length_map] at this; exact this
  have hrise : rs.Pairwise fun a b => a.f.name < b.f.name := by
    have := hok.rise
    rw [← h.fl, List.pairwise_map] at this
    exact this
  obtain ⟨s0, hs0⟩ : ∃ s0 : St, s0 = ⟨σ.objs ++ [.cells x.cells], σ.toks⟩ := ⟨_, rfl⟩
  have K0 : KS [] σ s0 := by rw [hs0]; exact KS.push _ _ _
  have H0 : RefAt s0 r d q rs := h.keep K0 fun x _ => by simp
  have L0 : s0.objs.length = σ.objs.length + 1 := by rw [hs0]; simp
  have B0 : s0.objs[σ.objs.length]? = some (.cells x.cells) := by rw [hs0]; exact push_new _ _
  obtain ⟨fv, h1, h2⟩ := H0.hd
  have lf : vload Try.prog s0.objs 69 (.optr r 0) = some fv := by rw [vload_obj h1 GFS]; rfl
  have hcx : vcells (.agg x.cells) = x.cells := rfl
  simp only [k54_a, WK, vop, evAll, evOpt, evParts, vbuiltin, vun, vextract, Nat.reduceLT, Nat.reduceEqDiff, ↓reduceIte, reduceCtorEq, Nat.reduceAdd, Int.reduceLT, Int.reduceNeg, valloc_std, noSB, vhot, List.getD_cons_zero, List.getD_cons_succ, vbox, hcx, ← hs0, nilEP, rFA r 0 (by omega), lf, h2.len]
  refine Ev.loopF (fun (i : Nat) e s => ∃ q', e 13 = .int .i64 (i : Nat) ∧ i ≤ rs.length ∧ KS [] s0 s ∧ e 5 = .bool ((rs.take i).any fun g => decide (x.f.name < g.f.name)) ∧ RRow s.objs (e 4) q' (putI x.f (rs.take i) ++ if ((rs.take i).any fun g => decide (x.f.name < g.f.name)) = true then x :: putJ x.f (rs.take i) else []) ∧ ∀ z ∈ q'.toList, s0.objs.length ≤ z) (fun i => rs.length - i) 0 ⟨none, by simp [upd_some], Nat.zero_le _, KS.refl _ _, by simp [upd_some], by simp [upd_some, putI, RRow], fun z hz => by cases hz⟩ ?_
  rintro i e s ⟨q', h13, hi, hk, h5, h4, hq'⟩ hf
  have h0 : e 0 = .optr r 0 := (hf 0 (by decide)).trans (by simp [upd_some])
  have h3 : e 3 = .optr σ.objs.length 0 := (hf 3 (by decide)).trans (by simp [upd_some])
  have h11 : e 11 = fv := (hf 11 (by decide)).trans (by simp [upd_some])
  have h12 : e 12 = .int .i64 (rs.length : Nat) := (hf 12 (by decide)).trans (by simp [upd_some])
  clear hf
  have Bs : s.objs[σ.objs.length]? = some (.cells x.cells) := hk.ko _ _ (by simp) B0
  have hokp : ∀ g ∈ putI x.f (rs.take i) ++ (if ((rs.take i).any fun g => decide (x.f.name < g.f.name)) = true then x :: putJ x.f (rs.take i) else []), g.Ok := by
    intro g hg
    rcases List.mem_append.1 hg with hg | hg
    · exact h.ok g (List.mem_of_mem_take (List.mem_filter.1 hg).1)
    · split at hg
      · rcases List.mem_cons.1 hg with rfl | hg
        · exact hx
        · exact h.ok g (List.mem_of_mem_take (List.mem_filter.1 hg).1)
      · cases hg
  have hlenp : (putI x.f (rs.take i) ++ (if ((rs.take i).any fun g => decide (x.f.name < g.f.name)) = true then x :: putJ x.f (rs.take i) else [])).length ≤ 100 := by
    have e1 := List.length_filter_le (fun g : RE => decide (g.f.name < x.f.name)) (rs.take i)
    have e2 := List.length_filter_le (fun g : RE => decide (x.f.name < g.f.name)) (rs.take i)
    have e3 : (rs.take i).length ≤ 16 := by rw [List.length_take]; omega
    rw [List.length_append]
    unfold putI putJ
    split
    · rw [List.length_cons]; omega
    · simp only [List.length_nil]; omega
  by_cases hlt : i < rs.length
  · have hlt' : (i : Int) < rs.length := by omega
    have hwi : IntKind.i64.wrap ((i : Int) + 1) = ((i + 1 : Nat) : Int) := by rw [show ((i : Int) + 1) = ((i + 1 : Nat) : Int) from by omega]; exact wrap_nat (by omega)
    obtain ⟨ro, _, _, ha, hl⟩ := (h2.keep hk fun x _ => by simp).at hlt
    obtain ⟨g, hg⟩ : ∃ g, g = rs[i] := ⟨_, rfl⟩
    rw [← hg] at hl
    have hgo := h.ok rs[i] (List.getElem_mem hlt)
    rw [← hg] at hgo
    have htk : rs.take (i + 1) = rs.take i ++ [g] := by rw [List.take_succ_eq_append_getElem hlt, hg]
    have hpre : ∀ a ∈ rs.take i, a.f.name < g.f.name := by
      intro a ham
      obtain ⟨j, hj, rfl⟩ := List.mem_iff_getElem.1 ham
      rw [List.length_take] at hj
      rw [List.getElem_take, hg]
      exact List.pairwise_iff_getElem.1 hrise j i (by omega) hlt (by omega)
    obtain ⟨s1, hs1⟩ : ∃ s1 : St, s1 = ⟨s.objs ++ [.cells g.cells], s.toks⟩ := ⟨_, rfl⟩
    have hst := fileNew (σ := s) hgo
    rw [← hs1] at hst
    have K1 : KS [] s s1 := by rw [hs1]; exact KS.push _ _ _
    have L1 : s.objs.length ≤ s1.objs.length := K1.le
    have ho : s1.objs[s.objs.length]? = some (.cells g.cells) := by rw [hs1]; exact push_new _ _
    have B1 := K1.ko _ _ (by simp) Bs
    have hz : vcells (V.agg [.str [], .nils, .nils]) = [.str [], .nils, .nils] := rfl
    have R1 : RRow s1.objs (e 4) q' (putI x.f (rs.take i) ++ if ((rs.take i).any fun g => decide (x.f.name < g.f.name)) = true then x :: putJ x.f (rs.take i) else []) := h4.keep K1 fun x _ => by simp
    have hq1 : ∀ z ∈ q'.toList, z < s.objs.length := h4.lt
    have lx : vload Try.prog s1.objs 9 (.optr σ.objs.length 0) = some (.str x.f.name) := by rw [vload_obj B1 G9]; rfl
    have lg : vload Try.prog s1.objs 9 (.optr s.objs.length 0) = some (.str g.f.name) := by rw [vload_obj ho G9]; rfl
    have ax : vload Try.prog s1.objs 77 (.optr σ.objs.length 0) = some (.agg x.cells) := vload_agg B1 GFi (by rw [SFi]; rfl)
    have ag : vload Try.prog s1.objs 77 (.optr s.objs.length 0) = some (.agg g.cells) := vload_agg ho GFi (by rw [SFi]; rfl)
    have hany : ((rs.take (i + 1)).any fun g => decide (x.f.name < g.f.name)) = (((rs.take i).any fun g => decide (x.f.name < g.f.name)) || decide (x.f.name < g.f.name)) := by rw [htk, List.any_append]; simp
    have hI : putI x.f (rs.take (i + 1)) = putI x.f (rs.take i) ++ if g.f.name < x.f.name then [g] else [] := by
      unfold putI; rw [htk, List.filter_append, List.filter_cons]
      by_cases h : g.f.name < x.f.name <;> simp [h]
    have hJ : putJ x.f (rs.take (i + 1)) = putJ x.f (rs.take i) ++ if x.f.name < g.f.name then [g] else [] := by
      unfold putJ; rw [htk, List.filter_append, List.filter_cons]
      by_cases h : x.f.name < g.f.name <;> simp [h]
    have hJ0 : ((rs.take i).any fun g => decide (x.f.name < g.f.name)) = false → putJ x.f (rs.take i) = [] := by
      intro h
      unfold putJ
      rw [List.filter_eq_nil_iff]
      intro a ha h2
      have := List.any_eq_false.1 h a ha
      exact this h2
    have hdone : ((rs.take i).any fun g => decide (x.f.name < g.f.name)) = true → x.f.name < g.f.name := by
      intro h
      obtain ⟨a, ha, h2⟩ := List.any_eq_true.1 h
      exact lt_trans' (of_decide_eq_true h2) (hpre a ha)
    -- an append of g alone
    have push1 : ∃ y t1 v' q2 t2, vbuildRow Try.prog s1 69 1 [(0, .agg g.cells)] = some (y, t1) ∧ vappendRow Try.prog t1 69 69 (e 4) y = some (v', t2) ∧ RRow t2.objs v' q2 ((putI x.f (rs.take i) ++ if ((rs.take i).any fun g => decide (x.f.name < g.f.name)) = true then x :: putJ x.f (rs.take i) else []) ++ [g]) ∧ KS [] s0 t2 ∧ ∀ z ∈ q2.toList, s0.objs.length ≤ z := by
      obtain ⟨y, t1, v', q2, t2, p1, p2, p3, p4, p5⟩ := R1.push hokp hgo (by omega)
      have := hk.le
      exact ⟨y, t1, v', q2, t2, p1, p2, p3, (hk.trans' K1).trans p4 fun x hx => .inr (hq' x hx), fun z hz => by have := p5 z hz; omega⟩
    by_cases hxg : x.f.name < g.f.name
    · have hgx : ¬ g.f.name < x.f.name := fun h => lt_irrefl' _ (lt_trans' h hxg)
      have hne : ¬ g.f.name = x.f.name := fun h => by rw [h] at hxg; exact lt_irrefl' _ hxg
      have hany1 : ((rs.take (i + 1)).any fun g => decide (x.f.name < g.f.name)) = true := by rw [hany, decide_eq_true hxg, Bool.or_true]
      cases hb : ((rs.take i).any fun g => decide (x.f.name < g.f.name)) with
      | true =>
        rw [hb] at h5 push1
        obtain ⟨y, t1, v', q2, t2, p1, p2, p3, p4, p5⟩ := push1
        simp only [k54_a, WK, vop, evAll, evOpt, evParts, vbuiltin, vun, vextract, Nat.reduceLT, Nat.reduceEqDiff, ↓reduceIte, reduceCtorEq, Nat.reduceAdd, Int.reduceLT, Int.reduceNeg, valloc_std, noSB, vhot, h13, h12, h11, h5, h3, hlt', decide_true, decide_false, ha, hl, ZFi, vbox, hz, hst, fFA0, lx, lg, sbN, sbL, hne, hxg, ax, ag, p1, p2, hwi]
        refine ⟨i + 1, ⟨q2, by simp [upd_some], by omega, p4, by simp [upd_some, hany1], ?_, p5⟩, by omega⟩
        rw [hany1, hI, hJ, if_neg hgx, if_pos hxg]
        simpa [upd_some] using p3
      | false =>
        rw [hb] at h5 hokp R1 hlenp
        obtain ⟨y, t1, v', q2, t2, p1, p2, p3, p4, p5⟩ := R1.push hokp hx (by omega)
        have hs0le := hk.le
        have K2 : KS [] s0 t2 := (hk.trans' K1).trans p4 fun x hx => .inr (hq' x hx)
        have lg2 : t2.objs[s.objs.length]? = some (.cells g.cells) := p4.ko _ _ (fun hm => by have := hq1 _ hm; omega) ho
        have lx2 : t2.objs[σ.objs.length]? = some (.cells x.cells) := K2.ko _ _ (by simp) B0
        have mg : vload Try.prog t2.objs 9 (.optr s.objs.length 0) = some (.str g.f.name) := by rw [vload_obj lg2 G9]; rfl
        have mx : vload Try.prog t2.objs 9 (.optr σ.objs.length 0) = some (.str x.f.name) := by rw [vload_obj lx2 G9]; rfl
        have ag2 : vload Try.prog t2.objs 77 (.optr s.objs.length 0) = some (.agg g.cells) := vload_agg lg2 GFi (by rw [SFi]; rfl)
        have hok2 : ∀ a ∈ (putI x.f (rs.take i) ++ if false = true then x :: putJ x.f (rs.take i) else []) ++ [x], a.Ok := by
          intro a ha
          rcases List.mem_append.1 ha with h | h
          · exact hokp a h
          · rw [List.mem_singleton] at h; subst h; exact hx
        obtain ⟨y2, u1, w', q3, u2, r1, r2, r3, r4, r5⟩ := p3.push hok2 hgo (by rw [List.length_append]; simp only [List.length_cons, List.length_nil]; omega)
        have hJe := hJ0 hb
        simp only [k54_a, WK, vop, evAll, evOpt, evParts, vbuiltin, vun, vextract, Nat.reduceLT, Nat.reduceEqDiff, ↓reduceIte, reduceCtorEq, Nat.reduceAdd, Int.reduceLT, Int.reduceNeg, valloc_std, noSB, vhot, h13, h12, h11, h5, h3, hlt', decide_true, decide_false, ha, hl, ZFi, vbox, hz, hst, fFA0, lx, lg, sbN, sbL, hne, hxg, ax, ag, p1, p2, mg, mx, ag2, r1, r2, hwi, Bool.not_false, Bool.not_true]
        refine ⟨i + 1, ⟨q3, by simp [upd_some], by omega, K2.trans r4 fun x hx => .inr (by have := p5 x hx; have := K1.le; omega), by simp [upd_some, hany1], ?_, fun z hz => by have := r5 z hz; have := K2.le; omega⟩, by omega⟩
        rw [hany1, hI, hJ, if_neg hgx, if_pos hxg, hJe]
        simpa [upd_some] using r3
    · have hb : ((rs.take i).any fun g => decide (x.f.name < g.f.name)) = false := by
        cases hb : ((rs.take i).any fun g => decide (x.f.name < g.f.name)) with
        | false => rfl
        | true => exact absurd (hdone hb) hxg
      have hany1 : ((rs.take (i + 1)).any fun g => decide (x.f.name < g.f.name)) = false := by rw [hany, hb, decide_eq_false hxg]; rfl
      rw [hb] at h5 push1 R1
      by_cases hne : g.f.name = x.f.name
      · have hgx : ¬ g.f.name < x.f.name := fun h => by rw [hne] at h; exact lt_irrefl' _ h
        simp only [k54_a, WK, vop, evAll, evOpt, evParts, vbuiltin, vun, vextract, Nat.reduceLT, Nat.reduceEqDiff, ↓reduceIte, reduceCtorEq, Nat.reduceAdd, Int.reduceLT, Int.reduceNeg, valloc_std, noSB, vhot, h13, h12, h11, h5, h3, hlt', decide_true, decide_false, ha, hl, ZFi, vbox, hz, hst, fFA0, lx, lg, sbN, sbL, hne, hxg, ax, ag, hwi, Bool.not_false, Bool.not_true, eq_self, lt_irrefl']
        refine ⟨i + 1, ⟨q', by simp [upd_some], by omega, hk.trans' K1, by simp [upd_some, h5, hany1], ?_, hq'⟩, by omega⟩
        rw [hany1, hI, if_neg hgx]
        simpa [upd_some] using R1
      · have hgx : g.f.name < x.f.name := (lt_or hne).resolve_right hxg
        obtain ⟨y, t1, v', q2, t2, p1, p2, p3, p4, p5⟩ := push1
        simp only [k54_a, WK, vop, evAll, evOpt, evParts, vbuiltin, vun, vextract, Nat.reduceLT, Nat.reduceEqDiff, ↓reduceIte, reduceCtorEq, Nat.reduceAdd, Int.reduceLT, Int.reduceNeg, valloc_std, noSB, vhot, h13, h12, h11, h5, h3, hlt', decide_true, decide_false, ha, hl, ZFi, vbox, hz, hst, fFA0, lx, lg, sbN, sbL, hne, hxg, ax, ag, p1, p2, hwi, Bool.not_false, Bool.not_true]
        refine ⟨i + 1, ⟨q2, by simp [upd_some], by omega, p4, by simp [upd_some, h5, hany1], ?_, p5⟩, by omega⟩
        rw [hany1, hI, if_pos hgx]
        simpa [upd_some] using p3
  · have hlt' : ¬ (i : Int) < rs.length := by omega
    have hall : rs.take i = rs := List.take_of_length_le (by omega)
    rw [hall] at h5 h4 hokp hlenp
    have ax : vload Try.prog s.objs 77 (.optr σ.objs.length 0) = some (.agg x.cells) := vload_agg Bs GFi (by rw [SFi]; rfl)
    have hfin : ∀ (t : St) (v : V) (q2 : Option Nat), KS [] s0 t → RRow t.objs v q2 (putI x.f rs ++ x :: putJ x.f rs) → (∀ z ∈ q2.toList, s0.objs.length ≤ z) → ∃ t', vstore Try.prog t 69 (.optr r 0) v = some t' ∧ RNext σ r q t' { d with files := putF x.f d.files } := by
      intro t v q2 kt rt hq2
      have hrl := h.lt r (by simp)
      have o := kt.ko r _ (by simp) h1
      refine ⟨_, vstore_obj o SFS rt.one (by simp), q2, putI x.f rs ++ x :: putJ x.f rs, ⟨⟨v, by simp only; exact obj_set o, rt.keep (S := [r]) (KS.set (.inl (by simp)) _) fun z hz hz2 => ?_⟩, ?_, ?_, fun hz => ?_⟩, ((K0.trans' kt).mono (fun x hx => by cases hx)).trans' (KS.set (.inl (by simp)) _), fun z hz => ?_⟩
      · rw [List.mem_singleton] at hz2; have := hq2 z hz; omega
      · intro g hg
        rcases List.mem_append.1 hg with hg | hg
        · exact h.ok g (List.mem_filter.1 hg).1
        · rcases List.mem_cons.1 hg with rfl | hg
          · exact hx
          · exact h.ok g (List.mem_filter.1 hg).1
      · simp only; rw [put_fl, h.fl]
      · have := hq2 r hz; omega
      · rcases List.mem_cons.1 hz with rfl | hz
        · exact .inl (by simp)
        · have := hq2 z hz; exact .inr (by omega)
    cases hb : (rs.any fun g => decide (x.f.name < g.f.name)) with
    | true =>
      rw [hb] at h5 h4
      obtain ⟨t', g1, g2⟩ := hfin s (e 4) q' hk h4 hq'
      simp only [k54_a, WK, vop, evAll, evOpt, evParts, vbuiltin, vun, vextract, Nat.reduceLT, Nat.reduceEqDiff, ↓reduceIte, reduceCtorEq, Nat.reduceAdd, Int.reduceLT, Int.reduceNeg, valloc_std, noSB, vhot, h0, h13, h12, h5, h3, hlt', decide_false, Bool.not_true, rFA r 0 (by omega), g1]
      exact g2
    | false =>
      rw [hb] at h5 h4 hokp hlenp
      obtain ⟨y, t1, v', q2, t2, p1, p2, p3, p4, p5⟩ := h4.push hokp hx (by omega)
      have hJe : putJ x.f rs = [] := by
        unfold putJ
        rw [List.filter_eq_nil_iff]
        intro a ha h2
        exact List.any_eq_false.1 hb a ha h2
      obtain ⟨t', g1, g2⟩ := hfin t2 v' q2 (hk.trans p4 fun x hx => .inr (hq' x hx)) (by rw [hJe]; simpa using p3) (fun z hz => by have := p5 z hz; have := hk.le; omega)
      simp only [k54_a, WK, vop, evAll, evOpt, evParts, vbuiltin, vun, vextract, Nat.reduceLT, Nat.reduceEqDiff, ↓reduceIte, reduceCtorEq, Nat.reduceAdd, Int.reduceLT, Int.reduceNeg, valloc_std, noSB, vhot, h0, h13, h12, h5, h3, hlt', decide_false, Bool.not_false, ax, p1, p2, rFA r 0 (by omega), g1]
      exact g2
end Go.Proofs.Ytnbmfhnfmhgaaaa.Q

/- The document's disk: drop, Off. -/
set_option linter.unusedVariables false
set_option linter.unusedSimpArgs false
set_option maxRecDepth 100000
namespace Go.Proofs.Ytnbmfhnfmhgaaaa.Q
open Go Go.RowKit Go.Proofs
theorem drop_does' {σ : St} {r : Nat} {d : Dk} {q : Option Nat} {rs : List RE} {n : List UInt8} (h : RefAt σ r d q rs) (hok : d.Ok) :
    ∃ p σ', Does Try.prog prims 56 [.optr r 0, .str n] σ p σ' ∧ (p = .ret (.tuple []) ∧ RNext σ r q σ' { d with files := dropF n d.files }) := by
  apply k56_is.does (by simp)
  have hfew : rs.length ≤ 16 := by have := hok.few; rw [← h.fl, List.length_map] at this; exact this
  obtain ⟨fv, h1, h2⟩ := h.hd
  have lf : vload Try.prog σ.objs 69 (.optr r 0) = some fv := by rw [vload_obj h1 GFS]; rfl
  simp only [k56_a, WK, vop, evAll, evOpt, evParts, vbuiltin, vun, vextract, Nat.reduceLT, Nat.reduceEqDiff, ↓reduceIte, reduceCtorEq, Nat.reduceAdd, Int.reduceLT, Int.reduceNeg, valloc_std, noSB, vhot, List.getD_cons_zero, List.getD_cons_succ, nilEP, rFA r 0 (by omega), lf, h2.len]
  refine Ev.loopF (fun (i : Nat) e s => ∃ q', e 12 = .int .i64 (i : Nat) ∧ i ≤ rs.length ∧ KS [] σ s ∧ RRow s.objs (e 4) q' ((rs.take i).filter fun g => decide (g.f.name ≠ n)) ∧ ∀ z ∈ q'.toList, σ.objs.length ≤ z) (fun i => rs.length - i) 0 ⟨none, by simp [upd_some], Nat.zero_le _, KS.refl _ _, by simp [upd_some, RRow], fun z hz => by cases hz⟩ ?_
  rintro i e s ⟨q', h12, hi, hk, h4, hq'⟩ hf
  have h0 : e 0 = .optr r 0 := (hf 0 (by decide)).trans (by simp [upd_some])
  have h1' : e 1 = .str n := (hf 1 (by decide)).trans (by simp [upd_some])
  have h10 : e 10 = fv := (hf 10 (by decide)).trans (by simp [upd_some])
  have h11 : e 11 = .int .i64 (rs.length : Nat) := (hf 11 (by decide)).trans (by simp [upd_some])
  clear hf
  have hokp : ∀ g ∈ (rs.take i).filter (fun g => decide (g.f.name ≠ n)), g.Ok := fun g hg => h.ok g (List.mem_of_mem_take (List.mem_filter.1 hg).1)
  have hlenp : ((rs.take i).filter fun g => decide (g.f.name ≠ n)).length ≤ 100 := by
    have e1 := List.length_filter_le (fun g : RE => decide (g.f.name ≠ n)) (rs.take i)
    have e3 : (rs.take i).length ≤ 16 := by rw [List.length_take]; omega
    omega
  by_cases hlt : i < rs.length
  · have hlt' : (i : Int) < rs.length := by omega
    have hwi : IntKind.i64.wrap ((i : Int) + 1) = ((i + 1 : Nat) : Int) := by rw [show ((i : Int) + 1) = ((i + 1 : Nat) : Int) from by omega]; exact wrap_nat (by omega)
    obtain ⟨ro, _, _, ha, hl⟩ := (h2.keep hk fun x _ => by simp).at hlt
    obtain ⟨g, hg⟩ : ∃ g, g = rs[i] := ⟨_, rfl⟩
    rw [← hg] at hl
    have hgo := h.ok rs[i] (List.getElem_mem hlt)
    rw [← hg] at hgo
    have htk : rs.take (i + 1) = rs.take i ++ [g] := by rw [List.take_succ_eq_append_getElem hlt, hg]
    obtain ⟨s1, hs1⟩ : ∃ s1 : St, s1 = ⟨s.objs ++ [.cells g.cells], s.toks⟩ := ⟨_, rfl⟩
    have hst := fileNew (σ := s) hgo
    rw [← hs1] at hst
    have K1 : KS [] s s1 := by rw [hs1]; exact KS.push _ _ _
    have ho : s1.objs[s.objs.length]? = some (.cells g.cells) := by rw [hs1]; exact push_new _ _
    have hz : vcells (V.agg [.str [], .nils, .nils]) = [.str [], .nils, .nils] := rfl
    have R1 := h4.keep K1 fun x _ => by simp
    have lg : vload Try.prog s1.objs 9 (.optr s.objs.length 0) = some (.str g.f.name) := by rw [vload_obj ho G9]; rfl
    have ag : vload Try.prog s1.objs 77 (.optr s.objs.length 0) = some (.agg g.cells) := vload_agg ho GFi (by rw [SFi]; rfl)
    by_cases hne : g.f.name = n
    · simp only [k56_a, WK, vop, evAll, evOpt, evParts, vbuiltin, vun, vextract, Nat.reduceLT, Nat.reduceEqDiff, ↓reduceIte, reduceCtorEq, Nat.reduceAdd, Int.reduceLT, Int.reduceNeg, valloc_std, noSB, vhot, h12, h11, h10, h1', hlt', decide_true, decide_false, ha, hl, ZFi, vbox, hz, hst, fFA0, lg, sbN, hne, eq_self, hwi, Bool.not_true]
      refine ⟨i + 1, ⟨q', by simp [upd_some], by omega, hk.trans' K1, ?_, hq'⟩, by omega⟩
      rw [htk, List.filter_append, List.filter_cons]
      simpa [upd_some, hne] using R1
    · obtain ⟨y, t1, v', q2, t2, p1, p2, p3, p4, p5⟩ := R1.push hokp hgo (by omega)
      have := (hk.trans' K1).le
      simp only [k56_a, WK, vop, evAll, evOpt, evParts, vbuiltin, vun, vextract, Nat.reduceLT, Nat.reduceEqDiff, ↓reduceIte, reduceCtorEq, Nat.reduceAdd, Int.reduceLT, Int.reduceNeg, valloc_std, noSB, vhot, h12, h11, h10, h1', hlt', decide_true, decide_false, ha, hl, ZFi, vbox, hz, hst, fFA0, lg, sbN, hne, ag, p1, p2, hwi, Bool.not_false]
      refine ⟨i + 1, ⟨q2, by simp [upd_some], by omega, (hk.trans' K1).trans p4 fun x hx => .inr (hq' x hx), ?_, fun z hz => by have := p5 z hz; omega⟩, by omega⟩
      rw [htk, List.filter_append, List.filter_cons]
      simpa [upd_some, hne] using p3
  · have hlt' : ¬ (i : Int) < rs.length := by omega
    have hall : rs.take i = rs := List.take_of_length_le (by omega)
    rw [hall] at h4 hokp
    have hrl := h.lt r (by simp)
    have o := hk.ko r _ (by simp) h1
    have hst := vstore_obj (off := 0) o SFS h4.one (by simp)
    simp only [k56_a, WK, vop, evAll, evOpt, evParts, vbuiltin, vun, vextract, Nat.reduceLT, Nat.reduceEqDiff, ↓reduceIte, reduceCtorEq, Nat.reduceAdd, Int.reduceLT, Int.reduceNeg, valloc_std, noSB, vhot, h0, h12, h11, hlt', decide_false, rFA r 0 (by omega), hst]
    refine ⟨q', rs.filter fun g => decide (g.f.name ≠ n), ⟨⟨e 4, by simp only; exact obj_set o, h4.keep (S := [r]) (KS.set (.inl (by simp)) _) fun z hz hz2 => ?_⟩, hokp, ?_, fun hz => ?_⟩, (hk.mono (fun x hx => by cases hx)).trans' (KS.set (.inl (by simp)) _), fun z hz => ?_⟩
    · rw [List.mem_singleton] at hz2; have := hq' z hz; omega
    · simp only
      rw [← h.fl, dropF, List.filter_map]
      rfl
    · have := hq' r hz; omega
    · rcases List.mem_cons.1 hz with rfl | hz
      · exact .inl (by simp)
      · exact .inr (hq' z hz)
/-- A file of the row changes. -/
theorem RRow.set {σ : St} {fv : V} {q : Option Nat} {rs : List RE} (h : RRow σ.objs fv q rs) {i : Nat} (hi : i < rs.length) {y : RE} (hy : y.Ok) : ∃ ro σ', q = some ro ∧ vindexAddr Try.prog 69 fv (.int .i64 (i : Int)) = some (.optr ro (i * 3)) ∧ vstore Try.prog σ 77 (.optr ro (i * 3)) (.agg y.cells) = some σ' ∧ RRow σ'.objs fv q (rs.set i y) ∧ KS q.toList σ σ' ∧ σ'.objs.length = σ.objs.length := by
  obtain ⟨ro, hq, ho, ha, hl⟩ := h.at hi
  have hle : i * 3 + 3 ≤ rs.length * 3 := by omega
  have hc : vcells (.agg y.cells) = y.cells := rfl
  have hflat : ∀ (l : List RE) (i : Nat), i < l.length → setAll (rcells l) (i * 3) y.cells = rcells (l.set i y) := by
    intro l
    induction l with
    | nil => intro i hi; simp at hi
    | cons a l ih =>
      intro i hi
      cases i with
      | zero => simp [rcells, RE.cells, setAll]
      | succ i =>
        have h1 := ih i (by simpa using hi)
        rw [setAll_take _ _ _ (by rw [rcells_len, RE.cells_len]; simp at hi; omega)] at h1
        rw [setAll_take _ _ _ (by rw [rcells_len, RE.cells_len]; simp at hi ⊢; omega)]
        have e1 : (i + 1) * 3 = 3 + i * 3 := by omega
        have e2 : rcells (a :: l) = a.cells ++ rcells l := rfl
        have e3 : a.cells.length = 3 := rfl
        have t1 : (a.cells ++ rcells l).take (3 + i * 3) = a.cells ++ (rcells l).take (i * 3) := by rw [← e3, List.take_length_add_append]
        have t2 : (a.cells ++ rcells l).drop (3 + i * 3 + y.cells.length) = (rcells l).drop (i * 3 + y.cells.length) := by
          rw [show 3 + i * 3 + y.cells.length = a.cells.length + (i * 3 + y.cells.length) by rw [e3]; omega, List.drop_length_add_append]
        rw [e1, e2, t1, t2, List.set_cons_succ]
        show _ = a.cells ++ rcells (l.set i y)
        rw [← h1]
        simp [List.append_assoc]
  refine ⟨ro, ⟨σ.objs.set ro (.cells (rcells (rs.set i y))), σ.toks⟩, hq, ha, ?_, ?_, KS.set (.inl (by simp [hq])) _, by simp⟩
  · simp only [vstore, ho, hc, RE.one hy, SFi, RE.cells_len, rcells_len]
    rw [if_pos ⟨trivial, by omega, trivial⟩, hflat rs i hi]
  · rcases h with ⟨_, _, rfl⟩ | ⟨ro', e1, e2, e3⟩
    · simp at hi
    · rw [hq] at e2
      injection e2 with e2
      subst e2
      exact .inr ⟨ro, by rw [List.length_set]; exact e1, hq, obj_set ho⟩
theorem vfile2 (n : List UInt8) (s : V) (h : one s = true) : vbuild Try.prog 77 [(0, .str n), (1, s)] = some (.agg [.str n, s, .nils]) := by
  cases s <;> first | (cases h; done) | kernel_rfl
theorem roff_does {σ : St} {r : Nat} {d : Dk} {q : Option Nat} {rs : List RE} {k : Int} (h : RefAt σ r d q rs) (hok : d.Ok) :
    ∃ p σ', Does Try.prog prims 44 [.optr r 0, .int .i64 k] σ p σ' ∧ (p = .ret (.tuple []) ∧ RNext σ r q σ' (offD k d)) := by
  apply k44_is.does (by simp)
  have hfew : rs.length ≤ 16 := by have := hok.few; rw [← h.fl, List.length_map] at this; exact this
  obtain ⟨fv, h1, h2⟩ := h.hd
  have lf : vload Try.prog σ.objs 69 (.optr r 0) = some fv := by rw [vload_obj h1 GFS]; rfl
  have lo : vload Try.prog σ.objs 4 (.optr r 2) = some (.bool d.on) := by rw [vload_obj h1 G4]; rfl
  cases hon : d.on with
  | false =>
    rw [hon] at lo
    have e : offD k d = d := by simp [offD, hon]
    simp only [k44_a, WK, vop, evAll, evOpt, evParts, vbuiltin, vun, vextract, Nat.reduceLT, Nat.reduceEqDiff, ↓reduceIte, reduceCtorEq, Nat.reduceAdd, Int.reduceLT, Int.reduceNeg, valloc_std, noSB, vhot, List.getD_cons_zero, List.getD_cons_succ, rFA r 2 (by omega), lo, Bool.not_false, e]
    exact RNext.refl h
  | true =>
    rw [hon] at lo
    have eO : offD k d = { d with files := d.files.map (offF k), on := false, armed := 0 } := by simp [offD, hon]
    simp only [k44_a, WK, vop, evAll, evOpt, evParts, vbuiltin, vun, vextract, Nat.reduceLT, Nat.reduceEqDiff, ↓reduceIte, reduceCtorEq, Nat.reduceAdd, Int.reduceLT, Int.reduceNeg, valloc_std, noSB, vhot, List.getD_cons_zero, List.getD_cons_succ, rFA r 2 (by omega), rFA r 0 (by omega), lo, lf, h2.len, Bool.not_true]
    have hsm : ∀ x ∈ rs, x.f.safe.length + x.f.wait.length ≤ 1048576 := fun x hx => hok.sm x.f (by rw [← h.fl]; exact List.mem_map_of_mem hx)
    refine Ev.loopF (fun (i : Nat) e s => ∃ ps : List RE, e 17 = .int .i64 (i : Nat) ∧ i ≤ rs.length ∧ KS q.toList σ s ∧ ps.length = i ∧ ps.map RE.f = ((rs.take i).map RE.f).map (offF k) ∧ (∀ x ∈ ps, x.Ok) ∧ RRow s.objs fv q (ps ++ rs.drop i)) (fun i => rs.length - i) 0 ⟨[], by simp [upd_some], Nat.zero_le _, KS.refl _ _, rfl, rfl, fun x hx => (by cases hx), by simpa using h2⟩ ?_
    rintro i e s ⟨ps, h17, hi, hk, hpl, hpm, hpo, hR⟩ hf
    have h0 : e 0 = .optr r 0 := (hf 0 (by decide)).trans (by simp [upd_some])
    have hk1 : e 1 = .int .i64 k := (hf 1 (by decide)).trans (by simp [upd_some])
    have h16 : e 16 = .int .i64 (rs.length : Nat) := (hf 16 (by decide)).trans (by simp [upd_some])
    clear hf
    have hro : ∀ t : St, KS q.toList σ t → t.objs[r]? = some (.cells [fv, .int .i64 d.room, .bool d.on, .int .i64 (d.writes : Nat), .int .i64 (d.armed : Nat), .int .i64 d.keep]) := fun t ht => ht.ko _ _ h.ne h1
    have lf2 : ∀ t : St, KS q.toList σ t → vload Try.prog t.objs 69 (.optr r 0) = some fv := fun t ht => by rw [vload_obj (hro t ht) GFS]; rfl
    by_cases hlt : i < rs.length
    · have hlt' : (i : Int) < rs.length := by omega
      have hwi : IntKind.i64.wrap ((i : Int) + 1) = ((i + 1 : Nat) : Int) := by rw [show ((i : Int) + 1) = ((i + 1 : Nat) : Int) from by omega]; exact wrap_nat (by omega)
      have hil : i < (ps ++ rs.drop i).length := by rw [List.length_append, List.length_drop]; omega
      obtain ⟨ro, hq, _, ha, hl⟩ := hR.at hil
      obtain ⟨g, hg⟩ : ∃ g, g = rs[i] := ⟨_, rfl⟩
      have hgi : (ps ++ rs.drop i)[i] = g := by
        rw [List.getElem_append_right (by omega)]
        simp [hpl, hg]
      rw [hgi] at hl
      have hgo := h.ok rs[i] (List.getElem_mem hlt)
      have hgs := hsm rs[i] (List.getElem_mem hlt)
      rw [← hg] at hgo hgs
      obtain ⟨s1, hs1⟩ : ∃ s1 : St, s1 = ⟨s.objs ++ [.cells g.cells], s.toks⟩ := ⟨_, rfl⟩
      have hst := fileNew (σ := s) hgo
      rw [← hs1] at hst
      have K1 : KS [] s s1 := by rw [hs1]; exact KS.push _ _ _
      have L1 : s1.objs.length = s.objs.length + 1 := by rw [hs1]; simp
      have ho : s1.objs[s.objs.length]? = some (.cells g.cells) := by rw [hs1]; exact push_new _ _
      have hz : vcells (V.agg [.str [], .nils, .nils]) = [.str [], .nils, .nils] := rfl
      have kN : KS q.toList σ s1 := hk.trans K1 fun x hx => by cases hx
      have hqlt : ∀ z ∈ q.toList, z < s.objs.length := hR.lt
      simp only [k44_a, WK, vop, evAll, evOpt, evParts, vbuiltin, vun, vextract, Nat.reduceLT, Nat.reduceEqDiff, ↓reduceIte, reduceCtorEq, Nat.reduceAdd, Int.reduceLT, Int.reduceNeg, valloc_std, noSB, vhot, h0, h17, h16, hlt', decide_true, rFA r 0 (by omega), lf2 s hk, ha, hl, ZFi, vbox, hz, hst]
      refine Ev.loopF (fun (j : Nat) e2 t => ∃ sv, e2 6 = .int .i64 (j : Nat) ∧ j ≤ min k.toNat g.f.wait.length ∧ KS [] s1 ⟨t.objs.set s.objs.length (.cells g.cells), t.toks⟩ ∧ t.objs[s.objs.length]? = some (.cells [.str g.f.name, sv, g.w]) ∧ BtsV sv (g.f.safe ++ g.f.wait.take j)) (fun j => min k.toNat g.f.wait.length - j) 0 ⟨g.s, by simp [upd_some], Nat.zero_le _, ?_, by simpa [RE.cells] using ho, by simpa using hgo.1⟩ ?_
      · have : s1.objs.set s.objs.length (.cells g.cells) = s1.objs := set_self ho
        rw [this]; exact KS.refl _ _
      rintro j e2 t ⟨sv, k6, hj, kt, kb, ksv⟩ hf2
      have k0 : e2 0 = .optr r 0 := (hf2 0 (by decide)).trans (by simp [upd_some, h0])
      have k1 : e2 1 = .int .i64 k := (hf2 1 (by decide)).trans (by simp [upd_some, hk1])
      have k4 : e2 4 = .int .i64 (i : Nat) := (hf2 4 (by decide)).trans (by simp [upd_some])
      have k5 : e2 5 = .optr s.objs.length 0 := (hf2 5 (by decide)).trans (by simp [upd_some])
      have k16 : e2 16 = .int .i64 (rs.length : Nat) := (hf2 16 (by decide)).trans (by simp [upd_some, h16])
      have k17 : e2 17 = .int .i64 (i : Nat) := (hf2 17 (by decide)).trans (by simp [upd_some, h17])
      clear hf2
      have ls : vload Try.prog t.objs 28 (.optr s.objs.length 1) = some sv := by rw [vload_obj kb pGB]; rfl
      have lw : vload Try.prog t.objs 28 (.optr s.objs.length 2) = some g.w := by rw [vload_obj kb pGB]; rfl
      have ln : vload Try.prog t.objs 9 (.optr s.objs.length 0) = some (.str g.f.name) := by rw [vload_obj kb G9]; rfl
      have hlenle : s.objs.length < t.objs.length := (List.getElem?_eq_some_iff.1 kb).1
      have kts : KS [s.objs.length] s1 t := by
        refine ⟨fun p o hp ho => ?_, ?_, kt.tl, kt.tk⟩
        · have := kt.ko p o (by simp) ho
          simp only at this
          rw [List.mem_singleton] at hp
          rwa [List.getElem?_set_ne (Ne.symm hp)] at this
        · have := kt.le; simpa using this
      have kσt : KS q.toList σ t := kN.trans kts fun x hx => .inr (by rw [List.mem_singleton] at hx; have := hk.le; omega)
      have hRt : RRow t.objs fv q (ps ++ rs.drop i) := hR.keep (K1.trans kts fun x hx => .inr (by rw [List.mem_singleton] at hx; omega)) fun x _ => by simp
      by_cases hjw : j < g.f.wait.length ∧ j < k.toNat
      · obtain ⟨hjw1, hjw2⟩ := hjw
        have hc1 : (j : Int) < (g.f.wait.length : Nat) := by omega
        have hc2 : (j : Int) < k := by omega
        have hwj : IntKind.i64.wrap ((j : Int) + 1) = ((j + 1 : Nat) : Int) := by rw [show ((j : Int) + 1) = ((j + 1 : Nat) : Int) from by omega]; exact wrap_nat (by omega)
        obtain ⟨b, hb⟩ : ∃ b, b = g.f.wait[j] := ⟨_, rfl⟩
        obtain ⟨v1, t1, v2, t2, c1, c2, c3, c4, c5, c6, c7, c8⟩ := copy2 (σ := t) (v := sv) (w := .slice .exact 1 [byteV b] 1) (bs := g.f.safe ++ g.f.wait.take j) (ys := [b]) (.inl ksv) (.inl (.inr ⟨_, rfl⟩)) (by simp; omega)
        have lw1 : vload Try.prog t1.objs 28 (.optr s.objs.length 2) = some g.w := by rw [c7]; exact lw
        have ha2 := hgo.2.addr T22 S5 (k := .i64) (n := (j : Int)) (by omega) hc1
        rw [Int.toNat_natCast] at ha2
        have hlb : ∀ O : List Ob, vload Try.prog O 5 (.eptr (g.f.wait.map byteV) j) = some (.int .u8 (g.f.wait[j].toNat : Nat)) := fun O => BtsV.load (P := Try.prog) (objs := O) G5 hjw1
        have hfb : vbuildSlice Try.prog 28 1 [(0, .int .u8 (g.f.wait[j].toNat : Nat))] = some (.slice .exact 1 [byteV b] 1) := by rw [hb]; exact fb1 _
        have kb2 : t2.objs[s.objs.length]? = some (.cells [.str g.f.name, sv, g.w]) := by rw [c8]; exact kb
        obtain ⟨t3, ht3⟩ : ∃ t3 : St, t3 = ⟨t2.objs.set s.objs.length (.cells [.str g.f.name, v2, g.w]), t2.toks⟩ := ⟨_, rfl⟩
        have hs3 : vstore Try.prog t2 28 (.optr s.objs.length 1) v2 = some t3 := by rw [vstore_obj kb2 SBB c4.one (by simp), ht3]; rfl
        simp only [k44_a, WK, vop, evAll, evOpt, evParts, vbuiltin, vun, vextract, Nat.reduceLT, Nat.reduceEqDiff, ↓reduceIte, reduceCtorEq, Nat.reduceAdd, Int.reduceLT, Int.reduceNeg, valloc_std, noSB, vhot, k6, k5, k1, fFA2, fFA1, Nat.zero_add, lw, hgo.2.len T22, hc1, hc2, decide_true, fb0, ls, c1, lw1, ha2, hlb, hfb, c2, hs3, hwj]
        refine ⟨j + 1, ⟨v2, by simp [upd_some], by omega, ⟨fun p o hp ho => ?_, ?_, ?_, ?_⟩, by rw [ht3]; exact obj_set kb2, ?_⟩, by omega⟩
        · have := kt.ko p o hp ho
          rw [ht3]
          simp only [List.set_set, c8] at this ⊢
          exact this
        · have := kt.le
          rw [ht3]; simp only [List.length_set, c8] at this ⊢; exact this
        · rw [ht3]; exact Nat.le_trans kt.tl c6.tl
        · intro z hz; rw [ht3]; exact c6.tk z (kt.tk z hz)
        · rw [List.take_succ_eq_append_getElem hjw1, ← List.append_assoc, ← hb]; exact c4
      · have htake : g.f.wait.take j = g.f.wait.take k.toNat := by
          have hm : j = min k.toNat g.f.wait.length := by omega
          rw [hm, ← List.take_take, List.take_length]
        rw [htake] at ksv
        obtain ⟨y, hy⟩ : ∃ y : RE, y = ⟨⟨g.f.name, g.f.safe ++ g.f.wait.take k.toNat, []⟩, sv, .nils⟩ := ⟨_, rfl⟩
        have hyo : y.Ok := by rw [hy]; exact ⟨ksv, .inl ⟨rfl, rfl⟩⟩
        have hyc : y.cells = [.str g.f.name, sv, .nils] := by rw [hy]; rfl
        obtain ⟨ro2, t4, hq2, ha3, hs4, hR4, K4, L4⟩ := hRt.set hil hyo
        rw [hyc] at hs4
        have hps : (ps ++ rs.drop i).set i y = (ps ++ [y]) ++ rs.drop (i + 1) := by
          rw [List.set_append_right _ _ (by omega), hpl, Nat.sub_self, List.drop_eq_getElem_cons hlt, List.set_cons_zero, List.append_assoc]
          rfl
        rw [hps] at hR4
        have fin : ∃ ps' : List RE, KS q.toList σ t4 ∧ ps'.length = i + 1 ∧ ps'.map RE.f = ((rs.take (i + 1)).map RE.f).map (offF k) ∧ (∀ x ∈ ps', x.Ok) ∧ RRow t4.objs fv q (ps' ++ rs.drop (i + 1)) := by
          refine ⟨ps ++ [y], kσt.trans' K4, by simp [hpl], ?_, fun x hx => ?_, hR4⟩
          · rw [List.take_succ_eq_append_getElem hlt, List.map_append, List.map_append, List.map_append, hpm, ← hg, hy]
            rfl
          · rcases List.mem_append.1 hx with h | h
            · exact hpo x h
            · rw [List.mem_singleton] at h; subst h; exact hyo
        obtain ⟨ps', m1, m2, m3, m4, m5⟩ := fin
        have hbl := vfile2 g.f.name sv ksv.one
        by_cases hjw1 : j < g.f.wait.length
        · have hc1 : (j : Int) < (g.f.wait.length : Nat) := by omega
          have hc2 : ¬ (j : Int) < k := by omega
          simp only [k44_a, WK, vop, evAll, evOpt, evParts, vbuiltin, vun, vextract, Nat.reduceLT, Nat.reduceEqDiff, ↓reduceIte, reduceCtorEq, Nat.reduceAdd, Int.reduceLT, Int.reduceNeg, valloc_std, noSB, vhot, k6, k5, k4, k1, k0, k16, k17, fFA2, fFA1, fFA0, Nat.zero_add, lw, ls, ln, hgo.2.len T22, hc1, hc2, decide_true, decide_false, rFA r 0 (by omega), lf2 t kσt, hbl, ha3, hs4, hwi]
          exact ⟨i + 1, ⟨ps', by simp [upd_some], by omega, m1, m2, m3, m4, m5⟩, by omega⟩
        · have hc1 : ¬ (j : Int) < (g.f.wait.length : Nat) := by omega
          simp only [k44_a, WK, vop, evAll, evOpt, evParts, vbuiltin, vun, vextract, Nat.reduceLT, Nat.reduceEqDiff, ↓reduceIte, reduceCtorEq, Nat.reduceAdd, Int.reduceLT, Int.reduceNeg, valloc_std, noSB, vhot, k6, k5, k4, k1, k0, k16, k17, fFA2, fFA1, fFA0, Nat.zero_add, lw, ls, ln, hgo.2.len T22, hc1, decide_true, decide_false, rFA r 0 (by omega), lf2 t kσt, hbl, ha3, hs4, hwi]
          exact ⟨i + 1, ⟨ps', by simp [upd_some], by omega, m1, m2, m3, m4, m5⟩, by omega⟩
    · have hlt' : ¬ (i : Int) < rs.length := by omega
      have hall : rs.take i = rs := List.take_of_length_le (by omega)
      have hdr : rs.drop i = [] := List.drop_of_length_le (by omega)
      rw [hall] at hpm
      rw [hdr, List.append_nil] at hR
      have o := hro s hk
      obtain ⟨s1, hs1⟩ : ∃ s1 : St, s1 = ⟨s.objs.set r (.cells [fv, .int .i64 d.room, .bool false, .int .i64 (d.writes : Nat), .int .i64 (d.armed : Nat), .int .i64 d.keep]), s.toks⟩ := ⟨_, rfl⟩
      have st1 : vstore Try.prog s 4 (.optr r 2) (.bool false) = some s1 := by rw [vstore_obj o S4 rfl (by simp), hs1]; rfl
      have o1 : s1.objs[r]? = some (.cells [fv, .int .i64 d.room, .bool false, .int .i64 (d.writes : Nat), .int .i64 (d.armed : Nat), .int .i64 d.keep]) := by rw [hs1]; exact obj_set o
      obtain ⟨s2, hs2⟩ : ∃ s2 : St, s2 = ⟨s1.objs.set r (.cells [fv, .int .i64 d.room, .bool false, .int .i64 (d.writes : Nat), .int .i64 0, .int .i64 d.keep]), s1.toks⟩ := ⟨_, rfl⟩
      have st2 : vstore Try.prog s1 3 (.optr r 4) (.int .i64 0) = some s2 := by rw [vstore_obj o1 S3 rfl (by simp), hs2]; rfl
      have K1 : KS [r] s s1 := by rw [hs1]; exact KS.set (.inl (by simp)) _
      have K2 : KS [r] s1 s2 := by rw [hs2]; exact KS.set (.inl (by simp)) _
      have hrq : ∀ z ∈ q.toList, z ∉ [r] := fun z hz hz2 => h.ne (by rw [List.mem_singleton] at hz2; rw [← hz2]; exact hz)
      simp only [k44_a, WK, vop, evAll, evOpt, evParts, vbuiltin, vun, vextract, Nat.reduceLT, Nat.reduceEqDiff, ↓reduceIte, reduceCtorEq, Nat.reduceAdd, Int.reduceLT, Int.reduceNeg, valloc_std, noSB, vhot, h0, h17, h16, hlt', decide_false, rFA r 2 (by omega), rFA r 4 (by omega), st1, st2, eO]
      refine ⟨q, ps, ⟨⟨fv, by rw [hs2]; exact obj_set o1, (hR.keep K1 hrq).keep K2 hrq⟩, hpo, ?_, h.ne⟩, ?_, fun x hx => .inl hx⟩
      · simp only
        rw [hpm, h.fl]
      · refine (hk.mono fun x hx => .inl (List.mem_cons_of_mem _ hx)).trans' ((K1.trans' K2).mono fun x hx => .inl (by rw [List.mem_singleton] at hx; subst hx; simp))
end Go.Proofs.Ytnbmfhnfmhgaaaa.Q

/- The document's disk: its calls. -/
set_option linter.unusedVariables false
set_option linter.unusedSimpArgs false
set_option maxRecDepth 100000
namespace Go.Proofs.Ytnbmfhnfmhgaaaa.Q
open Go Go.RowKit Go.Proofs
theorem rnew_does (σ : St) (n : Int) : ∃ σ', Does Try.prog prims 19 [.int .i64 n] σ (.ret (.optr σ.objs.length 0)) σ' ∧ RefAt σ' σ.objs.length (newD n) none [] ∧ KS [] σ σ' := by
  have key : ∃ p σ', Does Try.prog prims 19 [.int .i64 n] σ p σ' ∧ (p = .ret (.optr σ.objs.length 0) ∧ RefAt σ' σ.objs.length (newD n) none [] ∧ KS [] σ σ') := by
    apply k19_is.does (by simp)
    have hb : vbuild Try.prog 71 [(1, .int .i64 n), (2, .bool true)] = some (.agg [.nils, .int .i64 n, .bool true, .int .i64 0, .int .i64 0, .int .i64 0]) := by kernel_rfl
    simp only [k19_a, WK, vop, evAll, evOpt, evParts, vbuiltin, vun, vextract, Nat.reduceLT, Nat.reduceEqDiff, ↓reduceIte, reduceCtorEq, Nat.reduceAdd, Int.reduceLT, Int.reduceNeg, valloc_std, noSB, vhot, List.getD_cons_zero, List.getD_cons_succ, ofNilP, hb, vbox, vcells]
    exact ⟨⟨⟨.nils, push_new _ _, .inl ⟨rfl, rfl, rfl⟩⟩, fun x hx => (by cases hx), rfl, by simp⟩, KS.push _ _ _⟩
  obtain ⟨p, σ', h1, rfl, h2⟩ := key
  exact ⟨σ', h1, h2⟩
theorem RefAt.get_no {σ : St} {r : Nat} {d : Dk} {q : Option Nat} {rs : List RE} (h : RefAt σ r d q rs) {n : List UInt8} (hn : ∀ x ∈ rs, x.f.name ≠ n) : getF d.files n = none := by
  rw [← h.fl]
  unfold getF
  rw [List.find?_eq_none]
  intro f hf
  obtain ⟨x, hx, rfl⟩ := List.mem_map.1 hf
  simp [hn x hx]
theorem RefAt.get_yes {σ : St} {r : Nat} {d : Dk} {q : Option Nat} {rs : List RE} (h : RefAt σ r d q rs) (hok : d.Ok) {n : List UInt8} {i : Nat} (hi : i < rs.length) (hn : rs[i].f.name = n) : getF d.files n = some rs[i].f := by
  rw [← hn]
  exact getF_mem hok.nodup (by rw [← h.fl]; exact List.mem_map_of_mem (List.getElem_mem hi))
theorem RefAt.few {σ : St} {r : Nat} {d : Dk} {q : Option Nat} {rs : List RE} (h : RefAt σ r d q rs) (hok : d.Ok) : rs.length ≤ 16 ∧ rs.length = d.files.length := by
  have h1 := congrArg List.length h.fl
  have h2 := hok.few
  rw [List.length_map] at h1
  omega
theorem rput_does {σ : St} {r : Nat} {d : Dk} {q : Option Nat} {rs : List RE} {x : RE} (h : RefAt σ r d q rs) (hok : d.Ok) (hx : x.Ok) : ∃ σ', Does Try.prog prims 54 [.optr r 0, .agg x.cells] σ (.ret (.tuple [])) σ' ∧ RNext σ r q σ' { d with files := putF x.f d.files } := by
  obtain ⟨p, σ', h1, rfl, h2⟩ := put_does' h hok hx
  exact ⟨σ', h1, h2⟩
theorem rdrop_does {σ : St} {r : Nat} {d : Dk} {q : Option Nat} {rs : List RE} {n : List UInt8} (h : RefAt σ r d q rs) (hok : d.Ok) : ∃ σ', Does Try.prog prims 56 [.optr r 0, .str n] σ (.ret (.tuple [])) σ' ∧ RNext σ r q σ' { d with files := dropF n d.files } := by
  obtain ⟨p, σ', h1, rfl, h2⟩ := drop_does' (n := n) h hok
  exact ⟨σ', h1, h2⟩
theorem roff_does' {σ : St} {r : Nat} {d : Dk} {q : Option Nat} {rs : List RE} (k : Int) (h : RefAt σ r d q rs) (hok : d.Ok) : ∃ σ', Does Try.prog prims 44 [.optr r 0, .int .i64 k] σ (.ret (.tuple [])) σ' ∧ RNext σ r q σ' (offD k d) := by
  obtain ⟨p, σ', h1, rfl, h2⟩ := roff_does (k := k) h hok
  exact ⟨σ', h1, h2⟩
/-- Behind a raw write. -/
theorem rrawNext {σ : St} {r : Nat} {d : Dk} {q : Option Nat} {rs : List RE} (h : RefAt σ r d q rs) (hok : d.Ok) (hw : d.writes < 4611686018427387904) :
    ∃ σ1, Does Try.prog prims 55 [.optr r 0] σ (.ret (.bool (rawD d).1)) σ1 ∧ RefAt σ1 r (rawD d).2 q rs ∧ KS (r :: q.toList) σ σ1 ∧ vload Try.prog σ1.objs 3 (.optr r 5) = some (.int .i64 d.keep) ∧
      ∃ σ2, Does Try.prog prims 44 [.optr r 0, .int .i64 d.keep] σ1 (.ret (.tuple [])) σ2 ∧ RNext σ r q σ2 (offD d.keep (rawD d).2) := by
  obtain ⟨σ1, h1, h2, h3⟩ := rraw_does h hok hw
  obtain ⟨σ2, h5, h6⟩ := roff_does' d.keep h2 hok.raw
  obtain ⟨fv, g1, g2⟩ := h2.hd
  refine ⟨σ1, h1, h2, h3, by rw [vload_obj g1 G3, (raw_files d).2.1]; rfl, σ2, h5, RNext.trans h3 (fun x hx => .inl hx) h6⟩
theorem rappend_sees {σ : St} {r : Nat} {d : Dk} {q : Option Nat} {rs : List RE} {v : V} {n bs : List UInt8} (h : RefAt σ r d q rs) (hok : d.Ok) (hw : d.writes < 4611686018427387904) (hb : RB σ v bs) (hbl : bs.length ≤ 1000000000) :
    ∃ p σ', Does Try.prog prims 37 [.optr r 0, .str n, v] σ p σ' ∧ (p = .ret (.int .i64 ((appendD n bs d).1 : Nat)) ∧ RNext σ r q σ' (appendD n bs d).2) := by
  apply k37_is.does (by simp)
  simp only [k37_a, WK, vop, evAll, evOpt, evParts, vbuiltin, vun, vextract, Nat.reduceLT, Nat.reduceEqDiff, ↓reduceIte, reduceCtorEq, Nat.reduceAdd, Int.reduceLT, Int.reduceNeg, valloc_std, noSB, vhot, List.getD_cons_zero, List.getD_cons_succ]
  refine KD.ret (rready_does h n) ?_
  by_cases hr : readyD d n = 0
  · have hr' : ((readyD d n : Nat) : Int) = 0 := by omega
    have hn0 : ¬ readyD d n ≠ 0 := fun h => h hr
    have hname := (readyD_named hr).1
    obtain ⟨hfew, hfl⟩ := h.few hok
    have tail : ∀ (e : Nat → V) (s : St) (x : RE) (bx : Nat) (iv : Int), e 0 = .optr r 0 → e 2 = v → e 8 = .int .i64 iv → e 9 = .optr bx 0 → KS [] σ s → s.objs[bx]? = some (.cells x.cells) → σ.objs.length ≤ bx → x.Ok → x.f = (getF d.files n).getD ⟨n, [], []⟩ → x.f.name = n → (iv < 0 ↔ (getF d.files n).isNone = true) →
        Ev Try.prog prims 81 (((CC.region k37_r8).seq (CC.cond (.tmp 40) ((CC.region k37_r9).seq CC.ret) CC.skip)).seq
            ((k37_r10.seq (CC.cond (.tmp 62) ((CC.region k37_r11).seq CC.ret) CC.skip)).seq
              ((CC.region k37_r12).seq
                ((CC.region k37_r13).seq
                  (((CC.region k37_r14).seq
                        (CC.cond (.tmp 74) ((CC.region k37_r15).seq ((CC.region k37_r16).seq CC.ret))
                          CC.skip)).seq
                    ((CC.region k37_r17).seq CC.ret)))))) e s (fnK Try.prog 81 [ResultVar.tmp 6] fun r_1 σ' =>
        r_1 = VRes.ret (V.int IntKind.i64 ((appendD n bs d).1 : Nat)) ∧ RNext σ r q σ' (appendD n bs d).2) := by
      intro e s x bx iv h0 h2 h8 h9 K hob hbx hx hxf hxn hiv
      have Rs : RefAt s r d q rs := h.keep K fun x _ => by simp
      obtain ⟨fv, o, hR⟩ := Rs.hd
      have hbs := hb.ks K fun q hq => by cases hq
      have lfv : vload Try.prog s.objs 69 (.optr r 0) = some fv := by rw [vload_obj o GFS]; rfl
      have lrm : vload Try.prog s.objs 3 (.optr r 1) = some (.int .i64 d.room) := by rw [vload_obj o G3]; rfl
      have ls : vload Try.prog s.objs 28 (.optr bx 1) = some x.s := by rw [vload_obj hob pGB]; rfl
      have lw : vload Try.prog s.objs 28 (.optr bx 2) = some x.w := by rw [vload_obj hob pGB]; rfl
      have hxl : x.f.len ≤ 1048576 := by
        rw [hxf]
        cases hg : getF d.files n with
        | none => simp [Fl.len]
        | some f => exact (hok.get hg).2.2.2
      simp only [Fl.len] at hxl
      have w1 : IntKind.i64.wrap ((x.f.safe.length : Int) + (x.f.wait.length : Nat)) = ((x.f.safe.length + x.f.wait.length : Nat) : Int) := by rw [wrap_i64 (by omega) (by omega)]; omega
      have w2 : IntKind.i64.wrap (((x.f.safe.length + x.f.wait.length : Nat) : Int) + (bs.length : Nat)) = ((x.f.safe.length + x.f.wait.length + bs.length : Nat) : Int) := by rw [wrap_i64 (by omega) (by omega)]; omega
      by_cases hbig : 1048576 < x.f.safe.length + x.f.wait.length + bs.length
      · have hbig' : (1048576 : Int) < ((x.f.safe.length + x.f.wait.length + bs.length : Nat) : Int) := by omega
        have e1 : appendD n bs d = (3, d) := by unfold appendD; rw [if_neg hn0]; simp only; rw [if_pos (by rw [← hxf]; exact hbig)]
        simp only [k37_a, WK, vop, evAll, evOpt, evParts, vbuiltin, vun, vextract, Nat.reduceLT, Nat.reduceEqDiff, ↓reduceIte, reduceCtorEq, Nat.reduceAdd, Int.reduceLT, Int.reduceNeg, valloc_std, noSB, vhot, h9, h2, fFA1, fFA2, Nat.zero_add, ls, lw, hx.1.len T22, hx.2.len T22, hbs.len, w1, w2, hbig', decide_true, e1]
        exact ⟨rfl, RNext.only h K⟩
      · have hbig' : ¬ (1048576 : Int) < ((x.f.safe.length + x.f.wait.length + bs.length : Nat) : Int) := by omega
        have hbig2 : ¬ 1048576 < ((getF d.files n).getD ⟨n, [], []⟩).len + bs.length := by rw [← hxf]; exact hbig
        obtain ⟨p, s2, hsz, rfl, K2⟩ := rsize_does Rs hok
        have Rs2 : RefAt s2 r d q rs := Rs.keep K2 fun x _ => by simp
        have lfv2 : vload Try.prog s2.objs 69 (.optr r 0) = some fv := by rw [vload_obj (K2.ko _ _ (by simp) o) GFS]; rfl
        have lrm2 : vload Try.prog s2.objs 3 (.optr r 1) = some (.int .i64 d.room) := by rw [vload_obj (K2.ko _ _ (by simp) o) G3]; rfl
        have hszl := sizeD_le hok
        have w3 : IntKind.i64.wrap (((sizeD d.files : Nat) : Int) + (bs.length : Nat)) = ((sizeD d.files + bs.length : Nat) : Int) := by rw [wrap_i64 (by omega) (by omega)]; omega
        have efull : ((getF d.files n).isNone = true ∧ 16 ≤ d.files.length) ∨ d.room < ((sizeD d.files + bs.length : Nat) : Int) → appendD n bs d = (22, d) := fun hf => by
          unfold appendD; rw [if_neg hn0]; simp only; rw [if_neg hbig2, if_pos hf]
        -- behind the checks
        have rest : ∀ (e : Nat → V) (s : St), e 0 = .optr r 0 → e 2 = v → e 9 = .optr bx 0 → KS [] σ s → s.objs[bx]? = some (.cells x.cells) → (¬ (((getF d.files n).isNone = true ∧ 16 ≤ d.files.length) ∨ d.room < ((sizeD d.files + bs.length : Nat) : Int))) →
            Ev Try.prog prims 81 ((CC.region k37_r12).seq
                ((CC.region k37_r13).seq
                  (((CC.region k37_r14).seq
                        (CC.cond (.tmp 74) ((CC.region k37_r15).seq ((CC.region k37_r16).seq CC.ret))
                          CC.skip)).seq
                    ((CC.region k37_r17).seq CC.ret)))) e s (fnK Try.prog 81 [ResultVar.tmp 6] fun r_1 σ' =>
        r_1 = VRes.ret (V.int IntKind.i64 ((appendD n bs d).1 : Nat)) ∧ RNext σ r q σ' (appendD n bs d).2) := by
          intro e s h0 h2 h9 K hob hnf
          have Rs : RefAt s r d q rs := h.keep K fun x _ => by simp
          have hbs := hb.ks K fun q hq => by cases hq
          have lw : vload Try.prog s.objs 28 (.optr bx 2) = some x.w := by rw [vload_obj hob pGB]; rfl
          obtain ⟨v1, t1, v2, t2, c1, c2, c3, c4, c5, c6, c7, c8⟩ := copy2 (σ := s) (v := x.w) (w := v) (.inl hx.2) hbs (by omega)
          have hob2 : t2.objs[bx]? = some (.cells x.cells) := by rw [c8]; exact hob
          obtain ⟨y, hy⟩ : ∃ y : RE, y = ⟨⟨n, x.f.safe, x.f.wait ++ bs⟩, x.s, v2⟩ := ⟨_, rfl⟩
          have hyo : y.Ok := by rw [hy]; exact ⟨hx.1, c4⟩
          obtain ⟨t3, ht3⟩ : ∃ t3 : St, t3 = ⟨t2.objs.set bx (.cells y.cells), t2.toks⟩ := ⟨_, rfl⟩
          have hs3 : vstore Try.prog t2 28 (.optr bx 2) v2 = some t3 := by
            rw [vstore_obj hob2 SBB c4.one (by simp [RE.cells]), ht3, hy]
            simp only [RE.cells, hxn]
            rfl
          have ob3 : t3.objs[bx]? = some (.cells y.cells) := by rw [ht3]; exact obj_set hob2
          have ay : vload Try.prog t3.objs 77 (.optr bx 0) = some (.agg y.cells) := vload_agg ob3 GFi (by rw [SFi]; rfl)
          have K3 : KS [] σ t3 := (K.trans' c6).trans (KS.set (S := [bx]) (.inl (by simp)) _ : KS [bx] t2 ⟨t2.objs.set bx (.cells y.cells), t2.toks⟩) (fun x hx => .inr (by rw [List.mem_singleton] at hx; omega)) |> fun k => by rw [ht3]; exact k
          have R3 : RefAt t3 r d q rs := h.keep K3 fun x _ => by simp
          obtain ⟨t4, hput, q4, rs4, R4, K4, I4⟩ := rput_does R3 hok hyo
          obtain ⟨d2, hd2⟩ : ∃ d2 : Dk, d2 = { d with files := putF y.f d.files } := ⟨_, rfl⟩
          rw [← hd2] at R4
          have ok2 : d2.Ok := by
            rw [hd2]
            refine hok.put (by rw [hy]; exact hname) (by rw [hy]; simp only [Fl.len, List.length_append]; omega) fun hno => ?_
            have hno' : (getF d.files n).isNone = true := by rw [hy] at hno; exact hno
            have : ¬ 16 ≤ d.files.length := fun h => hnf (.inl ⟨hno', h⟩)
            omega
          obtain ⟨t5, r1, R5, K5, lk, t6, r5, r6⟩ := rrawNext R4 ok2 (by rw [hd2]; exact hw)
          have hkp : d2.keep = d.keep := by rw [hd2]
          have ed : appendD n bs d = if (rawD d2).1 = true then (20, offD d.keep (rawD d2).2) else (0, (rawD d2).2) := by
            unfold appendD; rw [if_neg hn0]; simp only; rw [if_neg hbig2, if_neg hnf, ← hxf, hd2, hy]
          have toσ : ∀ (u : St) (d' : Dk), RNext t4 r q4 u d' → RNext σ r q u d' := fun u d' hN =>
            RNext.trans ((K3.mono fun x hx => by cases hx).trans' K4) (fun z hz => by
              have := K3.le
              rcases I4 z hz with h | h
              · exact .inl h
              · exact .inr (by omega)) hN
          rw [ed]
          simp only [k37_a, WK, vop, evAll, evOpt, evParts, vbuiltin, vun, vextract, Nat.reduceLT, Nat.reduceEqDiff, ↓reduceIte, reduceCtorEq, Nat.reduceAdd, Int.reduceLT, Int.reduceNeg, valloc_std, noSB, vhot, h9, h2, h0, fb0, fFA2, Nat.zero_add, lw, c1, c2, hs3, ay]
          refine KD.ret hput ?_
          simp only [k37_a, WK, vop, evAll, evOpt, evParts, vbuiltin, vun, vextract, Nat.reduceLT, Nat.reduceEqDiff, ↓reduceIte, reduceCtorEq, Nat.reduceAdd, Int.reduceLT, Int.reduceNeg, valloc_std, noSB, vhot, h0]
          refine KD.ret r1 ?_
          cases hgo : (rawD d2).1 with
          | true =>
            simp only [k37_a, WK, vop, evAll, evOpt, evParts, vbuiltin, vun, vextract, Nat.reduceLT, Nat.reduceEqDiff, ↓reduceIte, reduceCtorEq, Nat.reduceAdd, Int.reduceLT, Int.reduceNeg, valloc_std, noSB, vhot, h0, rFA r 5 (by omega), lk]
            refine KD.ret r5 ?_
            simp only [k37_a, WK, vop, evAll, evOpt, evParts, vbuiltin, vun, vextract, Nat.reduceLT, Nat.reduceEqDiff, ↓reduceIte, reduceCtorEq, Nat.reduceAdd, Int.reduceLT, Int.reduceNeg, valloc_std, noSB, vhot, if_true]
            rw [hkp] at r6
            exact ⟨rfl, toσ _ _ r6⟩
          | false =>
            simp only [k37_a, WK, vop, evAll, evOpt, evParts, vbuiltin, vun, vextract, Nat.reduceLT, Nat.reduceEqDiff, ↓reduceIte, reduceCtorEq, Nat.reduceAdd, Int.reduceLT, Int.reduceNeg, valloc_std, noSB, vhot, h0, Bool.false_eq_true, if_false]
            exact ⟨rfl, toσ _ _ ⟨q4, rs4, R5, K5, fun x hx => .inl hx⟩⟩
        generalize hC : CC.seq (CC.region k37_r12) _ = C12
        by_cases hneg : iv < 0
        · have hno := hiv.1 hneg
          by_cases hmany : 16 ≤ d.files.length
          · have hmany' : (16 : Int) ≤ (rs.length : Nat) := by omega
            simp only [k37_a, WK, vop, evAll, evOpt, evParts, vbuiltin, vun, vextract, Nat.reduceLT, Nat.reduceEqDiff, ↓reduceIte, reduceCtorEq, Nat.reduceAdd, Int.reduceLT, Int.reduceNeg, valloc_std, noSB, vhot, h9, h8, h2, h0, fFA1, fFA2, Nat.zero_add, ls, lw, hx.1.len T22, hx.2.len T22, hbs.len, w1, w2, hbig', decide_false, hneg, decide_true, rFA r 0 (by omega), lfv, hR.len, hmany', efull (.inl ⟨hno, hmany⟩)]
            exact ⟨fun h => (by simp [wantC, upd_some] at h), rfl, RNext.only h K⟩
          · have hmany' : ¬ (16 : Int) ≤ (rs.length : Nat) := by omega
            simp only [k37_a, WK, vop, evAll, evOpt, evParts, vbuiltin, vun, vextract, Nat.reduceLT, Nat.reduceEqDiff, ↓reduceIte, reduceCtorEq, Nat.reduceAdd, Int.reduceLT, Int.reduceNeg, valloc_std, noSB, vhot, h9, h8, h2, h0, fFA1, fFA2, Nat.zero_add, ls, lw, hx.1.len T22, hx.2.len T22, hbs.len, w1, w2, hbig', decide_false, hneg, decide_true, rFA r 0 (by omega), lfv, hR.len, hmany']
            refine KD.ret hsz ?_
            by_cases hfull : d.room < ((sizeD d.files + bs.length : Nat) : Int)
            · simp only [k37_a, WK, vop, evAll, evOpt, evParts, vbuiltin, vun, vextract, Nat.reduceLT, Nat.reduceEqDiff, ↓reduceIte, reduceCtorEq, Nat.reduceAdd, Int.reduceLT, Int.reduceNeg, valloc_std, noSB, vhot, h9, h8, h2, h0, hbs.len, rFA r 0 (by omega), rFA r 1 (by omega), lrm, lrm2, lfv, lfv2, hR.len, w3, hfull, decide_true, efull (.inr hfull)]
              exact ⟨rfl, RNext.only h (K.trans' K2)⟩
            · simp only [k37_a, WK, vop, evAll, evOpt, evParts, vbuiltin, vun, vextract, Nat.reduceLT, Nat.reduceEqDiff, ↓reduceIte, reduceCtorEq, Nat.reduceAdd, Int.reduceLT, Int.reduceNeg, valloc_std, noSB, vhot, h9, h8, h2, h0, hbs.len, rFA r 0 (by omega), rFA r 1 (by omega), lrm, lrm2, lfv, lfv2, hR.len, w3, hfull, decide_false]
              rw [← hC]
              exact rest _ _ (by simp [upd_some, h0]) (by simp [upd_some, h2]) (by simp [upd_some, h9]) (K.trans' K2) (K2.ko _ _ (by simp) hob) (fun h => h.elim (fun h => hmany h.2) hfull)
        · have hno : ¬ (getF d.files n).isNone = true := fun h => hneg (hiv.2 h)
          simp only [k37_a, WK, vop, evAll, evOpt, evParts, vbuiltin, vun, vextract, Nat.reduceLT, Nat.reduceEqDiff, ↓reduceIte, reduceCtorEq, Nat.reduceAdd, Int.reduceLT, Int.reduceNeg, valloc_std, noSB, vhot, h9, h8, h2, h0, fFA1, fFA2, Nat.zero_add, ls, lw, hx.1.len T22, hx.2.len T22, hbs.len, w1, w2, hbig', decide_false, hneg, decide_true, rFA r 0 (by omega), lfv, hR.len]
          refine KD.ret hsz ?_
          by_cases hfull : d.room < ((sizeD d.files + bs.length : Nat) : Int)
          · simp only [k37_a, WK, vop, evAll, evOpt, evParts, vbuiltin, vun, vextract, Nat.reduceLT, Nat.reduceEqDiff, ↓reduceIte, reduceCtorEq, Nat.reduceAdd, Int.reduceLT, Int.reduceNeg, valloc_std, noSB, vhot, h9, h8, h2, h0, hbs.len, rFA r 0 (by omega), rFA r 1 (by omega), lrm, lrm2, lfv, lfv2, hR.len, w3, hfull, decide_true, efull (.inr hfull)]
            exact ⟨rfl, RNext.only h (K.trans' K2)⟩
          · simp only [k37_a, WK, vop, evAll, evOpt, evParts, vbuiltin, vun, vextract, Nat.reduceLT, Nat.reduceEqDiff, ↓reduceIte, reduceCtorEq, Nat.reduceAdd, Int.reduceLT, Int.reduceNeg, valloc_std, noSB, vhot, h9, h8, h2, h0, hbs.len, rFA r 0 (by omega), rFA r 1 (by omega), lrm, lrm2, lfv, lfv2, hR.len, w3, hfull, decide_false]
            rw [← hC]
            exact rest _ _ (by simp [upd_some, h0]) (by simp [upd_some, h2]) (by simp [upd_some, h9]) (K.trans' K2) (K2.ko _ _ (by simp) hob) (fun h => h.elim (fun h => hno h.1) hfull)
    simp only [k37_a, WK, vop, evAll, evOpt, evParts, vbuiltin, vun, vextract, Nat.reduceLT, Nat.reduceEqDiff, ↓reduceIte, reduceCtorEq, Nat.reduceAdd, Int.reduceLT, Int.reduceNeg, valloc_std, noSB, vhot, hr']
    obtain ⟨p, σ1, ha, K1, hp⟩ := rat_does h (by omega) n
    have R1 : RefAt σ1 r d q rs := h.keep K1 fun x _ => by simp
    obtain ⟨fv, o1, hR1⟩ := R1.hd
    have hbf : vbuild Try.prog 77 [(0, .str n)] = some (.agg [.str n, .nils, .nils]) := by kernel_rfl
    have hz : vcells (V.agg [.str [], .nils, .nils]) = [.str [], .nils, .nils] := rfl
    have hx0 : (⟨⟨n, [], []⟩, .nils, .nils⟩ : RE).Ok := ⟨.inl ⟨rfl, rfl⟩, .inl ⟨rfl, rfl⟩⟩
    obtain ⟨s1, hs1⟩ : ∃ s1 : St, s1 = ⟨σ1.objs ++ [.cells [.str n, .nils, .nils]], σ1.toks⟩ := ⟨_, rfl⟩
    have hst := fileNew (σ := σ1) hx0
    simp only [RE.cells] at hst
    rw [← hs1] at hst
    have Ks : KS [] σ1 s1 := by rw [hs1]; exact KS.push _ _ _
    have ob1 : s1.objs[σ1.objs.length]? = some (.cells [.str n, .nils, .nils]) := by rw [hs1]; exact push_new _ _
    generalize hC8 : CC.seq (CC.seq (CC.region k37_r8) _) _ = C8
    rcases hp with ⟨rfl, hno⟩ | ⟨i, hi, rfl, hnm⟩
    · have hg := h.get_no hno
      refine KD.ret ha ?_
      have hneg : ¬ (0 : Int) ≤ -1 := by decide
      simp only [k37_a, WK, vop, evAll, evOpt, evParts, vbuiltin, vun, vextract, Nat.reduceLT, Nat.reduceEqDiff, ↓reduceIte, reduceCtorEq, Nat.reduceAdd, Int.reduceLT, Int.reduceNeg, valloc_std, noSB, vhot, hbf, ZFi, vbox, hz, hst, hneg, decide_false]
      rw [← hC8]
      exact tail _ s1 ⟨⟨n, [], []⟩, .nils, .nils⟩ σ1.objs.length (-1) (by simp [upd_some]) (by simp [upd_some]) (by simp [upd_some]) (by simp [upd_some]) (K1.trans' Ks) ob1 K1.le hx0 (by rw [hg]; rfl) rfl (by rw [hg]; simp)
    · have hg := h.get_yes hok hi hnm
      refine KD.ret ha ?_
      have hpos : (0 : Int) ≤ (i : Nat) := by omega
      have hgo := h.ok rs[i] (List.getElem_mem hi)
      obtain ⟨ro, hq, _, hai, hli⟩ := (hR1.keep Ks fun x _ => by simp).at hi
      obtain ⟨s2, hs2⟩ : ∃ s2 : St, s2 = ⟨s1.objs.set σ1.objs.length (.cells rs[i].cells), s1.toks⟩ := ⟨_, rfl⟩
      have hst2 : vstore Try.prog s1 77 (.optr σ1.objs.length 0) (.agg rs[i].cells) = some s2 := by
        rw [vstore_agg (cs := [.str n, .nils, .nils]) (cs' := rs[i].cells) ob1 (by rw [SFi]; rfl) rfl (RE.one hgo), hs2]
      have K2 : KS [] σ s2 := by
        rw [hs2]
        exact (K1.trans' Ks).trans (KS.set (S := [σ1.objs.length]) (.inl (by simp)) _) fun x hx => .inr (by rw [List.mem_singleton] at hx; have := K1.le; omega)
      have lfv : vload Try.prog s1.objs 69 (.optr r 0) = some fv := by rw [vload_obj (Ks.ko _ _ (by simp) o1) GFS]; rfl
      simp only [k37_a, WK, vop, evAll, evOpt, evParts, vbuiltin, vun, vextract, Nat.reduceLT, Nat.reduceEqDiff, ↓reduceIte, reduceCtorEq, Nat.reduceAdd, Int.reduceLT, Int.reduceNeg, valloc_std, noSB, vhot, hbf, ZFi, vbox, hz, hst, hpos, decide_true, rFA r 0 (by omega), lfv, hai, hli, hst2]
      rw [← hC8]
      exact tail _ s2 rs[i] σ1.objs.length (i : Nat) (by simp [upd_some]) (by simp [upd_some]) (by simp [upd_some]) (by simp [upd_some]) K2 (by rw [hs2]; exact obj_set ob1) K1.le hgo (by rw [hg]; rfl) hnm (by rw [hg]; simp)
  · have hr' : ¬ ((readyD d n : Nat) : Int) = 0 := by omega
    have e : appendD n bs d = (readyD d n, d) := by unfold appendD; rw [if_pos hr]
    simp only [k37_a, WK, vop, evAll, evOpt, evParts, vbuiltin, vun, vextract, Nat.reduceLT, Nat.reduceEqDiff, ↓reduceIte, reduceCtorEq, Nat.reduceAdd, Int.reduceLT, Int.reduceNeg, valloc_std, noSB, vhot, hr', e]
    exact RNext.refl h
end Go.Proofs.Ytnbmfhnfmhgaaaa.Q

/- The document's disk: Sync, Truncate, Rename, Remove, Read, Arm, Names. -/
set_option linter.unusedVariables false
set_option linter.unusedSimpArgs false
set_option maxRecDepth 100000
namespace Go.Proofs.Ytnbmfhnfmhgaaaa.Q
open Go Go.RowKit Go.Proofs
theorem putF_set {l : List Fl} {x : Fl} {i : Nat} (hr : l.Pairwise fun f g => f.name < g.name) (hi : i < l.length) (hn : l[i].name = x.name) : l.set i x = putF x l := by
  have hl : l = l.take i ++ l[i] :: l.drop (i + 1) := by rw [← List.drop_eq_getElem_cons hi, List.take_append_drop]
  have hset : l.set i x = l.take i ++ x :: l.drop (i + 1) := by rw [List.set_eq_take_append_cons_drop, if_pos hi]
  have hA : ∀ f ∈ l.take i, f.name < x.name := by
    intro f hf
    obtain ⟨j, hj, rfl⟩ := List.mem_iff_getElem.1 hf
    rw [List.length_take] at hj
    rw [List.getElem_take, ← hn]
    exact List.pairwise_iff_getElem.1 hr j i (by omega) hi (by omega)
  have hB : ∀ f ∈ l.drop (i + 1), x.name < f.name := by
    intro f hf
    obtain ⟨j, hj, rfl⟩ := List.mem_iff_getElem.1 hf
    rw [List.length_drop] at hj
    rw [List.getElem_drop, ← hn]
    exact List.pairwise_iff_getElem.1 hr i (i + 1 + j) hi (by omega) (by omega)
  have a1 : (l.take i).filter (fun f => decide (f.name < x.name)) = l.take i := List.filter_eq_self.2 fun f hf => by simpa using hA f hf
  have a2 : (l.drop (i + 1)).filter (fun f => decide (f.name < x.name)) = [] := List.filter_eq_nil_iff.2 fun f hf h => lt_irrefl' _ (lt_trans' (hB f hf) (by simpa using h))
  have a3 : (l.take i).filter (fun f => decide (x.name < f.name)) = [] := List.filter_eq_nil_iff.2 fun f hf h => lt_irrefl' _ (lt_trans' (hA f hf) (by simpa using h))
  have a4 : (l.drop (i + 1)).filter (fun f => decide (x.name < f.name)) = l.drop (i + 1) := List.filter_eq_self.2 fun f hf => by simpa using hB f hf
  have n1 : ¬ l[i].name < x.name := by rw [hn]; exact lt_irrefl' _
  have n2 : ¬ x.name < l[i].name := by rw [hn]; exact lt_irrefl' _
  have h1 : l.filter (fun f => decide (f.name < x.name)) = l.take i := by
    have : l.filter (fun f => decide (f.name < x.name)) = (l.take i ++ l[i] :: l.drop (i + 1)).filter (fun f => decide (f.name < x.name)) := by rw [← hl]
    rw [this, List.filter_append, List.filter_cons, a1, a2, decide_eq_false n1]
    simp
  have h2 : l.filter (fun f => decide (x.name < f.name)) = l.drop (i + 1) := by
    have : l.filter (fun f => decide (x.name < f.name)) = (l.take i ++ l[i] :: l.drop (i + 1)).filter (fun f => decide (x.name < f.name)) := by rw [← hl]
    rw [this, List.filter_append, List.filter_cons, a3, a4, decide_eq_false n2]
    simp
  rw [hset, putF, h1, h2]
/-- A file of the row is put anew. -/
theorem RefAt.set {σ : St} {r : Nat} {d : Dk} {q : Option Nat} {rs : List RE} (h : RefAt σ r d q rs) (hok : d.Ok) {i : Nat} (hi : i < rs.length) {y : RE} (hy : y.Ok) (hn : rs[i].f.name = y.f.name) {fv : V} (hR : RRow σ.objs fv q rs) :
    ∃ ro σ', vindexAddr Try.prog 69 fv (.int .i64 (i : Int)) = some (.optr ro (i * 3)) ∧ vstore Try.prog σ 77 (.optr ro (i * 3)) (.agg y.cells) = some σ' ∧ (∀ fv2, σ.objs[r]? = some (.cells [fv2, .int .i64 d.room, .bool d.on, .int .i64 (d.writes : Nat), .int .i64 (d.armed : Nat), .int .i64 d.keep]) → fv2 = fv → RNext σ r q σ' { d with files := putF y.f d.files }) := by
  obtain ⟨ro, σ', hq, ha, hs, hR2, K2, L2⟩ := hR.set hi hy
  refine ⟨ro, σ', ha, hs, fun fv2 o e => ?_⟩
  subst e
  refine ⟨q, rs.set i y, ⟨⟨fv2, K2.ko _ _ h.ne o, hR2⟩, fun x hx => ?_, ?_, h.ne⟩, K2.mono fun x hx => .inl (List.mem_cons_of_mem _ hx), fun x hx => .inl hx⟩
  · rcases List.mem_or_eq_of_mem_set hx with h1 | h1
    · exact h.ok x h1
    · subst h1; exact hy
  · simp only
    rw [List.map_set, h.fl]
    have hl : i < d.files.length := by rw [← h.fl, List.length_map]; exact hi
    refine putF_set hok.rise hl ?_
    have : d.files[i] = rs[i].f := by simp [← h.fl]
    rw [this, hn]
theorem rsync_sees {σ : St} {r : Nat} {d : Dk} {q : Option Nat} {rs : List RE} {n : List UInt8} (h : RefAt σ r d q rs) (hok : d.Ok) (hw : d.writes < 4611686018427387904) :
    ∃ p σ', Does Try.prog prims 38 [.optr r 0, .str n] σ p σ' ∧ (p = .ret (.int .i64 ((syncD n d).1 : Nat)) ∧ RNext σ r q σ' (syncD n d).2) := by
  apply k38_is.does (by simp)
  simp only [k38_a, WK, vop, evAll, evOpt, evParts, vbuiltin, vun, vextract, Nat.reduceLT, Nat.reduceEqDiff, ↓reduceIte, reduceCtorEq, Nat.reduceAdd, Int.reduceLT, Int.reduceNeg, valloc_std, noSB, vhot, List.getD_cons_zero, List.getD_cons_succ]
  refine KD.ret (rready_does h n) ?_
  by_cases hr : readyD d n = 0
  · have hr' : ((readyD d n : Nat) : Int) = 0 := by omega
    have hn0 : ¬ readyD d n ≠ 0 := fun h => h hr
    obtain ⟨hfew, hfl⟩ := h.few hok
    simp only [k38_a, WK, vop, evAll, evOpt, evParts, vbuiltin, vun, vextract, Nat.reduceLT, Nat.reduceEqDiff, ↓reduceIte, reduceCtorEq, Nat.reduceAdd, Int.reduceLT, Int.reduceNeg, valloc_std, noSB, vhot, hr']
    obtain ⟨p, σ1, ha, K1, hp⟩ := rat_does h (by omega) n
    have R1 : RefAt σ1 r d q rs := h.keep K1 fun x _ => by simp
    rcases hp with ⟨rfl, hno⟩ | ⟨i, hi, rfl, hnm⟩
    · have hg := h.get_no hno
      have ht : thereD d n = 21 := by unfold thereD; rw [if_neg hn0, hg]; rfl
      have e : syncD n d = (21, d) := by unfold syncD; rw [if_pos (by rw [ht]; simp), ht]
      have hneg : (-1 : Int) < 0 := by decide
      refine KD.ret ha ?_
      simp only [k38_a, WK, vop, evAll, evOpt, evParts, vbuiltin, vun, vextract, Nat.reduceLT, Nat.reduceEqDiff, ↓reduceIte, reduceCtorEq, Nat.reduceAdd, Int.reduceLT, Int.reduceNeg, valloc_std, noSB, vhot, hneg, decide_true, e]
      exact ⟨rfl, RNext.only h K1⟩
    · have hg := h.get_yes hok hi hnm
      have ht : thereD d n = 0 := by unfold thereD; rw [if_neg hn0, hg]; rfl
      have hz' : ¬ thereD d n ≠ 0 := fun h => h ht
      have hneg : ¬ ((i : Nat) : Int) < 0 := by omega
      obtain ⟨t5, r1, R5, K5, lk, t6, r5, r6⟩ := rrawNext R1 hok hw
      obtain ⟨f1, f2, f3, f4, f5⟩ := raw_files d
      have toσ : ∀ (u : St) (d' : Dk), RNext σ1 r q u d' → RNext σ r q u d' := fun u d' hN => RNext.trans (K1.mono fun x hx => by cases hx) (fun x hx => .inl hx) hN
      refine KD.ret ha ?_
      simp only [k38_a, WK, vop, evAll, evOpt, evParts, vbuiltin, vun, vextract, Nat.reduceLT, Nat.reduceEqDiff, ↓reduceIte, reduceCtorEq, Nat.reduceAdd, Int.reduceLT, Int.reduceNeg, valloc_std, noSB, vhot, hneg, decide_false]
      refine KD.ret r1 ?_
      cases hgo : (rawD d).1 with
      | true =>
        have e : syncD n d = (20, offD d.keep (rawD d).2) := by unfold syncD; rw [if_neg hz', if_pos hgo]
        simp only [k38_a, WK, vop, evAll, evOpt, evParts, vbuiltin, vun, vextract, Nat.reduceLT, Nat.reduceEqDiff, ↓reduceIte, reduceCtorEq, Nat.reduceAdd, Int.reduceLT, Int.reduceNeg, valloc_std, noSB, vhot, rFA r 5 (by omega), lk]
        refine KD.ret r5 ?_
        simp only [k38_a, WK, vop, evAll, evOpt, evParts, vbuiltin, vun, vextract, Nat.reduceLT, Nat.reduceEqDiff, ↓reduceIte, reduceCtorEq, Nat.reduceAdd, Int.reduceLT, Int.reduceNeg, valloc_std, noSB, vhot, e]
        exact ⟨rfl, toσ _ _ r6⟩
      | false =>
        obtain ⟨fv, o5, hR5⟩ := R5.hd
        have hgo5 := h.ok rs[i] (List.getElem_mem hi)
        have hgl := (hok.get hg).2.2.2
        obtain ⟨g, hgd⟩ : ∃ g, g = rs[i] := ⟨_, rfl⟩
        obtain ⟨ro, hq, _, hai, hli⟩ := hR5.at hi
        rw [← hgd] at hli hgo5 hgl hnm hg
        simp only [Fl.len] at hgl
        have e : syncD n d = (0, { (rawD d).2 with files := putF ⟨n, g.f.safe ++ g.f.wait, []⟩ d.files }) := by
          unfold syncD; rw [if_neg hz', if_neg (by rw [hgo]; simp), hg]; rfl
        obtain ⟨s1, hs1⟩ : ∃ s1 : St, s1 = ⟨t5.objs ++ [.cells g.cells], t5.toks⟩ := ⟨_, rfl⟩
        have hst := fileNew (σ := t5) hgo5
        rw [← hs1] at hst
        have Ks : KS [] t5 s1 := by rw [hs1]; exact KS.push _ _ _
        have ob : s1.objs[t5.objs.length]? = some (.cells g.cells) := by rw [hs1]; exact push_new _ _
        have hz : vcells (V.agg [.str [], .nils, .nils]) = [.str [], .nils, .nils] := rfl
        have ls : vload Try.prog s1.objs 28 (.optr t5.objs.length 1) = some g.s := by rw [vload_obj ob pGB]; rfl
        have lw : vload Try.prog s1.objs 28 (.optr t5.objs.length 2) = some g.w := by rw [vload_obj ob pGB]; rfl
        obtain ⟨v1, t1, v2, t2, c1, c2, c3, c4, c5, c6, c7, c8⟩ := copy2 (σ := s1) (v := g.s) (w := g.w) (.inl hgo5.1) (.inl hgo5.2) (by omega)
        have lw1 : vload Try.prog t1.objs 28 (.optr t5.objs.length 2) = some g.w := by rw [c7]; exact lw
        have K2 : KS [] t5 t2 := Ks.trans' c6
        have R2 : RefAt t2 r (rawD d).2 q rs := R5.keep K2 fun x _ => by simp
        have o2 := K2.ko _ _ (by simp) o5
        have o1 := (Ks.trans' c5).ko _ _ (by simp) o5
        have os := Ks.ko _ _ (by simp) o5
        have lf5 : vload Try.prog t5.objs 69 (.optr r 0) = some fv := by rw [vload_obj o5 GFS]; rfl
        have lfs : vload Try.prog s1.objs 69 (.optr r 0) = some fv := by rw [vload_obj os GFS]; rfl
        have lf2 : vload Try.prog t2.objs 69 (.optr r 0) = some fv := by rw [vload_obj o2 GFS]; rfl
        have lf1 : vload Try.prog t1.objs 69 (.optr r 0) = some fv := by rw [vload_obj o1 GFS]; rfl
        have hyo : (⟨⟨n, g.f.safe ++ g.f.wait, []⟩, v2, .nils⟩ : RE).Ok := ⟨c4, .inl ⟨rfl, rfl⟩⟩
        obtain ⟨ro2, t3, ha3, hs3, hN⟩ := R2.set hok.raw hi hyo (by rw [← hgd]; exact hnm) (hR5.keep K2 fun x _ => by simp)
        have hro : ro2 = ro := by rw [hai] at ha3; injection ha3 with ha3; injection ha3 with e1; exact e1.symm
        subst hro
        have hbl := vfile2 n v2 c4.one
        simp only [RE.cells] at hs3
        simp only [k38_a, WK, vop, evAll, evOpt, evParts, vbuiltin, vun, vextract, Nat.reduceLT, Nat.reduceEqDiff, ↓reduceIte, reduceCtorEq, Nat.reduceAdd, Int.reduceLT, Int.reduceNeg, valloc_std, noSB, vhot, rFA r 0 (by omega), lf5, hai, hli, ZFi, vbox, hz, hst, lfs, fb0, fFA1, fFA2, Nat.zero_add, ls, c1, lw, lw1, lf1, lf2, c2, hbl, hs3, e]
        have := hN fv o2 rfl
        rw [f1] at this
        refine ⟨rfl, toσ _ _ (RNext.trans (K5.trans' (K2.mono fun x hx => by cases hx)) (fun x hx => .inl hx) this)⟩
  · have hr' : ¬ ((readyD d n : Nat) : Int) = 0 := by omega
    have ht : thereD d n = readyD d n := by unfold thereD; rw [if_pos hr]
    have e : syncD n d = (readyD d n, d) := by unfold syncD; rw [ht, if_pos hr]
    simp only [k38_a, WK, vop, evAll, evOpt, evParts, vbuiltin, vun, vextract, Nat.reduceLT, Nat.reduceEqDiff, ↓reduceIte, reduceCtorEq, Nat.reduceAdd, Int.reduceLT, Int.reduceNeg, valloc_std, noSB, vhot, hr', e]
    exact RNext.refl h
end Go.Proofs.Ytnbmfhnfmhgaaaa.Q

