/- A part of the proof: Kb, Kc, Kd, Mp, Ke, Kf, Kg, Kh, Ki, Kj, Kk, Rw, Kl, Sa, Sb, Sc, Sd, Se, Si. -/
import Derived.Test.YtnegdinonfjdfaaDoorMg6
import Derived.Test.YtnegdinonfjdfaaDoorMg5
set_option linter.unusedVariables false
set_option linter.unusedSimpArgs false
set_option maxRecDepth 100000
namespace Go.Proofs.YtnegdinonfjdfaaDoor.Q
open Go Go.RowKit Go.Proofs
structure KS (S : List Nat) (σ σ' : St) : Prop where
  ko : ∀ r o, r ∉ S → σ.objs[r]? = some o → σ'.objs[r]? = some o
  le : σ.objs.length ≤ σ'.objs.length
  tl : σ.toks.length ≤ σ'.toks.length
  tk : ∀ k, tokLive σ.toks k = true → tokLive σ'.toks k = true
theorem KS.refl (S : List Nat) (σ : St) : KS S σ σ := ⟨fun _ _ _ h => h, Nat.le_refl _, Nat.le_refl _, fun _ h => h⟩
theorem KS.trans {S S1 : List Nat} {σ σ1 σ2 : St} (h : KS S σ σ1) (h2 : KS S1 σ1 σ2) (hs : ∀ x ∈ S1, x ∈ S ∨ σ.objs.length ≤ x) : KS S σ σ2 :=
  ⟨fun r o hr ho => h2.ko r o (fun hx => by
    have := (gA0.1 ho).1
    rcases hs r hx with h | h
    · exact hr h
    · omega) (h.ko r o hr ho), Nat.le_trans h.le h2.le, Nat.le_trans h.tl h2.tl, fun k hk => h2.tk k (h.tk k hk)⟩
theorem KS.trans' {S : List Nat} {σ σ1 σ2 : St} (h : KS S σ σ1) (h2 : KS S σ1 σ2) : KS S σ σ2 := h.trans h2 fun _ hx => .inl hx
theorem KS.mono {S S1 : List Nat} {σ σ1 : St} (h : KS S1 σ σ1) (hs : ∀ x ∈ S1, x ∈ S ∨ σ.objs.length ≤ x) : KS S σ σ1 := (KS.refl S σ).trans h hs
theorem KS.push (S : List Nat) (σ : St) (o : Ob) : KS S σ ⟨σ.objs ++ [o], σ.toks⟩ := ⟨fun r p _ hp => by
  simp only; rw [gA2 (gA0.1 hp).1]; exact hp, by simp, Nat.le_refl _, fun _ h => h⟩
theorem KS.set {S : List Nat} {σ : St} {k : Nat} (hk : k ∈ S ∨ σ.objs.length ≤ k) (o : Ob) : KS S σ ⟨σ.objs.set k o, σ.toks⟩ := ⟨fun r p hr hp => by
  have h2 := (gA0.1 hp).1
  simp only
  rw [gA3]
  · exact hp
  · rintro rfl
    rcases hk with hk | hk
    · exact hr hk
    · omega, by simp, Nat.le_refl _, fun _ h => h⟩
theorem Keep.ks {σ σ' : St} (h : Keep σ σ') (S : List Nat) : KS S σ σ' := by
  refine ⟨fun r o _ ho => h.1 r o ho, ?_, h.2.1, h.2.2⟩
  rcases Nat.eq_zero_or_pos σ.objs.length with h0 | h0
  · omega
  · have := (gA0.1 (h.1 (σ.objs.length - 1) _ (List.getElem?_eq_getElem (by omega)))).1
    omega
theorem KS.keep {σ σ' : St} (h : KS [] σ σ') : Keep σ σ' := ⟨fun r o ho => h.ko r o (by simp) ho, h.tl, h.tk⟩
abbrev Ent := Fl × FO
def fent (p : Ent) : V × V := (.str p.1.name, .optr p.2.rf 0)
structure FAt (objs : List Ob) (p : Ent) : Prop where
  ob : objs[p.2.rf]? = some (.cells [p.2.s, p.2.w])
  s : rowOf objs p.2.s = some (p.2.rs, p.1.safe.map byteV)
  w : rowOf objs p.2.w = some (p.2.rw, p.1.wait.map byteV)
  cs : p.2.cs = p.1.safe.map byteV
  ds : p.2.ds = p.1.wait.map byteV
def dcells (rm : Nat) (d : Dk) : List V := [.omap rm, .int .i64 d.room, .bool (!d.on), .int .i64 (d.writes : Nat), .int .i64 (d.armed : Nat), .int .i64 d.keep]
def foot (r rm : Nat) (fs : List Ent) : List Nat := r :: rm :: fs.flatMap fun p => p.2.ids
structure DiskAt (σ : St) (r : Nat) (d : Dk) (rm : Nat) (fs : List Ent) : Prop where
  hd : σ.objs[r]? = some (.cells (dcells rm d))
  hm : σ.objs[rm]? = some (.mp (fs.map fent))
  hf : ∀ p ∈ fs, FAt σ.objs p
  nd : (foot r rm fs).Nodup
  pm : (fs.map (·.1)).Perm d.files
theorem FAt.file {objs : List Ob} {p : Ent} (h : FAt objs p) : fileOf objs (fent p) = some p.2 := by
  have h1 := h.s
  have h2 := h.w
  rw [← h.cs] at h1
  rw [← h.ds] at h2
  simp only [fent, fileOf, h.ob, h1, h2]
theorem files_all {objs : List Ob} : ∀ {fs : List Ent}, (∀ p ∈ fs, FAt objs p) → filesOf objs (fs.map fent) = some (fs.map (·.2))
  | [], _ => rfl
  | p :: fs, h => by
    simp only [List.map_cons, filesOf, (h p (List.mem_cons_self ..)).file, files_all fun q hq => h q (List.mem_cons_of_mem _ hq)]
theorem FAt.frame {objs objs2 : List Ob} {p : Ent} (h : FAt objs p) (hk : ∀ x ∈ p.2.ids, ∀ o, objs[x]? = some o → objs2[x]? = some o) : FAt objs2 p := by
  refine ⟨hk _ (by simp [FO.ids]) _ h.ob, ?_, ?_, h.cs, h.ds⟩
  · rcases rowOf_spec h.s with ⟨e1, e2, e3⟩ | ⟨r, full, e1, e2, hr, hl, hc⟩
    · rw [← h.s]; rw [e1]; rfl
    · exact rowOf_eq h.s fun q hq => by
        rw [e2] at hq; injection hq with hq; subst hq
        rw [hr]; exact hk _ (by simp [FO.ids, e2]) _ hr
  · rcases rowOf_spec h.w with ⟨e1, e2, e3⟩ | ⟨r, full, e1, e2, hr, hl, hc⟩
    · rw [← h.w]; rw [e1]; rfl
    · exact rowOf_eq h.w fun q hq => by
        rw [e2] at hq; injection hq with hq; subst hq
        rw [hr]; exact hk _ (by simp [FO.ids, e2]) _ hr
theorem DiskAt.keep {σ σ' : St} {r rm : Nat} {d : Dk} {fs : List Ent} {S : List Nat} (h : DiskAt σ r d rm fs) (hk : KS S σ σ') (hs : ∀ x ∈ foot r rm fs, x ∉ S) : DiskAt σ' r d rm fs := by
  refine ⟨hk.ko _ _ (hs _ (by simp [foot])) h.hd, hk.ko _ _ (hs _ (by simp [foot])) h.hm, fun p hp => (h.hf p hp).frame fun x hx o ho => hk.ko _ _ (hs _ ?_) ho, h.nd, h.pm⟩
  simp only [foot, List.mem_cons, List.mem_flatMap]
  exact .inr (.inr ⟨p, hp, hx⟩)
theorem DiskAt.lt {σ : St} {r rm : Nat} {d : Dk} {fs : List Ent} (h : DiskAt σ r d rm fs) : ∀ x ∈ foot r rm fs, x < σ.objs.length := by
  intro x hx
  simp only [foot, List.mem_cons, List.mem_flatMap] at hx
  rcases hx with rfl | rfl | ⟨p, hp, hx⟩
  · exact (gA0.1 h.hd).1
  · exact (gA0.1 h.hm).1
  · obtain ⟨cs, hc⟩ := ids_lt (h.hf p hp).file hx
    exact (gA0.1 hc).1
theorem DiskAt.head {σ : St} {r rm : Nat} {d d2 : Dk} {fs : List Ent} (h : DiskAt σ r d rm fs) (hf : d2.files = d.files) {σ' : St} (hs : σ' = ⟨σ.objs.set r (.cells (dcells rm d2)), σ.toks⟩) : DiskAt σ' r d2 rm fs ∧ KS (foot r rm fs) σ σ' := by
  subst hs
  have hr := (gA0.1 h.hd).1
  have hn := h.nd
  unfold foot at hn
  rw [List.nodup_cons, List.nodup_cons] at hn
  have hne : ∀ x, x ∈ rm :: fs.flatMap (fun p => p.2.ids) → r ≠ x := fun x hx e => hn.1 (by rw [e]; exact hx)
  refine ⟨⟨by simp only; rw [gA5 hr], ?_, fun p hp => (h.hf p hp).frame fun x hx o ho => ?_, h.nd, by rw [hf]; exact h.pm⟩, KS.set (.inl (by simp [foot])) _⟩
  · simp only
    rw [gA3 (hne _ (List.mem_cons_self ..))]; exact h.hm
  · simp only
    rw [gA3 (hne _ (List.mem_cons_of_mem _ (List.mem_flatMap.2 ⟨p, hp, hx⟩)))]; exact ho
theorem T9 : Tryd.prog.underlying 9 = some .string := by kernel_rfl
theorem G9 : isAggT Tryd.prog 9 = some false := by kernel_rfl
theorem zeroF : zeroT Tryd.prog 76 = some .nilp := by kernel_rfl
theorem keyD : keyDesc Tryd.prog 9 = some .string := by kernel_rfl
theorem ofNilP : ofVal (.pointer none) = some .nilp := by kernel_rfl
theorem ofInt (k : IntKind) (n : Int) : ofVal (.int k n) = some (.int k n) := rfl
theorem find_no {fs : List Ent} {n : List UInt8} (h : ∀ p ∈ fs, p.1.name ≠ n) (i : Nat) : vfind .string (.str n) (fs.map fent) i = some none := by
  induction fs generalizing i with
  | nil => rfl
  | cons p fs ih =>
    have h1 := h p (List.mem_cons_self ..)
    have : keyEq .string (.str n) (.str p.1.name) = some false := by simp only [keyEq]; rw [decide_eq_false (fun e => h1 e.symm)]
    simp only [List.map_cons, vfind, fent, this]
    exact ih (fun q hq => h q (List.mem_cons_of_mem _ hq)) _
theorem find_yes {a b : List Ent} {p : Ent} (h : ∀ q ∈ a, q.1.name ≠ p.1.name) (i : Nat) : vfind .string (.str p.1.name) ((a ++ p :: b).map fent) i = some (some (i + a.length, .optr p.2.rf 0)) := by
  induction a generalizing i with
  | nil => simp [vfind, fent, keyEq]
  | cons q a ih =>
    have h1 := h q (List.mem_cons_self ..)
    have : keyEq .string (.str p.1.name) (.str q.1.name) = some false := by simp only [keyEq]; rw [decide_eq_false (fun e => h1 e.symm)]
    simp only [List.cons_append, List.map_cons, vfind, fent, this]
    have := ih (fun r hr => h r (List.mem_cons_of_mem _ hr)) (i + 1)
    rw [show i + (q :: a).length = i + 1 + a.length by rw [List.length_cons]; omega]
    exact this
structure Has (d : Dk) (fs a b : List Ent) (p : Ent) (n : List UInt8) : Prop where
  e : fs = a ++ p :: b
  nm : p.1.name = n
  g : getF d.files n = some p.1
  a : ∀ q ∈ a, q.1.name ≠ n
  b : ∀ q ∈ b, q.1.name ≠ n
theorem DiskAt.names {σ : St} {r rm : Nat} {d : Dk} {fs : List Ent} (h : DiskAt σ r d rm fs) (hok : d.Ok) : (fs.map fun p => p.1.name).Nodup := by
  have h1 := (h.pm.map Fl.name).nodup_iff.2 hok.nodup
  rwa [List.map_map] at h1
theorem DiskAt.get_no {σ : St} {r rm : Nat} {d : Dk} {fs : List Ent} (h : DiskAt σ r d rm fs) {n : List UInt8} (hg : getF d.files n = none) : ∀ p ∈ fs, p.1.name ≠ n := fun p hp =>
  getF_none hg _ (h.pm.mem_iff.1 (List.mem_map_of_mem hp))
theorem DiskAt.get_yes {σ : St} {r rm : Nat} {d : Dk} {fs : List Ent} (h : DiskAt σ r d rm fs) (hok : d.Ok) {n : List UInt8} {f : Fl} (hg : getF d.files n = some f) : ∃ a p b, Has d fs a b p n := by
  obtain ⟨hf, hn⟩ := getF_some hg
  obtain ⟨p, hp, rfl⟩ := List.mem_map.1 (h.pm.mem_iff.2 hf)
  obtain ⟨a, b, rfl⟩ := List.append_of_mem hp
  have hd := h.names hok
  rw [List.map_append, List.map_cons, List.nodup_append, List.nodup_cons] at hd
  exact ⟨a, p, b, rfl, hn, hg, fun q hq e => hd.2.2 _ (List.mem_map_of_mem hq) _ (List.mem_cons_self ..) (by rw [e, hn]), fun q hq e => hd.2.1.1 (by rw [hn, ← e]; exact List.mem_map_of_mem hq)⟩
theorem DiskAt.look_no {σ : St} {r rm : Nat} {d : Dk} {fs : List Ent} (h : DiskAt σ r d rm fs) {n : List UInt8} (hg : getF d.files n = none) : vlookup Tryd.prog σ.objs 68 (.omap rm) (.str n) false = some .nilp := by
  simp only [vlookup, pTM, h.hm, keyD, zeroF, find_no (h.get_no hg)]
  rfl
theorem DiskAt.look_yes {σ : St} {r rm : Nat} {d : Dk} {fs a b : List Ent} {p : Ent} (h : DiskAt σ r d rm fs) {n : List UInt8} (hg : Has d fs a b p n) : vlookup Tryd.prog σ.objs 68 (.omap rm) (.str n) false = some (.optr p.2.rf 0) := by
  have hm := h.hm
  rw [hg.e] at hm
  have hv := find_yes (a := a) (b := b) (p := p) (by rw [hg.nm]; exact hg.a) 0
  rw [hg.nm] at hv
  simp only [vlookup, pTM, hm, keyD, zeroF, hv]
  rfl
theorem named_does (n : List UInt8) (σ : St) : Does Tryd.prog prims 68 [.str n] σ (.ret (.bool (namedD n))) σ := by
  apply k68_is.ret (by simp)
  have e : vlen Tryd.prog 9 (.str n) = some (.int .i64 (n.length : Nat)) := by simp [vlen, T9]
  simp only [k68_a, WKV, Nat.reduceLT, Nat.reduceEqDiff, ↓reduceIte, reduceCtorEq, Nat.reduceAdd, Int.reduceLT, Int.reduceNeg, noSB, gD0, e]
  by_cases h1 : 1 ≤ n.length
  · have h1' : (1 : Int) ≤ (n.length : Int) := by omega
    simp only [k68_a, WKV, Nat.reduceLT, Nat.reduceEqDiff, ↓reduceIte, reduceCtorEq, Nat.reduceAdd, Int.reduceLT, Int.reduceNeg, noSB, h1', decide_true, gD0, e]
    by_cases h2 : n.length ≤ 16
    · have h2' : (n.length : Int) ≤ 16 := by omega
      simp [k68_a, WKV, Nat.reduceLT, Nat.reduceEqDiff, ↓reduceIte, reduceCtorEq, Nat.reduceAdd, Int.reduceLT, Int.reduceNeg, noSB, h2', namedD, h1, h2]
    · have h2' : ¬ (n.length : Int) ≤ 16 := by omega
      simp [k68_a, WKV, Nat.reduceLT, Nat.reduceEqDiff, ↓reduceIte, reduceCtorEq, Nat.reduceAdd, Int.reduceLT, Int.reduceNeg, noSB, h2', namedD, h1, h2]
  · have h1' : ¬ (1 : Int) ≤ (n.length : Int) := by omega
    simp only [k68_a, WKV, Nat.reduceLT, Nat.reduceEqDiff, ↓reduceIte, reduceCtorEq, Nat.reduceAdd, Int.reduceLT, Int.reduceNeg, noSB, h1', decide_false]
    simp [namedD, h1]
theorem ready_does {σ : St} {r rm : Nat} {d : Dk} {fs : List Ent} (h : DiskAt σ r d rm fs) (n : List UInt8) : Does Tryd.prog prims 66 [.optr r 0, .str n] σ (.ret (.int .i64 (readyD d n : Nat))) σ := by
  apply k66_is.ret (by simp)
  simp only [k66_a, WKV, Nat.reduceLT, Nat.reduceEqDiff, ↓reduceIte, reduceCtorEq, Nat.reduceAdd, Int.reduceLT, Int.reduceNeg, noSB, gD0, gD1, eql_optr pTD]
  refine KD.ret (named_does n σ) ?_
  simp only [k66_a, WKV, Nat.reduceLT, Nat.reduceEqDiff, ↓reduceIte, reduceCtorEq, Nat.reduceAdd, Int.reduceLT, Int.reduceNeg, noSB]
  have hl : vload Tryd.prog σ.objs 4 (.optr r 2) = some (.bool (!d.on)) := by rw [vload_obj h.hd G4]; rfl
  cases hn : namedD n with
  | false => simp [k66_a, WKV, Nat.reduceLT, Nat.reduceEqDiff, ↓reduceIte, reduceCtorEq, Nat.reduceAdd, Int.reduceLT, Int.reduceNeg, noSB, readyD, hn]
  | true =>
    simp only [k66_a, WKV, Nat.reduceLT, Nat.reduceEqDiff, ↓reduceIte, reduceCtorEq, Nat.reduceAdd, Int.reduceLT, Int.reduceNeg, noSB, Bool.not_true, pFA r 2 (by omega), hl]
    cases ho : d.on <;> simp [k66_a, WKV, Nat.reduceLT, Nat.reduceEqDiff, ↓reduceIte, reduceCtorEq, Nat.reduceAdd, Int.reduceLT, Int.reduceNeg, noSB, readyD, hn, ho]
theorem there_no {σ : St} {r rm : Nat} {d : Dk} {fs : List Ent} (h : DiskAt σ r d rm fs) (n : List UInt8) (hz : thereD d n ≠ 0) : Does Tryd.prog prims 62 [.optr r 0, .str n] σ (.ret (.tuple [.nilp, .int .i64 (thereD d n : Nat)])) σ := by
  apply k62_is.ret (by simp)
  simp only [k62_a, WKV, Nat.reduceLT, Nat.reduceEqDiff, ↓reduceIte, reduceCtorEq, Nat.reduceAdd, Int.reduceLT, Int.reduceNeg, noSB, gD0, gD1, ofNilP]
  refine KD.ret (ready_does h n) ?_
  have hl : vload Tryd.prog σ.objs 68 (.optr r 0) = some (.omap rm) := by rw [vload_obj h.hd pGM]; rfl
  simp only [k62_a, WKV, Nat.reduceLT, Nat.reduceEqDiff, ↓reduceIte, reduceCtorEq, Nat.reduceAdd, Int.reduceLT, Int.reduceNeg, noSB]
  unfold thereD at hz ⊢
  by_cases hr : readyD d n = 0
  · have hr' : ((readyD d n : Nat) : Int) = 0 := by omega
    have hr2 : ¬ readyD d n ≠ 0 := fun h => h hr
    rw [if_neg hr2] at hz ⊢
    cases hg : getF d.files n with
    | some f => rw [hg] at hz; exact absurd rfl hz
    | none =>
      simp only [k62_a, WKV, Nat.reduceLT, Nat.reduceEqDiff, ↓reduceIte, reduceCtorEq, Nat.reduceAdd, Int.reduceLT, Int.reduceNeg, noSB, hr', pFA r 0 (by omega), hl, h.look_no hg, eql_nilp pTF, ofNilP]
      simp
  · have hr' : ¬ ((readyD d n : Nat) : Int) = 0 := by omega
    rw [if_pos hr]
    simp only [k62_a, WKV, Nat.reduceLT, Nat.reduceEqDiff, ↓reduceIte, reduceCtorEq, Nat.reduceAdd, Int.reduceLT, Int.reduceNeg, noSB, hr', ofNilP]
theorem there_yes {σ : St} {r rm : Nat} {d : Dk} {fs a b : List Ent} {p : Ent} (h : DiskAt σ r d rm fs) {n : List UInt8} (hr : readyD d n = 0) (hg : Has d fs a b p n) : Does Tryd.prog prims 62 [.optr r 0, .str n] σ (.ret (.tuple [.optr p.2.rf 0, .int .i64 0])) σ := by
  apply k62_is.ret (by simp)
  have hl : vload Tryd.prog σ.objs 68 (.optr r 0) = some (.omap rm) := by rw [vload_obj h.hd pGM]; rfl
  have hr' : ((readyD d n : Nat) : Int) = 0 := by omega
  simp only [k62_a, WKV, Nat.reduceLT, Nat.reduceEqDiff, ↓reduceIte, reduceCtorEq, Nat.reduceAdd, Int.reduceLT, Int.reduceNeg, noSB, gD0, gD1, ofNilP]
  refine KD.ret (ready_does h n) ?_
  simp only [k62_a, WKV, Nat.reduceLT, Nat.reduceEqDiff, ↓reduceIte, reduceCtorEq, Nat.reduceAdd, Int.reduceLT, Int.reduceNeg, noSB, hr', pFA r 0 (by omega), hl, h.look_yes hg, eql_optr pTF, ofNilP]
theorem there_ok {σ : St} {r rm : Nat} {d : Dk} {fs : List Ent} (h : DiskAt σ r d rm fs) (hok : d.Ok) {n : List UInt8} (hz : thereD d n = 0) : ∃ a b p, Has d fs a b p n ∧ readyD d n = 0 := by
  unfold thereD at hz
  split at hz
  · rename_i h1; exact absurd hz h1
  · rename_i h1
    have h1 : readyD d n = 0 := Classical.byContradiction h1
    cases hg : getF d.files n with
    | none => rw [hg] at hz; cases hz
    | some f =>
      obtain ⟨a, p, b, hA⟩ := h.get_yes hok hg
      exact ⟨a, b, p, hA, h1⟩
theorem raw_does {σ : St} {r rm : Nat} {d : Dk} {fs : List Ent} (h : DiskAt σ r d rm fs) (hok : d.Ok) (hw : d.writes < 4611686018427387904) :
    ∃ σ', Does Tryd.prog prims 64 [.optr r 0] σ (.ret (.bool (rawD d).1)) σ' ∧ DiskAt σ' r (rawD d).2 rm fs ∧ KS (foot r rm fs) σ σ' ∧ σ'.objs.length = σ.objs.length := by
  have key : ∃ q σ', Does Tryd.prog prims 64 [.optr r 0] σ q σ' ∧ (q = .ret (.bool (rawD d).1) ∧ DiskAt σ' r (rawD d).2 rm fs ∧ KS (foot r rm fs) σ σ' ∧ σ'.objs.length = σ.objs.length) := by
    apply k64_is.does (by simp)
    have hww : IntKind.i64.wrap ((d.writes : Int) + 1) = ((d.writes + 1 : Nat) : Int) := by rw [show (d.writes : Int) + 1 = ((d.writes + 1 : Nat) : Int) by omega]; exact wrap_nat (by omega)
    have l1 : vload Tryd.prog σ.objs 3 (.optr r 3) = some (.int .i64 (d.writes : Nat)) := by rw [vload_obj h.hd G3]; rfl
    obtain ⟨d1, hd1⟩ : ∃ d1 : Dk, d1 = { d with writes := d.writes + 1 } := ⟨_, rfl⟩
    obtain ⟨s1, hs1⟩ : ∃ s1 : St, s1 = ⟨σ.objs.set r (.cells (dcells rm d1)), σ.toks⟩ := ⟨_, rfl⟩
    have st1 : vstore Tryd.prog σ 3 (.optr r 3) (.int .i64 ((d.writes + 1 : Nat) : Int)) = some s1 := by rw [vstore_obj h.hd S3 rfl (by simp [dcells]), hs1, hd1]; rfl
    obtain ⟨D1, K1⟩ := h.head (d2 := d1) (by rw [hd1]) hs1
    have L1 : s1.objs.length = σ.objs.length := by rw [hs1]; simp
    have l2 : vload Tryd.prog s1.objs 3 (.optr r 4) = some (.int .i64 (d.armed : Nat)) := by rw [vload_obj D1.hd G3, hd1]; rfl
    simp only [k64_a, WKV, Nat.reduceLT, Nat.reduceEqDiff, ↓reduceIte, reduceCtorEq, Nat.reduceAdd, Int.reduceLT, Int.reduceNeg, noSB, gD0, pFA r 3 (by omega), pFA r 4 (by omega), l1, hww, st1, l2]
    by_cases ha : d.armed = 0
    · have ha' : ((d.armed : Nat) : Int) = 0 := by omega
      have e : rawD d = (false, d1) := by simp [rawD, ha, hd1]
      simp only [k64_a, WKV, Nat.reduceLT, Nat.reduceEqDiff, ↓reduceIte, reduceCtorEq, Nat.reduceAdd, Int.reduceLT, Int.reduceNeg, noSB, ha', decide_true, e]
      exact ⟨D1, K1, L1⟩
    · have ha' : ¬ ((d.armed : Nat) : Int) = 0 := by omega
      have hwa : IntKind.i64.wrap ((d.armed : Int) - 1) = ((d.armed - 1 : Nat) : Int) := by
        have := hok.arm
        rw [show (d.armed : Int) - 1 = ((d.armed - 1 : Nat) : Int) by omega]; exact wrap_nat (by omega)
      obtain ⟨d2, hd2⟩ : ∃ d2 : Dk, d2 = { d with writes := d.writes + 1, armed := d.armed - 1 } := ⟨_, rfl⟩
      obtain ⟨s2, hs2⟩ : ∃ s2 : St, s2 = ⟨s1.objs.set r (.cells (dcells rm d2)), s1.toks⟩ := ⟨_, rfl⟩
      have st2 : vstore Tryd.prog s1 3 (.optr r 4) (.int .i64 ((d.armed - 1 : Nat) : Int)) = some s2 := by rw [vstore_obj D1.hd S3 rfl (by simp [dcells]), hs2, hd1, hd2]; rfl
      obtain ⟨D2, K2⟩ := D1.head (d2 := d2) (by rw [hd1, hd2]) hs2
      have L2 : s2.objs.length = σ.objs.length := by rw [hs2]; simp [L1]
      have l3 : vload Tryd.prog s2.objs 3 (.optr r 4) = some (.int .i64 ((d.armed - 1 : Nat) : Int)) := by rw [vload_obj D2.hd G3, hd2]; rfl
      have e : rawD d = (decide (d.armed = 1), d2) := by simp [rawD, ha, hd2]
      simp only [k64_a, WKV, Nat.reduceLT, Nat.reduceEqDiff, ↓reduceIte, reduceCtorEq, Nat.reduceAdd, Int.reduceLT, Int.reduceNeg, noSB, pFA r 3 (by omega), pFA r 4 (by omega), ha', decide_false, hwa, st2, l3, l2, e]
      refine ⟨?_, D2, K1.trans' K2, L2⟩
      congr 2
      by_cases h1 : d.armed = 1
      · simp [h1]
      · have : ¬ ((d.armed - 1 : Nat) : Int) = 0 := by omega
        simp [h1]; omega
  obtain ⟨q, σ', h1, rfl, h2⟩ := key
  exact ⟨σ', h1, h2⟩
theorem Does.prim {f : FuncId} {vs : List V} {σ : St} {v : V} {σ' : St} (hi : prims.is f = true) (h : prims.f f vs σ = some (v, σ')) : Does Tryd.prog prims f vs σ (.ret v) σ' := ⟨1, by rw [vcall, if_pos hi, h]; rfl⟩
def w1 (k : Int) (b : Nat) (f : FO) : List (Nat × Ob) :=
  if f.kept k = [] then [(f.rf, .cells [f.s, .nils])] else
    f.rs.toList.map (·, Ob.dead) ++ [(f.rf, .cells [.hslice b 0 1 (f.cs.length + (f.kept k).length), .nils]), (b, .cells (f.cs ++ f.kept k))]
def wAll (k : Int) : Nat → List FO → List (Nat × Ob)
  | _, [] => []
  | b, f :: fos => w1 k b f ++ wAll k (b + 1) fos
def off1 (k : Int) (b : Nat) (p : Ent) : Ent := (offF k p.1, if p.2.kept k = [] then { p.2 with w := .nils, rw := none, ds := [] } else { rf := p.2.rf, s := .hslice b 0 1 (p.2.cs.length + (p.2.kept k).length), rs := some b, cs := p.2.cs ++ p.2.kept k, w := .nils, rw := none, ds := [] })
def offL (k : Int) : Nat → List Ent → List Ent
  | _, [] => []
  | b, p :: fs => off1 k b p :: offL k (b + 1) fs
theorem fwrites_all (k : Int) : ∀ (fos : List FO) (b : Nat), (List.range fos.length).flatMap (fwrites k b fos) = wAll k b fos
  | [], b => rfl
  | f :: fos, b => by
    rw [List.length_cons, List.range_succ_eq_map, List.flatMap_cons, List.flatMap_map, wAll, ← fwrites_all k fos (b + 1)]
    congr 1
    · by_cases hk : f.kept k = []
      · rw [fwrites_none (f := f) rfl hk, w1, if_pos hk]
      · rw [fwrites_some (f := f) rfl hk, w1, if_neg hk]; rfl
    refine congrArg (fun g => List.flatMap g (List.range fos.length)) (funext fun i => ?_)
    show fwrites k b (f :: fos) (i + 1) = fwrites k (b + 1) fos i
    by_cases hk : (fos.getD i default).kept k = []
    · rw [fwrites_none (fos := f :: fos) (i := i + 1) (f := fos.getD i default) (by simp) hk, fwrites_none (fos := fos) (i := i) (f := fos.getD i default) rfl hk]
    · rw [fwrites_some (fos := f :: fos) (i := i + 1) (f := fos.getD i default) (by simp) hk, fwrites_some (fos := fos) (i := i) (f := fos.getD i default) rfl hk, show b + (i + 1) = b + 1 + i by omega]
theorem off1_ids {k : Int} {b : Nat} {p : Ent} : ∀ x ∈ (off1 k b p).2.ids, x ∈ p.2.ids ∨ x = b := by
  intro x hx
  simp only [off1] at hx
  split at hx
  · simp only [FO.ids, List.mem_cons, List.mem_append] at hx ⊢
    rcases hx with h | h | h
    · exact .inl (.inl h)
    · exact .inl (.inr (.inl h))
    · cases h
  · simp only [FO.ids, List.mem_cons, List.mem_append] at hx ⊢
    rcases hx with h | h | h
    · exact .inl (.inl h)
    · simp at h; exact .inr h
    · cases h
theorem off1_nodup {k : Int} {b : Nat} {p : Ent} (h : p.2.ids.Nodup) (hb : ∀ x ∈ p.2.ids, x < b) : (off1 k b p).2.ids.Nodup := by
  have hrf : p.2.rf < b := hb _ (by simp [FO.ids])
  simp only [off1]
  split
  · simp only [FO.ids, List.nodup_cons] at h ⊢
    refine ⟨fun hx => h.1 ?_, ?_⟩
    · simp only [Option.toList, List.append_nil, List.mem_append] at hx ⊢
      exact .inl hx
    · have := (List.nodup_append.1 h.2).1
      simpa using this
  · simp only [FO.ids, Option.toList, List.append_nil, List.nodup_cons, List.mem_singleton]
    exact ⟨by omega, by simp, by simp⟩
theorem offL_ids {k : Int} : ∀ {fs : List Ent} {b : Nat}, ∀ x ∈ (offL k b fs).flatMap (fun p => p.2.ids), x ∈ fs.flatMap (fun p => p.2.ids) ∨ b ≤ x
  | [], b, x, hx => by simp [offL] at hx
  | p :: fs, b, x, hx => by
    simp only [offL, List.flatMap_cons, List.mem_append] at hx ⊢
    rcases hx with h | h
    · rcases off1_ids x h with h | h
      · exact .inl (.inl h)
      · exact .inr (by omega)
    · rcases offL_ids x h with h | h
      · exact .inl (.inr h)
      · exact .inr (by omega)
theorem offL_nodup {k : Int} : ∀ {fs : List Ent} {b : Nat}, (fs.flatMap fun p => p.2.ids).Nodup → (∀ x ∈ fs.flatMap (fun p => p.2.ids), x < b) → ((offL k b fs).flatMap fun p => p.2.ids).Nodup
  | [], b, _, _ => by simp [offL]
  | p :: fs, b, h, hb => by
    simp only [offL, List.flatMap_cons] at h hb ⊢
    rw [List.nodup_append] at h ⊢
    have hb1 : ∀ x ∈ p.2.ids, x < b := fun x hx => hb x (List.mem_append_left _ hx)
    have hb2 : ∀ x ∈ fs.flatMap (fun p => p.2.ids), x < b := fun x hx => hb x (List.mem_append_right _ hx)
    refine ⟨off1_nodup h.1 hb1, offL_nodup h.2.1 fun x hx => by have := hb2 x hx; omega, fun x hx y hy e => ?_⟩
    subst e
    rcases off1_ids x hx with h1 | h1 <;> rcases offL_ids x hy with h2 | h2
    · exact h.2.2 x h1 x h2 rfl
    · have := hb1 x h1; omega
    · have := hb2 x h2; omega
    · omega
theorem bytes_take (l : List UInt8) (n : Nat) : (l.map byteV).take n = (l.take n).map byteV := (List.map_take ..).symm
theorem w1_at {k : Int} {b : Nat} {O : List Ob} {p : Ent} (h : FAt O p) (hn : p.2.ids.Nodup) (hb : ∀ x ∈ p.2.ids, x < b) (hl : b < O.length) :
    FAt (applyW (w1 k b p.2) O) (off1 k b p) ∧ ∀ q, q ∉ p.2.ids → q ≠ b → (applyW (w1 k b p.2) O)[q]? = O[q]? := by
  have hrf : p.2.rf < b := hb _ (by simp [FO.ids])
  have hkm : p.2.kept k = (p.1.wait.take k.toNat).map byteV := by rw [FO.kept, h.ds, bytes_take]
  by_cases hk : p.2.kept k = []
  · have e : w1 k b p.2 = [(p.2.rf, .cells [p.2.s, .nils])] := by unfold w1; rw [if_pos hk]
    have e2 : off1 k b p = (offF k p.1, { p.2 with w := .nils, rw := none, ds := [] }) := by unfold off1; rw [if_pos hk]
    have hw0 : p.1.wait.take k.toNat = [] := by rw [hk] at hkm; exact List.map_eq_nil_iff.1 hkm.symm
    rw [e, e2]
    simp only [applyW, List.foldl_cons, List.foldl_nil]
    refine ⟨⟨by simp only; rw [gA5 (by omega)], ?_, rfl, ?_, rfl⟩, fun q hq _ => ?_⟩
    · simp only [offF, hw0, List.append_nil]
      refine rowOf_eq h.s fun q hq => ?_
      rw [gA3]
      intro e3
      simp only [FO.ids, List.nodup_cons] at hn
      exact hn.1 (by simp [hq, e3])
    · simp only [offF, hw0, List.append_nil]; exact h.cs
    · rw [gA3]
      intro e3
      exact hq (by simp [FO.ids, e3])
  · have e : w1 k b p.2 = p.2.rs.toList.map (·, Ob.dead) ++ [(p.2.rf, .cells [.hslice b 0 1 (p.2.cs.length + (p.2.kept k).length), .nils]), (b, .cells (p.2.cs ++ p.2.kept k))] := by unfold w1; rw [if_neg hk]
    have e2 : off1 k b p = (offF k p.1, { rf := p.2.rf, s := .hslice b 0 1 (p.2.cs.length + (p.2.kept k).length), rs := some b, cs := p.2.cs ++ p.2.kept k, w := .nils, rw := none, ds := [] }) := by unfold off1; rw [if_neg hk]
    have hcat : p.2.cs ++ p.2.kept k = (p.1.safe ++ p.1.wait.take k.toNat).map byteV := by rw [h.cs, hkm, List.map_append]
    rw [e, e2, applyW_append]
    obtain ⟨O1, hO1⟩ : ∃ O1, O1 = applyW (p.2.rs.toList.map (·, Ob.dead)) O := ⟨_, rfl⟩
    have hl1 : O1.length = O.length := by rw [hO1, applyW_len]
    rw [← hO1]
    simp only [applyW, List.foldl_cons, List.foldl_nil]
    refine ⟨⟨?_, ?_, rfl, ?_, rfl⟩, fun q hq hqb => ?_⟩
    · simp only; rw [gA3 (by omega), gA5 (by omega)]
    · simp only [rowOf]
      rw [gA5 (by rw [List.length_set]; omega)]
      simp only [offF, List.length_append, Nat.le_refl, ↓reduceIte]
      rw [List.take_of_length_le (by simp), hcat]
    · simp only [offF]; exact hcat
    · rw [gA3 (Ne.symm hqb), gA3, hO1, applyW_ne]
      · intro hm
        rw [List.map_map, List.mem_map] at hm
        obtain ⟨x, hx, rfl⟩ := hm
        exact hq (by simp only [FO.ids, List.mem_cons, List.mem_append]; exact .inr (.inl hx))
      · intro e3
        exact hq (by simp [FO.ids, e3])
theorem offW {k : Int} : ∀ {fs : List Ent} {b : Nat} {O : List Ob}, (fs.flatMap fun p => p.2.ids).Nodup → (∀ x ∈ fs.flatMap (fun p => p.2.ids), x < b) → b + fs.length ≤ O.length → (∀ p ∈ fs, FAt O p) →
    (∀ p ∈ offL k b fs, FAt (applyW (wAll k b (fs.map (·.2))) O) p) ∧ ∀ q, q ∉ fs.flatMap (fun p => p.2.ids) → q < b → (applyW (wAll k b (fs.map (·.2))) O)[q]? = O[q]?
  | [], b, O, _, _, _, _ => ⟨fun p hp => by simp [offL] at hp, fun q _ _ => rfl⟩
  | p :: fs, b, O, hn, hb, hl, hF => by
    simp only [List.flatMap_cons, List.length_cons] at hn hb hl
    rw [List.nodup_append] at hn
    have hb1 : ∀ x ∈ p.2.ids, x < b := fun x hx => hb x (List.mem_append_left _ hx)
    have hb2 : ∀ x ∈ fs.flatMap (fun p => p.2.ids), x < b := fun x hx => hb x (List.mem_append_right _ hx)
    obtain ⟨g1, g2⟩ := w1_at (k := k) (hF p (List.mem_cons_self ..)) hn.1 hb1 (by omega)
    obtain ⟨O1, hO1⟩ : ∃ O1, O1 = applyW (w1 k b p.2) O := ⟨_, rfl⟩
    have hl1 : O1.length = O.length := by rw [hO1, applyW_len]
    rw [← hO1] at g1 g2
    have hF1 : ∀ q ∈ fs, FAt O1 q := fun q hq => (hF q (List.mem_cons_of_mem _ hq)).frame fun x hx o ho => by
      have hxm : x ∈ fs.flatMap (fun p => p.2.ids) := List.mem_flatMap.2 ⟨q, hq, hx⟩
      have := hb2 x hxm
      rw [g2 x (fun h => hn.2.2 x h x hxm rfl) (by omega)]
      exact ho
    obtain ⟨i1, i2⟩ := offW (k := k) (b := b + 1) (O := O1) hn.2.1 (fun x hx => by have := hb2 x hx; omega) (by omega) hF1
    simp only [List.map_cons, wAll, applyW_append, offL, ← hO1]
    refine ⟨fun q hq => ?_, fun q hq hqb => ?_⟩
    · rcases List.mem_cons.1 hq with rfl | hq
      · refine g1.frame fun x hx o ho => ?_
        rw [i2 x ?_ ?_]
        · exact ho
        · intro hxm
          rcases off1_ids x hx with h | h
          · exact hn.2.2 x h x hxm rfl
          · have := hb2 x hxm; omega
        · rcases off1_ids x hx with h | h
          · have := hb1 x h; omega
          · omega
      · exact i1 q hq
    · rw [List.flatMap_cons, List.mem_append] at hq
      rw [i2 q (fun h => hq (.inr h)) (by omega), g2 q (fun h => hq (.inl h)) (by omega)]
theorem offL_ent {k : Int} : ∀ {fs : List Ent} {b : Nat}, (offL k b fs).map fent = fs.map fent
  | [], b => rfl
  | p :: fs, b => by
    simp only [offL, List.map_cons, offL_ent (k := k) (fs := fs) (b := b + 1)]
    congr 1
    simp only [fent, off1, offF]
    split <;> rfl
theorem offL_fst {k : Int} : ∀ {fs : List Ent} {b : Nat}, (offL k b fs).map (·.1) = (fs.map (·.1)).map (offF k)
  | [], b => rfl
  | p :: fs, b => by
    simp only [offL, List.map_cons, offL_fst (k := k) (fs := fs) (b := b + 1)]
    rfl
theorem off_does {σ : St} {r rm : Nat} {d : Dk} {fs : List Ent} (h : DiskAt σ r d rm fs) (hok : d.Ok) (k : Int) :
    ∃ σ' fs', Does Tryd.prog prims 24 [.optr r 0, .int .i64 k] σ (.ret (.tuple [])) σ' ∧ DiskAt σ' r (offD k d) rm fs' ∧ KS (foot r rm fs) σ σ' ∧ ∀ x ∈ foot r rm fs', x ∈ foot r rm fs ∨ σ.objs.length ≤ x := by
  cases hon : d.on with
  | false =>
    refine ⟨σ, fs, Does.prim (by kernel_rfl) ?_, by simp only [offD, hon]; exact h, KS.refl _ _, fun x hx => .inl hx⟩
    simp only [prims]
    rw [if_neg (by decide +kernel), if_pos trivial]
    simp only [offP, h.hd, dcells, hon, Bool.not_false, ↓reduceIte]
  | true =>
    have hnd := h.nd
    unfold foot at hnd
    rw [List.nodup_cons, List.nodup_cons] at hnd
    have hlt := h.lt
    have hids : ∀ x ∈ fs.flatMap (fun p => p.2.ids), x < σ.objs.length := fun x hx => hlt x (by simp only [foot, List.mem_cons]; exact .inr (.inr hx))
    have hrl := hlt r (by simp [foot])
    have hml := hlt rm (by simp [foot])
    have hne : r ≠ rm := fun e => hnd.1 (by rw [e]; exact List.mem_cons_self ..)
    have hfm : (fs.map (·.2)).flatMap FO.ids = fs.flatMap fun p => p.2.ids := by rw [List.flatMap_map]
    obtain ⟨O, hO⟩ : ∃ O, O = σ.objs ++ [Ob.dead] ++ List.replicate fs.length Ob.unb := ⟨_, rfl⟩
    have hOl : O.length = σ.objs.length + 1 + fs.length := by rw [hO]; simp; omega
    have hOo : ∀ q, q < σ.objs.length → O[q]? = σ.objs[q]? := fun q hq => by
      rw [hO, gA2 (by simp; omega), gA2 hq]
    have hFO : ∀ p ∈ fs, FAt O p := fun p hp => (h.hf p hp).frame fun x hx o ho => by
      rw [hOo x (hids x (List.mem_flatMap.2 ⟨p, hp, hx⟩))]; exact ho
    obtain ⟨i1, i2⟩ := offW (k := k) (b := σ.objs.length + 1) (O := O) hnd.2.2 (fun x hx => by have := hids x hx; omega) (by omega) hFO
    obtain ⟨O1, hO1⟩ : ∃ O1, O1 = applyW (wAll k (σ.objs.length + 1) (fs.map (·.2))) O := ⟨_, rfl⟩
    have hO1l : O1.length = O.length := by rw [hO1, applyW_len]
    rw [← hO1] at i1 i2
    have hrn : r ∉ fs.flatMap fun p => p.2.ids := fun hx => hnd.1 (List.mem_cons_of_mem _ hx)
    have hd2 : offD k d = { d with files := d.files.map (offF k), on := false, armed := 0 } := by simp [offD, hon]
    have hids2 : ∀ x ∈ (offL k (σ.objs.length + 1) fs).flatMap (fun p => p.2.ids), x ∈ fs.flatMap (fun p => p.2.ids) ∨ σ.objs.length + 1 ≤ x := fun x hx => offL_ids x hx
    refine ⟨⟨O1.set r (.cells (dcells rm (offD k d))), σ.toks⟩, offL k (σ.objs.length + 1) fs, Does.prim (by kernel_rfl) ?_, ⟨?_, ?_, fun p hp => (i1 p hp).frame fun x hx o ho => ?_, ?_, ?_⟩, ⟨fun q o hq ho => ?_, ?_, Nat.le_refl _, fun _ h => h⟩, fun x hx => ?_⟩
    · simp only [prims]
      rw [if_neg (by decide +kernel), if_pos trivial]
      have hc : (((fs.map (·.2)).flatMap FO.ids).Nodup ∧ r ∉ (fs.map (·.2)).flatMap FO.ids ∧ ((fs.map (·.2)).all fun f => (f.kept k).all one && decide (f.cs.length + (f.kept k).length ≤ 140737488355328)) = true) := by
        rw [hfm]
        refine ⟨hnd.2.2, hrn, ?_⟩
        rw [List.all_eq_true]
        intro f hf
        obtain ⟨p, hp, rfl⟩ := List.mem_map.1 hf
        have hF := h.hf p hp
        have hsm := hok.sm p.1 (h.pm.mem_iff.1 (List.mem_map_of_mem hp))
        have hkm : p.2.kept k = (p.1.wait.take k.toNat).map byteV := by rw [FO.kept, hF.ds, bytes_take]
        rw [hkm, hF.cs, Bool.and_eq_true, decide_eq_true_eq]
        refine ⟨byteV_one _, ?_⟩
        simp only [Fl.len, List.length_map, List.length_take] at hsm ⊢
        omega
      simp only [offP, h.hd, dcells, hon, Bool.not_true, Bool.false_eq_true, ↓reduceIte, h.hm, files_all h.hf]
      rw [if_pos hc, List.length_map, ← hO]
      have := fwrites_all k (fs.map (·.2)) (σ.objs.length + 1)
      rw [List.length_map] at this
      rw [this, ← hO1, hd2]
      rfl
    · simp only; rw [gA5 (by omega)]
    · simp only
      rw [gA3 hne, i2 rm hnd.2.1 (by omega), hOo rm hml, offL_ent]
      exact h.hm
    · simp only
      rw [gA3]
      · exact ho
      · rintro rfl
        rcases hids2 r (List.mem_flatMap.2 ⟨p, hp, hx⟩) with h | h
        · exact hrn h
        · omega
    · unfold foot
      rw [List.nodup_cons, List.nodup_cons]
      refine ⟨fun hx => ?_, fun hx => ?_, offL_nodup hnd.2.2 fun x hx => by have := hids x hx; omega⟩
      · rcases List.mem_cons.1 hx with e | hx
        · exact hne e
        · rcases hids2 _ hx with h | h
          · exact hrn h
          · omega
      · rcases hids2 _ hx with h | h
        · exact hnd.2.1 h
        · omega
    · rw [offL_fst, hd2]
      exact h.pm.map _
    · have hql := (gA0.1 ho).1
      simp only [foot, List.mem_cons, not_or] at hq
      simp only
      rw [gA3 (Ne.symm hq.1), i2 q hq.2.2 (by omega), hOo q hql]
      exact ho
    · simp only [List.length_set]; omega
    · simp only [foot, List.mem_cons] at hx ⊢
      rcases hx with h | h | h
      · exact .inl (.inl h)
      · exact .inl (.inr (.inl h))
      · rcases hids2 x h with h | h
        · exact .inl (.inr (.inr h))
        · exact .inr (by omega)
theorem ends_does {σ : St} {r rm : Nat} {d : Dk} {fs : List Ent} (h : DiskAt σ r d rm fs) (hok : d.Ok) :
    ∃ σ' fs', Does Tryd.prog prims 65 [.optr r 0] σ (.ret (.int .i64 20)) σ' ∧ DiskAt σ' r (offD d.keep d) rm fs' ∧ KS (foot r rm fs) σ σ' ∧ ∀ x ∈ foot r rm fs', x ∈ foot r rm fs ∨ σ.objs.length ≤ x := by
  obtain ⟨σ', fs', h1, h2, h3, h4⟩ := off_does h hok d.keep
  refine ⟨σ', fs', ?_, h2, h3, h4⟩
  have key : ∃ q s, Does Tryd.prog prims 65 [.optr r 0] σ q s ∧ (q = .ret (.int .i64 20) ∧ s = σ') := by
    apply k65_is.does (by simp)
    have l1 : vload Tryd.prog σ.objs 3 (.optr r 5) = some (.int .i64 d.keep) := by rw [vload_obj h.hd G3]; rfl
    simp only [k65_a, WKV, Nat.reduceLT, Nat.reduceEqDiff, ↓reduceIte, reduceCtorEq, Nat.reduceAdd, Int.reduceLT, Int.reduceNeg, noSB, gD0, pFA r 5 (by omega), l1]
    refine KD.ret h1 ?_
    simp only [k65_a, WKV, Nat.reduceLT, Nat.reduceEqDiff, ↓reduceIte, reduceCtorEq, Nat.reduceAdd, Int.reduceLT, Int.reduceNeg, noSB]
  obtain ⟨q, s, h5, rfl, rfl⟩ := key
  exact h5
def HB (σ : St) (v : V) (r : Nat) (bs : List UInt8) : Prop := v = .hslice r 0 1 bs.length ∧ σ.objs[r]? = some (.cells (bs.map byteV))
theorem HB.keep {σ σ' : St} {v : V} {r : Nat} {bs : List UInt8} (h : HB σ v r bs) (hk : Keep σ σ') : HB σ' v r bs := ⟨h.1, hk.1 _ _ h.2⟩
theorem HB.lt {σ : St} {v : V} {r : Nat} {bs : List UInt8} (h : HB σ v r bs) : r < σ.objs.length := (gA0.1 h.2).1
def RB (σ : St) (v : V) (bs : List UInt8) : Prop := BtsV v bs ∨ ∃ r off cs, v = .hslice r off 1 bs.length ∧ σ.objs[r]? = some (.cells cs) ∧ off + bs.length ≤ cs.length ∧ (cs.drop off).take bs.length = bs.map byteV
theorem HB.rb {σ : St} {v : V} {r : Nat} {bs : List UInt8} (h : HB σ v r bs) : RB σ v bs := .inr ⟨r, 0, _, h.1, h.2, by simp, by rw [List.drop_zero]; exact List.take_of_length_le (by simp)⟩
theorem RB.keep {σ σ' : St} {v : V} {bs : List UInt8} (h : RB σ v bs) (hk : Keep σ σ') : RB σ' v bs := by
  rcases h with h | ⟨r, off, cs, h1, h2, h3⟩
  · exact .inl h
  · exact .inr ⟨r, off, cs, h1, hk.1 _ _ h2, h3⟩
theorem RB.len {σ : St} {v : V} {bs : List UInt8} (h : RB σ v bs) : vlen Tryd.prog 22 v = some (.int .i64 (bs.length : Nat)) := by
  rcases h with h | ⟨r, off, cs, rfl, _⟩
  · exact h.len T22
  · simp [vlen, T22]
theorem RB.news {σ : St} {v : V} {bs : List UInt8} (h : RB σ v bs) : vnewsO Tryd.prog σ.objs 22 v 1 = some (bs.map byteV, bs.length) := by
  rcases h with h | ⟨r, off, cs, rfl, h2, h3, h4⟩
  · refine vnewsO_of ?_
    rcases h with ⟨rfl, rfl⟩ | ⟨p, rfl⟩ <;> simp [vnews, T22]
  · simp [vnewsO, vnews, T22, h2, h3, h4]
theorem RB.at {σ : St} {v : V} {bs : List UInt8} (h : RB σ v bs) {i : Nat} (hi : i < bs.length) : ∃ p, vindexAddr Tryd.prog 22 v (.int .i64 (i : Int)) = some p ∧ vload Tryd.prog σ.objs 5 p = some (.int .u8 (bs[i].toNat : Nat)) := by
  have hi' : (i : Int) < bs.length := by omega
  rcases h with h | ⟨r, off, cs, rfl, h2, h3, h4⟩
  · refine ⟨_, h.addr T22 S5 (Int.natCast_nonneg i) hi', ?_⟩
    have := BtsV.load (P := Tryd.prog) (objs := σ.objs) G5 hi
    simpa using this
  · refine ⟨.optr r (off + i), by simp [vindexAddr, T22, S5, hi'], ?_⟩
    have h5 : cs[off + i]? = some (byteV bs[i]) := by
      have := congrArg (·[i]?) h4
      simp only [List.getElem?_take_of_lt hi, List.getElem?_drop, List.getElem?_map, List.getElem?_eq_getElem hi] at this
      simpa using this
    rw [vload_obj h2 G5, h5]
    rfl
theorem HB.slice {σ : St} {v : V} {r : Nat} {bs : List UInt8} (h : HB σ v r bs) {n : Nat} (hn : n ≤ bs.length) (hl : bs.length ≤ 1000000000) : ∃ w, vslice Tryd.prog 22 v none (some (.int .i64 (n : Int))) none = some w ∧ RB σ w (bs.take n) := by
  have hb : vbounds bs.length none (some (.int .i64 (n : Int))) none = some (0, n, none) := vbounds_hi (by omega) (by omega)
  refine ⟨.hslice r 0 1 n, by rw [h.1]; simp [vslice, T22, S5, hb], .inr ⟨r, 0, _, by rw [List.length_take, Nat.min_eq_left hn], h.2, by rw [List.length_take, List.length_map]; omega, ?_⟩⟩
  rw [List.drop_zero, List.length_take, Nat.min_eq_left hn, ← List.map_take]
theorem litRow0 (σ : St) : vbuildRow Tryd.prog σ 22 0 [] = some (.hslice σ.objs.length 0 1 0, ⟨σ.objs ++ [.cells []], σ.toks⟩) := by
  have hz := BT.z
  simp [vbuildRow, T22, S5, hz, vcells, zeroCellsV, vfill]
theorem litRow1 (σ : St) {n : Nat} (hn : n < 256) : vbuildRow Tryd.prog σ 22 1 [(0, .int .u8 (n : Int))] = some (.hslice σ.objs.length 0 1 1, ⟨σ.objs ++ [.cells [byteV (UInt8.ofNat n)]], σ.toks⟩) := by
  have hz := BT.z
  have e : (UInt8.ofNat n).toNat = n := by simp; omega
  simp [vbuildRow, T22, S5, hz, vcells, zeroCellsV, vfill, setAll, byteV, e]
theorem made {σ : St} (v : V) (bs : List UInt8) (hv : v = .hslice σ.objs.length 0 1 bs.length) : HB ⟨σ.objs ++ [.cells (bs.map byteV)], σ.toks⟩ v σ.objs.length bs := ⟨hv, push_new _ _⟩
theorem HB.append {σ : St} {v y : V} {r : Nat} {bs ys : List UInt8} (h : HB σ v r bs) (hy : RB σ y ys) (hl : bs.length + ys.length ≤ 140737488355328) :
    ∃ v' r' σ', vappendRow Tryd.prog σ 22 22 v y = some (v', σ') ∧ HB σ' v' r' (bs ++ ys) ∧ KeepX r σ σ' ∧ (r' = r ∨ σ.objs.length ≤ r') := by
  have hb := BT.b
  have hz := BT.z
  have hn := hy.news
  rw [h.1]
  by_cases hm : ys.length = 0
  · have : ys = [] := List.length_eq_zero_iff.1 hm
    subst this
    refine ⟨_, r, σ, ?_, by rw [List.append_nil]; exact ⟨rfl, h.2⟩, KeepX.refl _ _, .inl rfl⟩
    simp [vappendRow, T22, hb, S5, hz, vcells, hn]
  · refine ⟨.hslice σ.objs.length 0 1 (bs ++ ys).length, σ.objs.length, ⟨σ.objs.set r .dead ++ [.cells ((bs ++ ys).map byteV)], σ.toks⟩, ?_, ⟨rfl, ?_⟩, ⟨fun q o hq ho => ?_, Nat.le_refl _, fun _ h => h⟩, .inr (Nat.le_refl _)⟩
    · have h1 := byteV_one ys
      have h2 : List.take bs.length (bs.map byteV) = bs.map byteV := List.take_of_length_le (by simp)
      simp [vappendRow, T22, hb, S5, hz, vcells, hn, hm, h.2, hl, h1, h2]
    · have := push_new (σ.objs.set r .dead) (Ob.cells ((bs ++ ys).map byteV))
      rwa [List.length_set] at this
    · have hql : q < σ.objs.length := (gA0.1 ho).1
      simp only
      rw [gA2 (by rw [List.length_set]; exact hql), gA3 (Ne.symm hq)]
      exact ho
theorem SBB : sizeT Tryd.prog 22 = some 1 := pSB
theorem bInfo : (Tryd.prog.info? 5).map (·.bytes) = some 1 := by kernel_rfl
theorem bZero : zeroT Tryd.prog 5 = some (.int .u8 0) := by kernel_rfl
theorem rowApp {σ : St} {s w' : V} {q : Option Nat} {cs ys : List V} (h : rowOf σ.objs s = some (q, cs)) (hw : vnewsO Tryd.prog σ.objs 22 w' 1 = some (ys, ys.length)) (ho : ys.all one = true) (hl : cs.length + ys.length ≤ 140737488355328) :
    ∃ s' q' σ', vappendRow Tryd.prog σ 22 22 s w' = some (s', σ') ∧ rowOf σ'.objs s' = some (q', cs ++ ys) ∧ KS q.toList σ σ' ∧ (∀ x ∈ q'.toList, x ∈ q.toList ∨ σ.objs.length ≤ x) ∧ one s' = true := by
  have ha := off_append (toks := σ.toks) h hw ho hl
  by_cases h0 : ys = []
  · rw [if_pos h0] at ha
    refine ⟨s, q, σ, ha, by rw [h0, List.append_nil]; exact h, KS.refl _ _, fun x hx => .inl hx, ?_⟩
    rcases rowOf_spec h with ⟨rfl, _⟩ | ⟨r, full, rfl, _⟩ <;> rfl
  · rw [if_neg h0] at ha
    refine ⟨_, some σ.objs.length, _, ha, ?_, ⟨fun r o hr ho => ?_, ?_, Nat.le_refl _, fun _ h => h⟩, fun x hx => ?_, rfl⟩
    · have e : (applyW (q.toList.map (·, Ob.dead)) σ.objs).length = σ.objs.length := applyW_len _ _
      have := push_new (applyW (q.toList.map (·, Ob.dead)) σ.objs) (.cells (cs ++ ys))
      rw [e] at this
      simp only [rowOf, this, List.length_append, Nat.le_refl, ↓reduceIte]
      rw [List.take_of_length_le (by simp)]
    · have hrl := (gA0.1 ho).1
      simp only
      rw [gA2 (by rw [applyW_len]; exact hrl), applyW_ne]
      · exact ho
      · rw [List.map_map]
        intro hx
        obtain ⟨y, hy, rfl⟩ := List.mem_map.1 hx
        exact hr hy
    · simp only [List.length_append, applyW_len]; omega
    · simp at hx; exact .inr (by omega)
theorem rowOf_one {objs : List Ob} {v : V} {q : Option Nat} {cs : List V} (h : rowOf objs v = some (q, cs)) : one v = true := by
  rcases rowOf_spec h with ⟨rfl, _⟩ | ⟨r, full, rfl, _⟩ <;> rfl
theorem rowOf_len {objs : List Ob} {v : V} {q : Option Nat} {cs : List V} (h : rowOf objs v = some (q, cs)) : vlen Tryd.prog 22 v = some (.int .i64 (cs.length : Nat)) := by
  rcases rowOf_spec h with ⟨rfl, rfl, rfl⟩ | ⟨r, full, rfl, _⟩ <;> simp [vlen, pTB]
theorem rowOf_rl {objs : List Ob} {v : V} {q : Option Nat} {cs : List V} (h : rowOf objs v = some (q, cs)) : rowLen v = some cs.length := by
  rcases rowOf_spec h with ⟨rfl, rfl, rfl⟩ | ⟨r, full, rfl, _⟩ <;> simp [rowLen]
theorem rowOf_rb {σ : St} {v : V} {q : Option Nat} {bs : List UInt8} (h : rowOf σ.objs v = some (q, bs.map byteV)) : RB σ v bs := by
  rcases rowOf_spec h with ⟨rfl, rfl, h0⟩ | ⟨r, full, rfl, rfl, hr, hl, hc⟩
  · exact .inl (.inl ⟨rfl, List.map_eq_nil_iff.1 h0⟩)
  · simp only [List.length_map] at hl hc ⊢
    exact .inr ⟨r, 0, full, rfl, hr, by omega, by rw [List.drop_zero]; exact hc.symm⟩
theorem rowOf_frame {objs objs2 : List Ob} {v : V} {q : Option Nat} {cs : List V} (h : rowOf objs v = some (q, cs)) (hk : ∀ x ∈ q.toList, ∀ o, objs[x]? = some o → objs2[x]? = some o) : rowOf objs2 v = some (q, cs) := by
  rcases rowOf_spec h with ⟨rfl, rfl, rfl⟩ | ⟨r, full, e1, e2, hr, hl, hc⟩
  · rfl
  · exact rowOf_eq h fun x hx => by
      rw [e2] at hx; injection hx with hx; subst hx
      rw [hr]; exact hk _ (by simp [e2]) _ hr
theorem flat_mid (a b : List Ent) (p : Ent) : ((a ++ p :: b).flatMap fun p => p.2.ids) = (a.flatMap fun p => p.2.ids) ++ (p.2.ids ++ b.flatMap fun p => p.2.ids) := by simp
theorem nodup_mid {A I J B : List Nat} {n : Nat} (h : (A ++ (I ++ B)).Nodup) (hl : ∀ x ∈ A ++ (I ++ B), x < n) (hj : J.Nodup) (hs : ∀ x ∈ J, x ∈ I ∨ n ≤ x) : (A ++ (J ++ B)).Nodup := by
  rw [List.nodup_append, List.nodup_append] at h ⊢
  obtain ⟨h1, ⟨h2, h3, h4⟩, h5⟩ := h
  refine ⟨h1, ⟨hj, h3, fun x hx y hy e => ?_⟩, fun x hx y hy e => ?_⟩
  · rcases hs x hx with h | h
    · exact h4 x h y hy e
    · have := hl y (by simp [hy]); omega
  · rcases List.mem_append.1 hy with hy | hy
    · rcases hs y hy with h | h
      · exact h5 x hx y (List.mem_append_left _ h) e
      · have := hl x (by simp [hx]); omega
    · exact h5 x hx y (List.mem_append_right _ hy) e
theorem putF_perm {l : List Fl} {f x : Fl} {A B : List Fl} (hr : l.Pairwise fun f g => f.name < g.name) (hp : (A ++ f :: B).Perm l) (hx : x.name = f.name) : (A ++ x :: B).Perm (putF x l) := by
  have hnl : (l.map Fl.name).Nodup := by
    rw [List.nodup_iff_pairwise_ne, List.pairwise_map]
    exact hr.imp fun {f g} hlt (he : f.name = g.name) => lt_irrefl' f.name (by rw [← he] at hlt; exact hlt)
  have hn2 : ((putF x l).map Fl.name).Nodup := by
    rw [List.nodup_iff_pairwise_ne, List.pairwise_map]
    exact (rise_putF hr).imp fun {f g} hlt (he : f.name = g.name) => lt_irrefl' f.name (by rw [← he] at hlt; exact hlt)
  have hn1 : ((A ++ f :: B).map Fl.name).Nodup := (hp.map _).nodup_iff.2 hnl
  have hn3 : ((A ++ x :: B).map Fl.name).Nodup := by
    simp only [List.map_append, List.map_cons, hx] at hn1 ⊢
    exact hn1
  refine fl_perm hn3 hn2 fun g => ?_
  rw [mem_putF, ← hp.mem_iff, List.mem_append, List.mem_cons, List.mem_append, List.mem_cons]
  have hA : ∀ g, g ∈ A → g.name ≠ x.name := fun g hg e => by
    simp only [List.map_append, List.map_cons] at hn3
    rw [List.nodup_append] at hn3
    exact hn3.2.2 _ (List.mem_map_of_mem hg) _ (List.mem_cons_self ..) e
  have hB : ∀ g, g ∈ B → g.name ≠ x.name := fun g hg e => by
    simp only [List.map_append, List.map_cons] at hn3
    rw [List.nodup_append, List.nodup_cons] at hn3
    exact hn3.2.1.1 (by rw [← e]; exact List.mem_map_of_mem hg)
  constructor
  · rintro (h | rfl | h)
    · exact .inr ⟨.inl h, hA g h⟩
    · exact .inl rfl
    · exact .inr ⟨.inr (.inr h), hB g h⟩
  · rintro (rfl | ⟨h | rfl | h, h2⟩)
    · exact .inr (.inl rfl)
    · exact .inl h
    · exact absurd hx.symm h2
    · exact .inr (.inr h)
theorem DiskAt.change {σ σ' : St} {r rm : Nat} {d d2 : Dk} {fs a b : List Ent} {p p' : Ent} {n : List UInt8} (h : DiskAt σ r d rm fs) (hok : d.Ok) (hA : Has d fs a b p n) (hk : KS p.2.ids σ σ') (hF : FAt σ'.objs p') (hrf : p'.2.rf = p.2.rf) (hn : p'.1.name = n)
    (hnd : p'.2.ids.Nodup) (hids : ∀ x ∈ p'.2.ids, x ∈ p.2.ids ∨ σ.objs.length ≤ x) (hd2 : d2 = { d with files := putF p'.1 d.files }) : DiskAt σ' r d2 rm (a ++ p' :: b) ∧ KS (foot r rm fs) σ σ' ∧ ∀ x ∈ foot r rm (a ++ p' :: b), x ∈ foot r rm fs ∨ σ.objs.length ≤ x := by
  have hlt := h.lt
  have hN := h.nd
  have hfs := hA.e
  subst hfs
  have hpm := h.pm
  have hN0 := hN
  unfold foot at hN
  rw [List.nodup_cons, List.nodup_cons, flat_mid] at hN
  obtain ⟨n1, n2, n3⟩ := hN
  have hdj : ∀ q ∈ a ++ b, ∀ x ∈ q.2.ids, x ∉ p.2.ids := by
    intro q hq x hx hx2
    rw [List.nodup_append, List.nodup_append] at n3
    rcases List.mem_append.1 hq with hq | hq
    · exact n3.2.2 x (List.mem_flatMap.2 ⟨q, hq, hx⟩) x (List.mem_append_left _ hx2) rfl
    · exact n3.2.1.2.2 x hx2 x (List.mem_flatMap.2 ⟨q, hq, hx⟩) rfl
  have hpi : ∀ x ∈ p.2.ids, x ∈ foot r rm (a ++ p :: b) := fun x hx => by
    simp only [foot, List.mem_cons, List.mem_flatMap]
    exact .inr (.inr ⟨p, by simp, hx⟩)
  have hrp : r ∉ p.2.ids := fun hx => n1 (List.mem_cons_of_mem _ (by simp [hx]))
  have hmp : rm ∉ p.2.ids := fun hx => n2 (by simp [hx])
  have hfoot : ∀ x ∈ foot r rm (a ++ p' :: b), x ∈ foot r rm (a ++ p :: b) ∨ σ.objs.length ≤ x := by
    intro x hx
    simp only [foot, List.mem_cons, List.flatMap_append, List.flatMap_cons, List.mem_append] at hx ⊢
    rcases hx with hx | hx | hx | hx | hx
    · exact .inl (.inl hx)
    · exact .inl (.inr (.inl hx))
    · exact .inl (.inr (.inr (.inl hx)))
    · rcases hids x hx with h | h
      · exact .inl (.inr (.inr (.inr (.inl h))))
      · exact .inr h
    · exact .inl (.inr (.inr (.inr (.inr hx))))
  have hent : (a ++ p' :: b).map fent = (a ++ p :: b).map fent := by
    simp only [List.map_append, List.map_cons]
    rw [show fent p' = fent p by simp only [fent, hn, hA.nm, hrf]]
  refine ⟨⟨?_, ?_, fun q hq => ?_, ?_, ?_⟩, hk.mono fun x hx => .inl (hpi x hx), hfoot⟩
  · rw [hd2]; exact hk.ko _ _ hrp h.hd
  · rw [hent]; exact hk.ko _ _ hmp h.hm
  · by_cases hqp : q ∈ a ++ b
    · have hqm : q ∈ a ++ p :: b := by
        rcases List.mem_append.1 hqp with h | h <;> simp [h]
      exact (h.hf q hqm).frame fun x hx o ho => hk.ko _ _ (hdj q hqp x hx) ho
    · have : q = p' := by
        simp only [List.mem_append, List.mem_cons, not_or] at hq hqp
        rcases hq with h | h | h
        · exact absurd h hqp.1
        · exact h
        · exact absurd h hqp.2
      subst this
      exact hF
  · have hx := nodup_mid (n := σ.objs.length) (A := r :: rm :: a.flatMap fun p => p.2.ids) (I := p.2.ids) (J := p'.2.ids) (B := b.flatMap fun p => p.2.ids) (by
      unfold foot at hN0; rw [flat_mid] at hN0; exact hN0) (fun x hx => hlt x (by unfold foot; rw [flat_mid]; exact hx)) hnd hids
    unfold foot
    rw [flat_mid]
    exact hx
  · rw [hd2]
    simp only [List.map_append, List.map_cons] at hpm ⊢
    exact putF_perm hok.rise hpm (by rw [hn, hA.nm])
theorem FAt.upd {σ σa : St} {p : Ent} {s' w' : V} {qs qw : Option Nat} {f' : Fl} (h : FAt σ.objs p) (hk : KS (p.2.rs.toList ++ p.2.rw.toList) σ σa) (hnd : p.2.ids.Nodup) (hlt : ∀ x ∈ p.2.ids, x < σ.objs.length)
    (hs : rowOf σa.objs s' = some (qs, f'.safe.map byteV)) (hw : rowOf σa.objs w' = some (qw, f'.wait.map byteV)) (hq : ∀ x ∈ qs.toList ++ qw.toList, x ∈ p.2.rs.toList ++ p.2.rw.toList ∨ σ.objs.length ≤ x) (hqn : (qs.toList ++ qw.toList).Nodup) :
    ∃ p' : Ent, p'.1 = f' ∧ p'.2.rf = p.2.rf ∧ FAt (σa.objs.set p.2.rf (.cells [s', w'])) p' ∧ KS p.2.ids σ ⟨σa.objs.set p.2.rf (.cells [s', w']), σa.toks⟩ ∧ p'.2.ids.Nodup ∧ (∀ x ∈ p'.2.ids, x ∈ p.2.ids ∨ σ.objs.length ≤ x) ∧ σa.objs[p.2.rf]? = some (.cells [p.2.s, p.2.w]) := by
  have hrfl := hlt p.2.rf (by simp [FO.ids])
  simp only [FO.ids, List.nodup_cons] at hnd
  have hrf : p.2.rf ∉ qs.toList ++ qw.toList := fun hx => by
    rcases hq _ hx with h | h
    · exact hnd.1 h
    · omega
  have hoba : σa.objs[p.2.rf]? = some (.cells [p.2.s, p.2.w]) := hk.ko _ _ hnd.1 h.ob
  have hk1 : KS p.2.ids σ σa := hk.mono fun x hx => .inl (by simp only [FO.ids, List.mem_cons]; exact .inr hx)
  refine ⟨(f', ⟨p.2.rf, s', qs, f'.safe.map byteV, w', qw, f'.wait.map byteV⟩), rfl, rfl, ⟨obj_set hoba, ?_, ?_, rfl, rfl⟩, hk1.trans' (KS.set (.inl (by simp [FO.ids])) _), ?_, ?_, hoba⟩
  · refine rowOf_frame hs fun x hx o ho => ?_
    rw [gA3]
    · exact ho
    · rintro rfl; exact hrf (List.mem_append_left _ hx)
  · refine rowOf_frame hw fun x hx o ho => ?_
    rw [gA3]
    · exact ho
    · rintro rfl; exact hrf (List.mem_append_right _ hx)
  · simp only [FO.ids, List.nodup_cons]; exact ⟨hrf, hqn⟩
  · intro x hx
    simp only [FO.ids, List.mem_cons] at hx ⊢
    rcases hx with h | h
    · exact .inl (.inl h)
    · rcases hq x h with h | h
      · exact .inl (.inr h)
      · exact .inr h
def Next (σ : St) (r rm : Nat) (fs : List Ent) (σ' : St) (d' : Dk) : Prop := ∃ fs', DiskAt σ' r d' rm fs' ∧ KS (foot r rm fs) σ σ' ∧ ∀ x ∈ foot r rm fs', x ∈ foot r rm fs ∨ σ.objs.length ≤ x
theorem Next.refl {σ : St} {r rm : Nat} {d : Dk} {fs : List Ent} (h : DiskAt σ r d rm fs) : Next σ r rm fs σ d := ⟨fs, h, KS.refl _ _, fun x hx => .inl hx⟩
theorem Next.trans {σ σ1 σ2 : St} {r rm : Nat} {d : Dk} {fs fs1 : List Ent} (hk : KS (foot r rm fs) σ σ1) (hs : ∀ x ∈ foot r rm fs1, x ∈ foot r rm fs ∨ σ.objs.length ≤ x) (h : Next σ1 r rm fs1 σ2 d) : Next σ r rm fs σ2 d := by
  obtain ⟨fs', h1, h2, h3⟩ := h
  refine ⟨fs', h1, hk.trans h2 hs, fun x hx => ?_⟩
  have := hk.le
  rcases h3 x hx with h | h
  · exact hs x h
  · exact .inr (by omega)
theorem Has.ids {σ : St} {r rm : Nat} {d : Dk} {fs a b : List Ent} {p : Ent} {n : List UInt8} (h : DiskAt σ r d rm fs) (hA : Has d fs a b p n) : FAt σ.objs p ∧ p.2.ids.Nodup ∧ ∀ x ∈ p.2.ids, x < σ.objs.length := by
  have hp : p ∈ fs := by rw [hA.e]; simp
  have hN := h.nd
  unfold foot at hN
  rw [List.nodup_cons, List.nodup_cons, hA.e, flat_mid, List.nodup_append, List.nodup_append] at hN
  refine ⟨h.hf p hp, hN.2.2.2.1.1, fun x hx => h.lt x ?_⟩
  simp only [foot, List.mem_cons, List.mem_flatMap]
  exact .inr (.inr ⟨p, hp, hx⟩)
theorem DiskAt.upd {σ σa : St} {r rm : Nat} {d : Dk} {fs a b : List Ent} {p : Ent} {n : List UInt8} {s' w' : V} {qs qw : Option Nat} {f' : Fl} (h : DiskAt σ r d rm fs) (hok : d.Ok) (hA : Has d fs a b p n) (hk : KS (p.2.rs.toList ++ p.2.rw.toList) σ σa)
    (hs : rowOf σa.objs s' = some (qs, f'.safe.map byteV)) (hw : rowOf σa.objs w' = some (qw, f'.wait.map byteV)) (hq : ∀ x ∈ qs.toList ++ qw.toList, x ∈ p.2.rs.toList ++ p.2.rw.toList ∨ σ.objs.length ≤ x) (hqn : (qs.toList ++ qw.toList).Nodup) (hn : f'.name = n) :
    Next σ r rm fs ⟨σa.objs.set p.2.rf (.cells [s', w']), σa.toks⟩ { d with files := putF f' d.files } ∧ σa.objs[p.2.rf]? = some (.cells [p.2.s, p.2.w]) := by
  obtain ⟨g1, g2, g3⟩ := hA.ids h
  obtain ⟨p', e1, e2, e3, e4, e5, e6, e7⟩ := g1.upd hk g2 g3 hs hw hq hqn
  obtain ⟨i1, i2, i3⟩ := h.change hok hA e4 e3 e2 (by rw [e1, hn]) e5 e6 (d2 := { d with files := putF f' d.files }) (by rw [e1])
  exact ⟨⟨_, i1, i2, i3⟩, e7⟩
theorem Dk.Ok.head {d d2 : Dk} (h : d.Ok) (hf : d2.files = d.files) (ha : (d2.armed : Int) ≤ 9223372036854775807) (hr : InI64 d2.room) (hk : InI64 d2.keep) : d2.Ok := ⟨by rw [hf]; exact h.rise, by rw [hf]; exact h.nm, by rw [hf]; exact h.few, by rw [hf]; exact h.sm, ha, hr, hk⟩
theorem Dk.Ok.raw {d : Dk} (h : d.Ok) : (rawD d).2.Ok := by
  have := h.arm
  unfold rawD
  split
  · exact h.head rfl h.arm h.rm h.kp
  · exact h.head rfl (by simp only; omega) h.rm h.kp
theorem raw_files (d : Dk) : (rawD d).2.files = d.files ∧ (rawD d).2.keep = d.keep ∧ (rawD d).2.room = d.room ∧ (rawD d).2.on = d.on ∧ (rawD d).2.writes = d.writes + 1 := by
  unfold rawD
  split <;> exact ⟨rfl, rfl, rfl, rfl, rfl⟩
theorem Dk.Ok.off {d : Dk} (h : d.Ok) (k : Int) : (offD k d).Ok := by
  unfold offD
  split
  · refine ⟨?_, fun f hf => ?_, by simp only [List.length_map]; exact h.few, fun f hf => ?_, by simp, h.rm, h.kp⟩
    · simp only [List.pairwise_map]
      exact h.rise
    · obtain ⟨g, hg, rfl⟩ := List.mem_map.1 hf
      exact h.nm g hg
    · obtain ⟨g, hg, rfl⟩ := List.mem_map.1 hf
      have := h.sm g hg
      simp only [Fl.len, offF, List.length_append, List.length_take, List.length_nil] at this ⊢
      omega
  · exact h
theorem Dk.Ok.put {d : Dk} (h : d.Ok) {x : Fl} (hn : namedD x.name = true) (hs : x.len ≤ 1048576) (hl : (getF d.files x.name).isNone = true → d.files.length < 16) : ({ d with files := putF x d.files } : Dk).Ok := by
  refine ⟨rise_putF h.rise, fun f hf => ?_, ?_, fun f hf => ?_, h.arm, h.rm, h.kp⟩
  · rcases mem_putF.1 hf with rfl | ⟨hf, _⟩
    · exact hn
    · exact h.nm f hf
  · simp only
    rw [len_putF h.rise]
    have := h.few
    split
    · rename_i h1
      have := hl h1
      omega
    · exact h.few
  · rcases mem_putF.1 hf with rfl | ⟨hf, _⟩
    · exact hs
    · exact h.sm f hf
theorem Dk.Ok.drop {d : Dk} (h : d.Ok) (n : List UInt8) : ({ d with files := dropF n d.files } : Dk).Ok := by
  refine ⟨rise_dropF h.rise, fun f hf => h.nm f (mem_dropF.1 hf).1, ?_, fun f hf => h.sm f (mem_dropF.1 hf).1, h.arm, h.rm, h.kp⟩
  exact Nat.le_trans (List.length_filter_le ..) h.few
theorem readyD_named {d : Dk} {n : List UInt8} (h : readyD d n = 0) : namedD n = true ∧ d.on = true := by
  unfold readyD at h
  split at h
  · cases h
  · rename_i h1
    split at h
    · cases h
    · rename_i h2
      exact ⟨by simpa using h1, by simpa using h2⟩
theorem thereD_zero {d : Dk} {n : List UInt8} (h : thereD d n = 0) : readyD d n = 0 ∧ ∃ f, getF d.files n = some f := by
  unfold thereD at h
  split at h
  · rename_i h1; exact absurd h h1
  · rename_i h1
    refine ⟨Classical.byContradiction h1, ?_⟩
    cases hg : getF d.files n with
    | none => rw [hg] at h; cases h
    | some f => exact ⟨f, rfl⟩
theorem Has.files {d d2 : Dk} {fs a b : List Ent} {p : Ent} {n : List UInt8} (hA : Has d fs a b p n) (h : d2.files = d.files) : Has d2 fs a b p n := ⟨hA.e, hA.nm, by rw [h]; exact hA.g, hA.a, hA.b⟩
theorem Dk.Ok.get {d : Dk} (h : d.Ok) {n : List UInt8} {f : Fl} (hg : getF d.files n = some f) : f ∈ d.files ∧ f.name = n ∧ namedD n = true ∧ f.len ≤ 1048576 := by
  obtain ⟨h1, h2⟩ := getF_some hg
  exact ⟨h1, h2, by rw [← h2]; exact h.nm f h1, h.sm f h1⟩
theorem rawNext {σ : St} {r rm : Nat} {d : Dk} {fs : List Ent} (h : DiskAt σ r d rm fs) (hok : d.Ok) (hw : d.writes < 4611686018427387904) :
    ∃ σ1, Does Tryd.prog prims 64 [.optr r 0] σ (.ret (.bool (rawD d).1)) σ1 ∧ DiskAt σ1 r (rawD d).2 rm fs ∧ KS (foot r rm fs) σ σ1 ∧ σ1.objs.length = σ.objs.length ∧
      ∃ σ2, Does Tryd.prog prims 65 [.optr r 0] σ1 (.ret (.int .i64 20)) σ2 ∧ Next σ r rm fs σ2 (offD d.keep (rawD d).2) := by
  obtain ⟨σ1, h1, h2, h3, h4⟩ := raw_does h hok hw
  obtain ⟨σ2, fs2, h5, h6, h7, h8⟩ := ends_does h2 hok.raw
  refine ⟨σ1, h1, h2, h3, h4, σ2, h5, ?_⟩
  rw [(raw_files d).2.1] at h6
  exact Next.trans h3 (fun x hx => .inl hx) ⟨fs2, h6, h7, h8⟩
theorem lens_all {objs : List Ob} : ∀ {fs : List Ent}, (∀ p ∈ fs, FAt objs p) → fileLens objs (fs.map fent) = some (fs.map fun p => p.1.len)
  | [], _ => rfl
  | p :: fs, h => by
    have hp := h p (List.mem_cons_self ..)
    have h1 := rowOf_rl hp.s
    have h2 := rowOf_rl hp.w
    rw [List.length_map] at h1 h2
    simp only [List.map_cons, fileLens, fileLen, fent, hp.ob, h1, h2]
    have := lens_all fun q hq => h q (List.mem_cons_of_mem _ hq)
    rw [this]
theorem sum_le_all {l : List Nat} {m : Nat} (h : ∀ x ∈ l, x ≤ m) : l.sum ≤ l.length * m := by
  induction l with
  | nil => simp
  | cons x l ih =>
    have h1 := h x (List.mem_cons_self ..)
    have h2 := ih fun y hy => h y (List.mem_cons_of_mem _ hy)
    simp only [List.sum_cons, List.length_cons, Nat.succ_mul]
    omega
theorem sizeD_le {d : Dk} (hok : d.Ok) : sizeD d.files ≤ 16777216 := by
  have h1 := sum_le_all (l := d.files.map Fl.len) (m := 1048576) fun x hx => by
    obtain ⟨f, hf, rfl⟩ := List.mem_map.1 hx
    exact hok.sm f hf
  have h2 := hok.few
  unfold sizeD
  rw [List.length_map] at h1
  omega
theorem size_does {σ : St} {r rm : Nat} {d : Dk} {fs : List Ent} (h : DiskAt σ r d rm fs) (hok : d.Ok) : Does Tryd.prog prims 67 [.optr r 0] σ (.ret (.int .i64 (sizeD d.files : Nat))) ⟨σ.objs ++ [.dead], σ.toks⟩ := by
  refine Does.prim (by kernel_rfl) ?_
  simp only [prims]
  rw [if_pos trivial]
  have hs : (fs.map fun p => p.1.len).sum = sizeD d.files := by
    have := (h.pm.map Fl.len).sum_nat
    rw [List.map_map] at this
    exact this
  have hb := sizeD_le hok
  simp only [sizeP, h.hd, dcells, h.hm, lens_all h.hf, hs]
  rw [if_pos (by omega)]
theorem DiskAt.pushed {σ : St} {r rm : Nat} {d : Dk} {fs : List Ent} (h : DiskAt σ r d rm fs) (o : Ob) : DiskAt ⟨σ.objs ++ [o], σ.toks⟩ r d rm fs := h.keep (KS.push [] σ o) fun x _ => by simp
theorem putF_putF {x y : Fl} {l : List Fl} (hn : x.name = y.name) : putF x (putF y l) = putF x l := by
  unfold putF
  have h1 : ¬ y.name < y.name := lt_irrefl' _
  have e1 : (List.filter (fun f => decide (f.name < x.name)) (l.filter fun f => decide (y.name < f.name))) = [] := by
    rw [List.filter_filter, List.filter_eq_nil_iff]
    intro f _
    rw [hn]
    simp only [Bool.and_eq_true, decide_eq_true_eq, not_and]
    intro h2 h3
    exact lt_irrefl' _ (lt_trans' h2 h3)
  have e2 : (List.filter (fun f => decide (x.name < f.name)) (l.filter fun f => decide (f.name < y.name))) = [] := by
    rw [List.filter_filter, List.filter_eq_nil_iff]
    intro f _
    rw [hn]
    simp only [Bool.and_eq_true, decide_eq_true_eq, not_and]
    intro h2 h3
    exact lt_irrefl' _ (lt_trans' h2 h3)
  rw [List.filter_append, List.filter_append, List.filter_cons, List.filter_cons, e1, e2, hn]
  simp only [h1, decide_false, Bool.false_eq_true, ↓reduceIte, List.append_nil, List.nil_append, List.filter_filter, Bool.and_self]
theorem RB.ks {σ σ' : St} {v : V} {bs : List UInt8} {S : List Nat} (h : RB σ v bs) (hk : KS S σ σ') (hs : ∀ q ∈ S, ∀ cs, σ.objs[q]? ≠ some (.cells cs)) : RB σ' v bs := by
  rcases h with h | ⟨q, off, cs, e1, e2, e3⟩
  · exact .inl h
  · exact .inr ⟨q, off, cs, e1, hk.ko q _ (fun hq => hs q hq cs e2) e2, e3⟩
theorem DiskAt.fresh {σ : St} {r rm : Nat} {d : Dk} {fs : List Ent} (h : DiskAt σ r d rm fs) (hok : d.Ok) {n : List UInt8} (hg : getF d.files n = none) {σ1 σ2 : St} (h1 : σ1 = ⟨σ.objs ++ [.cells [.nils, .nils]], σ.toks⟩) :
    ∃ σ2 p d2, vmapSet Tryd.prog σ1 68 (.omap rm) (.str n) (.optr σ.objs.length 0) = some σ2 ∧ d2 = { d with files := putF ⟨n, [], []⟩ d.files } ∧ p.1 = ⟨n, [], []⟩ ∧ p.2.rf = σ.objs.length ∧ DiskAt σ2 r d2 rm (fs ++ [p]) ∧ KS [rm] σ σ2 ∧ Has d2 (fs ++ [p]) fs [] p n ∧ σ2.objs.length = σ.objs.length + 1 ∧ ∀ x ∈ foot r rm (fs ++ [p]), x ∈ foot r rm fs ∨ σ.objs.length ≤ x := by
  have D1 : DiskAt σ1 r d rm fs := by rw [h1]; exact h.pushed _
  have hlt := h.lt
  have hN := h.nd
  have hno := h.get_no hg
  unfold foot at hN
  rw [List.nodup_cons, List.nodup_cons] at hN
  have hrl := hlt r (by simp [foot])
  have hml := hlt rm (by simp [foot])
  have hml1 : rm < σ1.objs.length := by rw [h1]; simp; omega
  have hfl : ∀ x ∈ fs.flatMap (fun p => p.2.ids), x < σ.objs.length := fun x hx => hlt x (by simp only [foot, List.mem_cons]; exact .inr (.inr hx))
  refine ⟨⟨σ1.objs.set rm (.mp (fs.map fent ++ [(.str n, .optr σ.objs.length 0)])), σ1.toks⟩, (⟨n, [], []⟩, ⟨σ.objs.length, .nils, none, [], .nils, none, []⟩), _, ?_, rfl, rfl, rfl, ⟨?_, ?_, ?_, ?_, ?_⟩, ?_, ⟨rfl, rfl, ?_, hno, fun q hq => by cases hq⟩, ?_, ?_⟩
  · simp only [vmapSet, pTM, D1.hm, keyD, find_no hno]
  · simp only
    rw [gA3 (fun e => hN.1 (by rw [e]; exact List.mem_cons_self ..))]
    exact D1.hd
  · simp only
    rw [gA5 hml1, List.map_append]
    rfl
  · intro q hq
    rcases List.mem_append.1 hq with hq | hq
    · exact (D1.hf q hq).frame fun x hx o ho => by
        simp only
        rw [gA3 (fun e => hN.2.1 (by rw [e]; exact List.mem_flatMap.2 ⟨q, hq, hx⟩))]
        exact ho
    · rw [List.mem_singleton] at hq
      subst hq
      refine ⟨?_, rfl, rfl, rfl, rfl⟩
      simp only
      rw [gA3 (by omega), h1]
      exact push_new _ _
  · have e : foot r rm (fs ++ [((⟨n, [], []⟩ : Fl), (⟨σ.objs.length, .nils, none, [], .nils, none, []⟩ : FO))]) = foot r rm fs ++ [σ.objs.length] := by
      simp [foot, FO.ids]
    rw [e, List.nodup_append]
    exact ⟨h.nd, by simp, fun x hx y hy => by rw [List.mem_singleton] at hy; have := hlt x hx; omega⟩
  · simp only [List.map_append, List.map_cons, List.map_nil]
    have hp := h.pm
    have h3 : (putF ⟨n, [], []⟩ d.files).Perm (⟨n, [], []⟩ :: d.files) := by
      unfold putF
      refine (List.perm_middle).trans (.cons _ ?_)
      have e : (d.files.filter fun f => decide (n < f.name)) = d.files.filter fun f => !decide (f.name < n) := by
        refine List.filter_congr fun f hf => ?_
        have hne := getF_none hg f hf
        rcases lt_or hne with h | h
        · have : ¬ n < f.name := fun h2 => lt_irrefl' _ (lt_trans' h h2)
          simp [h, this]
        · have : ¬ f.name < n := fun h2 => lt_irrefl' _ (lt_trans' h h2)
          simp [h, this]
      rw [e]
      exact List.filter_append_perm _ _
    exact (List.perm_append_singleton ..).trans ((hp.cons _).trans h3.symm)
  · refine (KS.push [rm] σ (.cells [.nils, .nils])).trans' ?_
    rw [← h1]
    exact KS.set (.inl (by simp)) _
  · have hm : (⟨n, [], []⟩ : Fl) ∈ putF ⟨n, [], []⟩ d.files := mem_putF.2 (.inl rfl)
    have hnd : ((putF ⟨n, [], []⟩ d.files).map Fl.name).Nodup := by
      rw [List.nodup_iff_pairwise_ne, List.pairwise_map]
      exact (rise_putF hok.rise).imp fun {f g} hlt (he : f.name = g.name) => lt_irrefl' f.name (by rw [← he] at hlt; exact hlt)
    exact getF_mem hnd hm
  · simp [h1]
  · intro x hx
    simp only [foot, List.mem_cons, List.flatMap_append, List.mem_append] at hx ⊢
    rcases hx with hx | hx | hx | hx
    · exact .inl (.inl hx)
    · exact .inl (.inr (.inl hx))
    · exact .inl (.inr (.inr hx))
    · simp [FO.ids] at hx; exact .inr (by omega)
theorem append_tail {σ : St} {r rm : Nat} {d : Dk} {fs a b : List Ent} {p : Ent} {n bs : List UInt8} {v : V} {e : Nat → V} {R : VRes → St → Prop} (h : DiskAt σ r d rm fs) (hok : d.Ok) (hA : Has d fs a b p n) (hw : d.writes < 4611686018427387904) (hb : RB σ v bs) (hl : p.1.len + bs.length ≤ 1048576)
    (h0 : e 0 = .optr r 0) (h2 : e 2 = v) (h8 : e 8 = .optr p.2.rf 0) (d2 : Dk) (hd2 : d2 = { d with files := putF ⟨n, p.1.safe, p.1.wait ++ bs⟩ d.files })
    (hR : ∀ σ' x, Next σ r rm fs σ' (if (rawD d2).1 = true then offD d.keep (rawD d2).2 else (rawD d2).2) → x = (if (rawD d2).1 = true then 20 else 0 : Nat) → R (.ret (.int .i64 (x : Nat))) σ') :
    Ev Tryd.prog prims 88 (k47_r14.seq (((CC.region k47_r15).seq (CC.cond (.tmp 85) ((CC.region k47_r16).seq CC.ret) CC.skip)).seq ((CC.region k47_r17).seq CC.ret))) e σ (fnK Tryd.prog 88 [ResultVar.tmp 6] R) := by
  obtain ⟨g1, g2, g3⟩ := hA.ids h
  simp only [Fl.len] at hl
  have hbn := hb.news
  rw [← List.length_map (f := byteV)] at hbn
  obtain ⟨w', qw, σa, ha, hwa, hka, hqa, h1a⟩ := rowApp g1.w hbn (byteV_one bs) (by simp; omega)
  have hk2 : KS (p.2.rs.toList ++ p.2.rw.toList) σ σa := hka.mono fun x hx => .inl (List.mem_append_right _ hx)
  have hnd2 : (p.2.rs.toList ++ p.2.rw.toList).Nodup := by simp only [FO.ids, List.nodup_cons] at g2; exact g2.2
  have hlt2 : ∀ x ∈ p.2.rs.toList, x < σ.objs.length := fun x hx => g3 x (by simp only [FO.ids, List.mem_cons, List.mem_append]; exact .inr (.inl hx))
  have hsa : rowOf σa.objs p.2.s = some (p.2.rs, p.1.safe.map byteV) := rowOf_frame g1.s fun x hx o ho => hka.ko _ _ (fun hx2 => (List.nodup_append.1 hnd2).2.2 x hx x hx2 rfl) ho
  have hqn : (p.2.rs.toList ++ qw.toList).Nodup := by
    rw [List.nodup_append] at hnd2 ⊢
    refine ⟨hnd2.1, by cases qw <;> simp, fun x hx y hy e => ?_⟩
    rcases hqa y hy with h | h
    · exact hnd2.2.2 x hx y h e
    · have := hlt2 x hx; omega
  obtain ⟨N1, hob⟩ := h.upd hok hA (f' := ⟨n, p.1.safe, p.1.wait ++ bs⟩) hk2 hsa (by rw [List.map_append]; exact hwa) (fun x hx => by
    rcases List.mem_append.1 hx with h | h
    · exact .inl (List.mem_append_left _ h)
    · rcases hqa x h with h | h
      · exact .inl (List.mem_append_right _ h)
      · exact .inr h) hqn rfl
  rw [← hd2] at N1
  have lw : vload Tryd.prog σ.objs 22 (.optr p.2.rf 1) = some p.2.w := by rw [vload_obj g1.ob pGB]; rfl
  obtain ⟨σb, hσb⟩ : ∃ σb : St, σb = ⟨σa.objs.set p.2.rf (.cells [p.2.s, w']), σa.toks⟩ := ⟨_, rfl⟩
  have st : vstore Tryd.prog σa 22 (.optr p.2.rf 1) w' = some σb := by rw [vstore_obj hob SBB h1a (by simp), hσb]; rfl
  rw [← hσb] at N1
  obtain ⟨fs1, D1, K1, I1⟩ := N1
  have hgt := hok.get hA.g
  have ok2 : d2.Ok := by
    rw [hd2]
    refine hok.put hgt.2.2.1 (by simp only [Fl.len, List.length_append]; omega) fun hn => ?_
    simp only at hn
    rw [hA.g] at hn
    cases hn
  have hw2 : d2.writes < 4611686018427387904 := by rw [hd2]; exact hw
  have hkp : d2.keep = d.keep := by rw [hd2]
  obtain ⟨σ1, r1, r2, r3, r4, σ2, r5, r6⟩ := rawNext D1 ok2 hw2
  simp only [k47_a, WKV, Nat.reduceLT, Nat.reduceEqDiff, ↓reduceIte, reduceCtorEq, Nat.reduceAdd, Int.reduceLT, Int.reduceNeg, noSB, h8, h2, h0, pFF1, lw, ha, st]
  refine KD.ret r1 ?_
  cases hgo : (rawD d2).1 with
  | true =>
    simp only [k47_a, WKV, Nat.reduceLT, Nat.reduceEqDiff, ↓reduceIte, reduceCtorEq, Nat.reduceAdd, Int.reduceLT, Int.reduceNeg, noSB, h0]
    refine KD.ret r5 ?_
    simp only [k47_a, WKV, Nat.reduceLT, Nat.reduceEqDiff, ↓reduceIte, reduceCtorEq, Nat.reduceAdd, Int.reduceLT, Int.reduceNeg, noSB]
    refine hR _ 20 ?_ (by rw [if_pos hgo])
    rw [if_pos hgo, ← hkp]
    exact Next.trans K1 I1 r6
  | false =>
    simp only [k47_a, WKV, Nat.reduceLT, Nat.reduceEqDiff, ↓reduceIte, reduceCtorEq, Nat.reduceAdd, Int.reduceLT, Int.reduceNeg, noSB, h0]
    refine hR _ 0 ?_ (by rw [if_neg (by rw [hgo]; simp)])
    rw [if_neg (by rw [hgo]; simp)]
    exact Next.trans K1 I1 ⟨fs1, r2, r3, fun x hx => .inl hx⟩
theorem append_sees {σ : St} {r rm : Nat} {d : Dk} {fs : List Ent} {v : V} {n bs : List UInt8} (h : DiskAt σ r d rm fs) (hok : d.Ok) (hw : d.writes < 4611686018427387904) (hb : RB σ v bs) (hbl : bs.length ≤ 1000000000) :
    ∃ q σ', Does Tryd.prog prims 47 [.optr r 0, .str n, v] σ q σ' ∧ (q = .ret (.int .i64 ((appendD n bs d).1 : Nat)) ∧ Next σ r rm fs σ' (appendD n bs d).2) := by
  apply k47_is.does (by simp)
  have lm : vload Tryd.prog σ.objs 68 (.optr r 0) = some (.omap rm) := by rw [vload_obj h.hd pGM]; rfl
  have lr : vload Tryd.prog σ.objs 3 (.optr r 1) = some (.int .i64 d.room) := by rw [vload_obj h.hd G3]; rfl
  obtain ⟨σd, hσd⟩ : ∃ σd : St, σd = ⟨σ.objs ++ [.dead], σ.toks⟩ := ⟨_, rfl⟩
  have Kd : KS (foot r rm fs) σ σd := by rw [hσd]; exact KS.push _ _ _
  have Dd : DiskAt σd r d rm fs := by rw [hσd]; exact h.pushed .dead
  have lr2 : vload Tryd.prog σd.objs 3 (.optr r 1) = some (.int .i64 d.room) := by rw [vload_obj Dd.hd G3]; rfl
  have lm2 : vload Tryd.prog σd.objs 68 (.optr r 0) = some (.omap rm) := by rw [vload_obj Dd.hd pGM]; rfl
  have hsz := size_does h hok
  rw [← hσd] at hsz
  have hbd : RB σd v bs := by
    rw [hσd]
    exact hb.keep ((Keep.refl σ).push _)
  have hszl := sizeD_le hok
  have hws : IntKind.i64.wrap (((sizeD d.files : Nat) : Int) + (bs.length : Nat)) = ((sizeD d.files + bs.length : Nat) : Int) := by rw [wrap_i64 (by omega) (by omega)]; omega
  have hkt : ∀ σ', Next σd r rm fs σ' (appendD n bs d).2 → Next σ r rm fs σ' (appendD n bs d).2 := fun σ' hN => Next.trans Kd (fun x hx => .inl hx) hN
  simp only [k47_a, WKV, Nat.reduceLT, Nat.reduceEqDiff, ↓reduceIte, reduceCtorEq, Nat.reduceAdd, Int.reduceLT, Int.reduceNeg, noSB, gD0, gD1]
  refine KD.ret (ready_does h n) ?_
  generalize hC : CC.seq k47_r14 _ = C14
  by_cases hr : readyD d n = 0
  · have hr' : ((readyD d n : Nat) : Int) = 0 := by omega
    cases hg : getF d.files n with
    | some f =>
      obtain ⟨a, p, b, hA⟩ := h.get_yes hok hg
      have hf : p.1 = f := by have := hA.g; rw [hg] at this; injection this with this; exact this.symm
      obtain ⟨g1, g2, g3⟩ := hA.ids h
      have hgt := hok.get hg
      have ls : vload Tryd.prog σ.objs 22 (.optr p.2.rf 0) = some p.2.s := by rw [vload_obj g1.ob pGB]; rfl
      have lw : vload Tryd.prog σ.objs 22 (.optr p.2.rf 1) = some p.2.w := by rw [vload_obj g1.ob pGB]; rfl
      have vs : vlen Tryd.prog 22 p.2.s = some (.int .i64 (p.1.safe.length : Nat)) := by rw [rowOf_len g1.s, List.length_map]
      have vw : vlen Tryd.prog 22 p.2.w = some (.int .i64 (p.1.wait.length : Nat)) := by rw [rowOf_len g1.w, List.length_map]
      have hlen : p.1.safe.length + p.1.wait.length ≤ 1048576 := by rw [hf]; exact hgt.2.2.2
      have w1 : IntKind.i64.wrap (1048576 - (p.1.safe.length : Int)) = 1048576 - (p.1.safe.length : Int) := wrap_i64 (by omega) (by omega)
      have w2 : IntKind.i64.wrap (1048576 - (p.1.safe.length : Int) - (p.1.wait.length : Int)) = 1048576 - (p.1.safe.length : Int) - (p.1.wait.length : Int) := wrap_i64 (by omega) (by omega)
      have hn0 : ¬ readyD d n ≠ 0 := fun h => h hr
      by_cases hbig : 1048576 < f.len + bs.length
      · have e : appendD n bs d = (3, d) := by unfold appendD; rw [if_neg hn0, hg]; simp only [Option.getD_some]; rw [if_pos hbig]
        have hbig' : 1048576 - (p.1.safe.length : Int) - (p.1.wait.length : Int) < (bs.length : Nat) := by rw [hf]; simp only [Fl.len] at hbig; omega
        simp only [k47_a, WKV, Nat.reduceLT, Nat.reduceEqDiff, ↓reduceIte, reduceCtorEq, Nat.reduceAdd, Int.reduceLT, Int.reduceNeg, noSB, hr', pFA r 0 (by omega), lm, h.look_yes hA, hb.len, neq_optr pTF, eql_optr pTF, pFF0, pFF1, ls, lw, vs, vw, w1, w2, hbig', e]
        exact ⟨rfl, Next.refl h⟩
      · have hbig' : ¬ 1048576 - (p.1.safe.length : Int) - (p.1.wait.length : Int) < (bs.length : Nat) := by rw [hf]; simp only [Fl.len] at hbig; omega
        have hb2 : ¬ (1048576 : Int) < (bs.length : Nat) := by simp only [Fl.len] at hbig; omega
        simp only [k47_a, WKV, Nat.reduceLT, Nat.reduceEqDiff, ↓reduceIte, reduceCtorEq, Nat.reduceAdd, Int.reduceLT, Int.reduceNeg, noSB, hr', pFA r 0 (by omega), pFA r 1 (by omega), lm, lr, lr2, h.look_yes hA, hb.len, neq_optr pTF, eql_optr pTF, pFF0, pFF1, ls, lw, vs, vw, w1, w2, hbig', hb2, decide_false]
        refine KD.ret hsz ?_
        by_cases hfull : d.room < ((sizeD d.files + bs.length : Nat) : Int)
        · have e : appendD n bs d = (22, d) := by
            unfold appendD; rw [if_neg hn0, hg]; simp only [Option.getD_some]; rw [if_neg hbig, if_pos (.inr hfull)]
          rw [e] at hkt ⊢
          simp only [k47_a, WKV, Nat.reduceLT, Nat.reduceEqDiff, ↓reduceIte, reduceCtorEq, Nat.reduceAdd, Int.reduceLT, Int.reduceNeg, noSB, hr', pFA r 0 (by omega), pFA r 1 (by omega), lm, lr, lr2, hb.len, hws, hfull, decide_true]
          exact ⟨rfl, hkt _ (Next.refl Dd)⟩
        · have e : appendD n bs d = (if (rawD { d with files := putF ⟨n, f.safe, f.wait ++ bs⟩ d.files }).1 = true then (20, offD d.keep (rawD { d with files := putF ⟨n, f.safe, f.wait ++ bs⟩ d.files }).2) else (0, (rawD { d with files := putF ⟨n, f.safe, f.wait ++ bs⟩ d.files }).2)) := by
            unfold appendD; rw [if_neg hn0, hg]; simp only [Option.getD_some]; rw [if_neg hbig, if_neg (fun h => h.elim (fun h1 => by simp at h1) hfull)]
          simp only [k47_a, WKV, Nat.reduceLT, Nat.reduceEqDiff, ↓reduceIte, reduceCtorEq, Nat.reduceAdd, Int.reduceLT, Int.reduceNeg, noSB, hr', pFA r 0 (by omega), pFA r 1 (by omega), lm, lr, lr2, hb.len, hws, hfull, decide_false, eql_optr pTF]
          rw [← hC]
          refine append_tail Dd hok hA hw hbd (by rw [hf]; omega) (by simp [upd_some]) (by simp [upd_some]) (by simp [upd_some]) _ rfl ?_
          intro σ' x hN hx
          rw [hf] at hN hx
          refine ⟨?_, hkt σ' ?_⟩
          · rw [hx, e]; split <;> rfl
          · rw [e]
            split at hN
            · rename_i h9; rw [if_pos h9]; exact hN
            · rename_i h9; rw [if_neg h9]; exact hN
    | none =>
      have hn0 : ¬ readyD d n ≠ 0 := fun h => h hr
      have hlD : vmapLen Tryd.prog σ.objs 68 (.omap rm) = some (.int .i64 (d.files.length : Nat)) := by
        simp only [vmapLen, pTM, h.hm, List.length_map]
        have := h.pm.length_eq
        rw [List.length_map] at this
        rw [this]
      have hvl : vlen Tryd.prog 68 (.omap rm) = none := by simp [vlen, pTM]
      by_cases hbig : 1048576 < bs.length
      · have hbig' : (1048576 : Int) < (bs.length : Nat) := by omega
        have e : appendD n bs d = (3, d) := by unfold appendD; rw [if_neg hn0, hg]; simp only [Option.getD_none]; rw [if_pos (by simp [Fl.len]; omega)]
        simp only [k47_a, WKV, Nat.reduceLT, Nat.reduceEqDiff, ↓reduceIte, reduceCtorEq, Nat.reduceAdd, Int.reduceLT, Int.reduceNeg, noSB, hr', pFA r 0 (by omega), lm, h.look_no hg, hb.len, neq_nilp pTF, eql_nilp pTF, ofNilP, hbig', decide_true, e]
        exact ⟨rfl, Next.refl h⟩
      · have hbig' : ¬ (1048576 : Int) < (bs.length : Nat) := by omega
        have hbig2 : ¬ 1048576 < (⟨n, [], []⟩ : Fl).len + bs.length := by simp [Fl.len]; omega
        simp only [k47_a, WKV, Nat.reduceLT, Nat.reduceEqDiff, ↓reduceIte, reduceCtorEq, Nat.reduceAdd, Int.reduceLT, Int.reduceNeg, noSB, hr', pFA r 0 (by omega), lm, h.look_no hg, hb.len, neq_nilp pTF, eql_nilp pTF, ofNilP, hbig', decide_false, hlD, hvl]
        by_cases hmany : 16 ≤ d.files.length
        · have hmany' : (16 : Int) ≤ (d.files.length : Nat) := by omega
          have e : appendD n bs d = (22, d) := by
            unfold appendD; rw [if_neg hn0, hg]; simp only [Option.getD_none]; rw [if_neg hbig2, if_pos (.inl ⟨rfl, hmany⟩)]
          simp only [k47_a, WKV, Nat.reduceLT, Nat.reduceEqDiff, ↓reduceIte, reduceCtorEq, Nat.reduceAdd, Int.reduceLT, Int.reduceNeg, noSB, hmany', decide_true, e]
          exact ⟨rfl, Next.refl h⟩
        · have hmany' : ¬ (16 : Int) ≤ (d.files.length : Nat) := by omega
          simp only [k47_a, WKV, Nat.reduceLT, Nat.reduceEqDiff, ↓reduceIte, reduceCtorEq, Nat.reduceAdd, Int.reduceLT, Int.reduceNeg, noSB, hmany', decide_false, pFA r 0 (by omega), pFA r 1 (by omega), lm, lr, lr2, hb.len]
          refine KD.ret hsz ?_
          by_cases hfull : d.room < ((sizeD d.files + bs.length : Nat) : Int)
          · have e : appendD n bs d = (22, d) := by
              unfold appendD; rw [if_neg hn0, hg]; simp only [Option.getD_none]; rw [if_neg hbig2, if_pos (.inr hfull)]
            rw [e] at hkt ⊢
            simp only [k47_a, WKV, Nat.reduceLT, Nat.reduceEqDiff, ↓reduceIte, reduceCtorEq, Nat.reduceAdd, Int.reduceLT, Int.reduceNeg, noSB, hr', pFA r 0 (by omega), pFA r 1 (by omega), lm, lr, lr2, hb.len, hws, hfull, decide_true]
            exact ⟨rfl, hkt _ (Next.refl Dd)⟩
          · obtain ⟨x, hx⟩ : ∃ x : Dk, x = { d with files := putF ⟨n, [], bs⟩ d.files } := ⟨_, rfl⟩
            have e : appendD n bs d = (if (rawD x).1 = true then (20, offD d.keep (rawD x).2) else (0, (rawD x).2)) := by
              unfold appendD; rw [if_neg hn0, hg]; simp only [Option.getD_none]; rw [if_neg hbig2, if_neg (fun h => h.elim (fun h1 => hmany h1.2) hfull), hx]; rfl
            obtain ⟨s1, hs1⟩ : ∃ s1 : St, s1 = ⟨σd.objs ++ [.cells [.nils, .nils]], σd.toks⟩ := ⟨_, rfl⟩
            obtain ⟨s2, p, d2, hst, hd2, hp1, hp2, D2, K2, A2, L2, I2⟩ := Dd.fresh hok hg (σ2 := s1) hs1
            have l1 : vload Tryd.prog s1.objs 68 (.optr r 0) = some (.omap rm) := by rw [hs1, vload_obj (Dd.pushed _).hd pGM]; rfl
            have hbf : vbuild Tryd.prog 78 [] = some (.agg [.nils, .nils]) := by kernel_rfl
            have ok2 : d2.Ok := by
              rw [hd2]
              exact hok.put (readyD_named hr).1 (by simp [Fl.len]) fun _ => by omega
            have hb2 : RB s2 v bs := hbd.ks K2 fun q hq cs hc => by
              rw [List.mem_singleton] at hq
              subst hq
              rw [Dd.hm] at hc
              cases hc
            have K2 : KS (foot r rm fs) σd s2 := K2.mono fun q hq => .inl (by rw [List.mem_singleton] at hq; subst hq; simp [foot])
            simp only [k47_a, WKV, Nat.reduceLT, Nat.reduceEqDiff, ↓reduceIte, reduceCtorEq, Nat.reduceAdd, Int.reduceLT, Int.reduceNeg, noSB, hr', pFA r 0 (by omega), pFA r 1 (by omega), lm, lr, lr2, hb.len, hws, hfull, decide_false, eql_nilp pTF, hbf, vbox, vcells, ← hs1, l1, hst]
            rw [← hC]
            refine append_tail D2 ok2 A2 (by rw [hd2]; exact hw) hb2 (by rw [hp1]; simp [Fl.len]; omega) (by simp [upd_some]) (by simp [upd_some]) (by simp [upd_some, hp2]) x ?_ ?_
            · rw [hx, hd2, hp1]; simp only [List.nil_append]; rw [putF_putF (x := ⟨n, [], bs⟩) (y := ⟨n, [], []⟩) rfl]
            intro σ' c hN hc
            have hkp : d2.keep = d.keep := by rw [hd2]
            rw [hkp] at hN
            refine ⟨?_, hkt σ' ?_⟩
            · rw [hc, e]; split <;> rfl
            · rw [e]
              split at hN
              · rename_i h9; rw [if_pos h9]; exact Next.trans K2 I2 hN
              · rename_i h9; rw [if_neg h9]; exact Next.trans K2 I2 hN
  · have hr' : ¬ ((readyD d n : Nat) : Int) = 0 := by omega
    have e : appendD n bs d = (readyD d n, d) := by unfold appendD; rw [if_pos hr]
    simp only [k47_a, WKV, Nat.reduceLT, Nat.reduceEqDiff, ↓reduceIte, reduceCtorEq, Nat.reduceAdd, Int.reduceLT, Int.reduceNeg, noSB, hr', e]
    exact Next.refl h
theorem rowOf_news {objs : List Ob} {v : V} {q : Option Nat} {cs : List V} (h : rowOf objs v = some (q, cs)) : vnewsO Tryd.prog objs 22 v 1 = some (cs, cs.length) := by
  rcases rowOf_spec h with ⟨rfl, rfl, rfl⟩ | ⟨r, full, rfl, rfl, hr, hl, hc⟩
  · simp [vnewsO, vnews, pTB]
  · have h2 : List.take cs.length full = cs := hc.symm
    simp [vnewsO, vnews, pTB, hr, hl, h2]
theorem Has.facts {σ : St} {r rm : Nat} {d : Dk} {fs a b : List Ent} {p : Ent} {n : List UInt8} (h : DiskAt σ r d rm fs) (hok : d.Ok) (hA : Has d fs a b p n) :
    vload Tryd.prog σ.objs 22 (.optr p.2.rf 0) = some p.2.s ∧ vload Tryd.prog σ.objs 22 (.optr p.2.rf 1) = some p.2.w ∧ vlen Tryd.prog 22 p.2.s = some (.int .i64 (p.1.safe.length : Nat)) ∧ vlen Tryd.prog 22 p.2.w = some (.int .i64 (p.1.wait.length : Nat)) ∧
      p.1.safe.length + p.1.wait.length ≤ 1048576 ∧ namedD n = true ∧ (p.2.rs.toList ++ p.2.rw.toList).Nodup ∧ p.2.rf ∉ p.2.rs.toList ++ p.2.rw.toList := by
  obtain ⟨g1, g2, g3⟩ := hA.ids h
  have hgt := hok.get hA.g
  simp only [FO.ids, List.nodup_cons] at g2
  exact ⟨by rw [vload_obj g1.ob pGB]; rfl, by rw [vload_obj g1.ob pGB]; rfl, by rw [rowOf_len g1.s, List.length_map], by rw [rowOf_len g1.w, List.length_map], hgt.2.2.2, hgt.2.2.1, g2.2, g2.1⟩
theorem sync_sees {σ : St} {r rm : Nat} {d : Dk} {fs : List Ent} {n : List UInt8} (h : DiskAt σ r d rm fs) (hok : d.Ok) (hw : d.writes < 4611686018427387904) :
    ∃ q σ', Does Tryd.prog prims 48 [.optr r 0, .str n] σ q σ' ∧ (q = .ret (.int .i64 ((syncD n d).1 : Nat)) ∧ Next σ r rm fs σ' (syncD n d).2) := by
  apply k48_is.does (by simp)
  simp only [k48_a, WKV, Nat.reduceLT, Nat.reduceEqDiff, ↓reduceIte, reduceCtorEq, Nat.reduceAdd, Int.reduceLT, Int.reduceNeg, noSB, gD0, gD1]
  by_cases hz : thereD d n = 0
  · obtain ⟨a, b, p, hA, hr⟩ := there_ok h hok hz
    refine KD.ret (there_yes h hr hA) ?_
    obtain ⟨σ1, r1, D1, r3, r4, σ2, r5, r6⟩ := rawNext h hok hw
    obtain ⟨f1, f2, f3, f4, f5⟩ := raw_files d
    simp only [k48_a, WKV, Nat.reduceLT, Nat.reduceEqDiff, ↓reduceIte, reduceCtorEq, Nat.reduceAdd, Int.reduceLT, Int.reduceNeg, noSB]
    refine KD.ret r1 ?_
    have hz' : ¬ thereD d n ≠ 0 := fun h => h hz
    cases hgo : (rawD d).1 with
    | true =>
      have e : syncD n d = (20, offD d.keep (rawD d).2) := by unfold syncD; rw [if_neg hz', if_pos hgo]
      simp only [k48_a, WKV, Nat.reduceLT, Nat.reduceEqDiff, ↓reduceIte, reduceCtorEq, Nat.reduceAdd, Int.reduceLT, Int.reduceNeg, noSB]
      refine KD.ret r5 ?_
      simp only [k48_a, WKV, Nat.reduceLT, Nat.reduceEqDiff, ↓reduceIte, reduceCtorEq, Nat.reduceAdd, Int.reduceLT, Int.reduceNeg, noSB, e]
      exact ⟨rfl, r6⟩
    | false =>
      have A1 := hA.files (d2 := (rawD d).2) f1
      have e : syncD n d = (0, { (rawD d).2 with files := putF ⟨n, p.1.safe ++ p.1.wait, []⟩ d.files }) := by
        unfold syncD; rw [if_neg hz', if_neg (by rw [hgo]; simp), hA.g]; rfl
      obtain ⟨g1, g2, g3⟩ := A1.ids D1
      obtain ⟨l1, l2, v1, v2, hl, hn, hnd, hrf⟩ := A1.facts D1 hok.raw
      obtain ⟨s', qs, σa, ha, hsa, hka, hqa, h1a⟩ := rowApp g1.s (rowOf_news g1.w) (byteV_one _) (by simp; omega)
      obtain ⟨N1, hob⟩ := D1.upd hok.raw A1 (f' := ⟨n, p.1.safe ++ p.1.wait, []⟩) (s' := s') (w' := .nils) (qs := qs) (qw := none) (hka.mono fun x hx => .inl (List.mem_append_left _ hx)) (by rw [List.map_append]; exact hsa) rfl (fun x hx => by
        rcases List.mem_append.1 hx with h | h
        · rcases hqa x h with h | h
          · exact .inl (List.mem_append_left _ h)
          · exact .inr h
        · cases h) (by cases qs <;> simp) rfl
      obtain ⟨σb, hσb⟩ : ∃ σb : St, σb = ⟨σa.objs.set p.2.rf (.cells [s', p.2.w]), σa.toks⟩ := ⟨_, rfl⟩
      have st1 : vstore Tryd.prog σa 22 (.optr p.2.rf 0) s' = some σb := by rw [vstore_obj hob SBB h1a (by simp), hσb]; rfl
      have hobb : σb.objs[p.2.rf]? = some (.cells [s', p.2.w]) := by rw [hσb]; exact obj_set hob
      have st2 : vstore Tryd.prog σb 22 (.optr p.2.rf 1) .nils = some ⟨σa.objs.set p.2.rf (.cells [s', .nils]), σa.toks⟩ := by
        rw [vstore_obj hobb SBB rfl (by simp), hσb]; simp [List.set_set]
      simp only [k48_a, WKV, Nat.reduceLT, Nat.reduceEqDiff, ↓reduceIte, reduceCtorEq, Nat.reduceAdd, Int.reduceLT, Int.reduceNeg, noSB, pFF0, pFF1, l1, l2, ha, st1, st2, nilEP, e]
      rw [f1] at N1
      exact ⟨rfl, Next.trans r3 (fun x hx => .inl hx) N1⟩
  · refine KD.ret (there_no h n hz) ?_
    have hz' : ¬ ((thereD d n : Nat) : Int) = 0 := by omega
    have e : syncD n d = (thereD d n, d) := by unfold syncD; rw [if_pos hz]
    simp only [k48_a, WKV, Nat.reduceLT, Nat.reduceEqDiff, ↓reduceIte, reduceCtorEq, Nat.reduceAdd, Int.reduceLT, Int.reduceNeg, noSB, hz', e]
    exact Next.refl h
theorem DiskAt.gone {σ : St} {r rm : Nat} {d : Dk} {fs a b : List Ent} {p : Ent} {n : List UInt8} (h : DiskAt σ r d rm fs) (hok : d.Ok) (hA : Has d fs a b p n) :
    ∃ σ', vmapDel Tryd.prog σ 68 (.omap rm) (.str n) = some σ' ∧ DiskAt σ' r { d with files := dropF n d.files } rm (a ++ b) ∧ KS [rm] σ σ' ∧ FAt σ'.objs p ∧ p.2.ids.Nodup ∧ (∀ x ∈ p.2.ids, x ∈ foot r rm fs ∧ x ∉ foot r rm (a ++ b)) ∧ ∀ x ∈ foot r rm (a ++ b), x ∈ foot r rm fs := by
  have hlt := h.lt
  have hN := h.nd
  obtain ⟨g1, g2, g3⟩ := hA.ids h
  have hfs := hA.e
  subst hfs
  have hpm := h.pm
  unfold foot at hN
  rw [List.nodup_cons, List.nodup_cons, flat_mid] at hN
  obtain ⟨n1, n2, n3⟩ := hN
  have hml := hlt rm (by simp [foot])
  have hv := find_yes (a := a) (b := b) (p := p) (by rw [hA.nm]; exact hA.a) 0
  rw [hA.nm] at hv
  have hne : ∀ x, x ∈ (a ++ p :: b).flatMap (fun p => p.2.ids) → rm ≠ x := fun x hx e => n2 (by rw [flat_mid] at hx; rw [e]; exact hx)
  have hkeep : ∀ q ∈ a ++ p :: b, FAt (σ.objs.set rm (.mp ((a ++ b).map fent))) q := fun q hq => (h.hf q hq).frame fun x hx o ho => by
    rw [gA3 (hne x (List.mem_flatMap.2 ⟨q, hq, hx⟩))]; exact ho
  have hids : ∀ x ∈ foot r rm (a ++ b), x ∈ foot r rm (a ++ p :: b) := by
    intro x hx
    simp only [foot, List.mem_cons, List.flatMap_append, List.flatMap_cons, List.mem_append] at hx ⊢
    rcases hx with h | h | h | h
    · exact .inl h
    · exact .inr (.inl h)
    · exact .inr (.inr (.inl h))
    · exact .inr (.inr (.inr (.inr h)))
  have hsub : ((a ++ b).flatMap fun p => p.2.ids).Sublist ((a ++ p :: b).flatMap fun p => p.2.ids) := by
    rw [flat_mid, List.flatMap_append]
    exact (List.Sublist.refl _).append (List.sublist_append_right ..)
  refine ⟨⟨σ.objs.set rm (.mp ((a ++ b).map fent)), σ.toks⟩, ?_, ⟨?_, ?_, fun q hq => hkeep q ?_, ?_, ?_⟩, KS.set (.inl (by simp)) _, hkeep p (by simp), g2, fun x hx => ⟨?_, fun hx2 => ?_⟩, hids⟩
  · simp only [vmapDel, pTM, h.hm, keyD, hv]
    congr 3
    rw [List.map_append, List.map_cons, Nat.zero_add, ← List.length_map (f := fent), List.eraseIdx_append_of_length_le (Nat.le_refl _), Nat.sub_self, List.map_append]
    rfl
  · simp only
    rw [gA3 (fun e => n1 (by rw [e]; exact List.mem_cons_self ..))]
    exact h.hd
  · simp only
    rw [gA5 hml]
  · rcases List.mem_append.1 hq with h | h <;> simp [h]
  · have := h.nd
    unfold foot at this ⊢
    exact (List.Sublist.cons_cons _ (List.Sublist.cons_cons _ hsub)).nodup this
  · simp only [List.map_append, List.map_cons] at hpm ⊢
    have e : (a.map (·.1) ++ b.map (·.1)) = dropF n (a.map (·.1) ++ p.1 :: b.map (·.1)) := by
      unfold dropF
      rw [List.filter_append, List.filter_cons]
      simp only [hA.nm, ne_eq, not_true_eq_false, decide_false, Bool.false_eq_true, ↓reduceIte]
      rw [List.filter_eq_self.2, List.filter_eq_self.2]
      · intro f hf
        obtain ⟨q, hq, rfl⟩ := List.mem_map.1 hf
        simp [hA.b q hq]
      · intro f hf
        obtain ⟨q, hq, rfl⟩ := List.mem_map.1 hf
        simp [hA.a q hq]
    rw [e]
    exact hpm.filter _
  · simp only [foot, List.mem_cons, List.mem_flatMap]
    exact .inr (.inr ⟨p, by simp, hx⟩)
  · simp only [foot, List.mem_cons, List.flatMap_append, List.mem_append] at hx2
    rw [List.nodup_append, List.nodup_append] at n3
    rcases hx2 with h | h | h | h
    · subst h; exact n1 (List.mem_cons_of_mem _ (by simp [hx]))
    · subst h; exact n2 (by simp [hx])
    · exact n3.2.2 x h x (List.mem_append_left _ hx) rfl
    · exact n3.2.1.2.2 x hx x h rfl
theorem putF_new {l : List Fl} {x : Fl} (hg : getF l x.name = none) : (putF x l).Perm (x :: l) := by
  unfold putF
  refine (List.perm_middle).trans (.cons _ ?_)
  have e : (l.filter fun f => decide (x.name < f.name)) = l.filter fun f => !decide (f.name < x.name) := by
    refine List.filter_congr fun f hf => ?_
    have hne := getF_none hg f hf
    rcases lt_or hne with h | h
    · have : ¬ x.name < f.name := fun h2 => lt_irrefl' _ (lt_trans' h h2)
      simp [h, this]
    · have : ¬ f.name < x.name := fun h2 => lt_irrefl' _ (lt_trans' h h2)
      simp [h, this]
  rw [e]
  exact List.filter_append_perm _ _
theorem DiskAt.come {σ : St} {r rm : Nat} {d : Dk} {fs : List Ent} {p : Ent} (h : DiskAt σ r d rm fs) (hok : d.Ok) (hF : FAt σ.objs p) (hnd : p.2.ids.Nodup) (hdj : ∀ x ∈ p.2.ids, x ∉ foot r rm fs) :
    ∃ σ' fs', vmapSet Tryd.prog σ 68 (.omap rm) (.str p.1.name) (.optr p.2.rf 0) = some σ' ∧ DiskAt σ' r { d with files := putF p.1 d.files } rm fs' ∧ KS [rm] σ σ' ∧ ∀ x ∈ foot r rm fs', x ∈ foot r rm fs ∨ x ∈ p.2.ids := by
  have hlt := h.lt
  have hN := h.nd
  have hN0 := hN
  have hml := hlt rm (by simp [foot])
  unfold foot at hN
  rw [List.nodup_cons, List.nodup_cons] at hN
  obtain ⟨n1, n2, n3⟩ := hN
  have hkeep : ∀ q ∈ fs, ∀ o, FAt (σ.objs.set rm o) q := fun q hq o => (h.hf q hq).frame fun x hx o ho => by
    rw [gA3 (fun e => n2 (by rw [e]; exact List.mem_flatMap.2 ⟨q, hq, hx⟩))]; exact ho
  have hkp : ∀ o, FAt (σ.objs.set rm o) p := fun o => hF.frame fun x hx o ho => by
    rw [gA3 (fun e => hdj x hx (by rw [← e]; simp [foot]))]; exact ho
  have hrm : rm ≠ r := fun e => n1 (by rw [← e]; exact List.mem_cons_self ..)
  cases hg : getF d.files p.1.name with
  | none =>
    have hno := h.get_no hg
    refine ⟨⟨σ.objs.set rm (.mp ((fs ++ [p]).map fent)), σ.toks⟩, fs ++ [p], ?_, ⟨?_, ?_, ?_, ?_, ?_⟩, KS.set (.inl (by simp)) _, ?_⟩
    · simp only [vmapSet, pTM, h.hm, keyD, find_no hno]
      rw [List.map_append]
      rfl
    · simp only; rw [gA3 hrm]; exact h.hd
    · simp only; rw [gA5 hml]
    · intro q hq
      rcases List.mem_append.1 hq with hq | hq
      · exact hkeep q hq _
      · rw [List.mem_singleton] at hq; subst hq; exact hkp _
    · have e : foot r rm (fs ++ [p]) = foot r rm fs ++ p.2.ids := by simp [foot]
      rw [e, List.nodup_append]
      exact ⟨hN0, hnd, fun x hx y hy e => hdj y hy (by rw [← e]; exact hx)⟩
    · simp only [List.map_append, List.map_cons, List.map_nil]
      exact (List.perm_append_singleton ..).trans ((h.pm.cons _).trans (putF_new hg).symm)
    · intro x hx
      have e : foot r rm (fs ++ [p]) = foot r rm fs ++ p.2.ids := by simp [foot]
      rw [e, List.mem_append] at hx
      exact hx
  | some f =>
    obtain ⟨a, q, b, hA⟩ := h.get_yes hok hg
    have hfs := hA.e
    subst hfs
    have hpm := h.pm
    have hv := find_yes (a := a) (b := b) (p := q) (by rw [hA.nm]; exact hA.a) 0
    rw [hA.nm] at hv
    have hmem : ∀ x ∈ foot r rm (a ++ p :: b), x ∈ foot r rm (a ++ q :: b) ∨ x ∈ p.2.ids := by
      intro x hx
      simp only [foot, List.mem_cons, List.flatMap_append, List.flatMap_cons, List.mem_append] at hx ⊢
      rcases hx with h | h | h | h | h
      · exact .inl (.inl h)
      · exact .inl (.inr (.inl h))
      · exact .inl (.inr (.inr (.inl h)))
      · exact .inr h
      · exact .inl (.inr (.inr (.inr (.inr h))))
    refine ⟨⟨σ.objs.set rm (.mp ((a ++ p :: b).map fent)), σ.toks⟩, a ++ p :: b, ?_, ⟨?_, ?_, ?_, ?_, ?_⟩, KS.set (.inl (by simp)) _, hmem⟩
    · simp only [vmapSet, pTM, h.hm, keyD, hv]
      congr 3
      rw [List.map_append, List.map_cons, Nat.zero_add, ← List.length_map (f := fent), List.set_append_right _ _ (Nat.le_refl _), Nat.sub_self, List.map_append]
      rfl
    · simp only; rw [gA3 hrm]; exact h.hd
    · simp only; rw [gA5 hml]
    · intro x hx
      simp only [List.mem_append, List.mem_cons] at hx
      rcases hx with hx | rfl | hx
      · exact hkeep x (by simp [hx]) _
      · exact hkp _
      · exact hkeep x (by simp [hx]) _
    · unfold foot at hN0 ⊢
      rw [flat_mid] at hN0 ⊢
      have hdj2 : ∀ x ∈ p.2.ids, x ∉ r :: rm :: ((a.flatMap fun p => p.2.ids) ++ (q.2.ids ++ b.flatMap fun p => p.2.ids)) := fun x hx hx2 => hdj x hx (by unfold foot; rw [flat_mid]; exact hx2)
      rw [← List.cons_append, ← List.cons_append] at hN0 ⊢
      rw [List.nodup_append, List.nodup_append] at hN0 ⊢
      obtain ⟨m1, ⟨m2, m3, m4⟩, m5⟩ := hN0
      refine ⟨m1, ⟨hnd, m3, fun x hx y hy e => hdj2 x hx (by rw [e]; simp [hy])⟩, fun x hx y hy e => ?_⟩
      rcases List.mem_append.1 hy with hy | hy
      · refine hdj2 y hy ?_
        rw [← e]
        rw [← List.cons_append, ← List.cons_append]
        exact List.mem_append_left _ hx
      · exact m5 x hx y (List.mem_append_right _ hy) e
    · simp only [List.map_append, List.map_cons] at hpm ⊢
      exact putF_perm hok.rise hpm hA.nm.symm
theorem remove_sees {σ : St} {r rm : Nat} {d : Dk} {fs : List Ent} {n : List UInt8} (h : DiskAt σ r d rm fs) (hok : d.Ok) (hw : d.writes < 4611686018427387904) :
    ∃ q σ', Does Tryd.prog prims 46 [.optr r 0, .str n] σ q σ' ∧ (q = .ret (.int .i64 ((removeD n d).1 : Nat)) ∧ Next σ r rm fs σ' (removeD n d).2) := by
  apply k46_is.does (by simp)
  simp only [k46_a, WKV, Nat.reduceLT, Nat.reduceEqDiff, ↓reduceIte, reduceCtorEq, Nat.reduceAdd, Int.reduceLT, Int.reduceNeg, noSB, gD0, gD1]
  by_cases hz : thereD d n = 0
  · obtain ⟨a, b, p, hA, hr⟩ := there_ok h hok hz
    refine KD.ret (there_yes h hr hA) ?_
    obtain ⟨σ1, r1, D1, r3, r4, σ2, r5, r6⟩ := rawNext h hok hw
    obtain ⟨f1, f2, f3, f4, f5⟩ := raw_files d
    simp only [k46_a, WKV, Nat.reduceLT, Nat.reduceEqDiff, ↓reduceIte, reduceCtorEq, Nat.reduceAdd, Int.reduceLT, Int.reduceNeg, noSB]
    refine KD.ret r1 ?_
    have hz' : ¬ thereD d n ≠ 0 := fun h => h hz
    cases hgo : (rawD d).1 with
    | true =>
      have e : removeD n d = (20, offD d.keep (rawD d).2) := by unfold removeD; rw [if_neg hz', if_pos hgo]
      simp only [k46_a, WKV, Nat.reduceLT, Nat.reduceEqDiff, ↓reduceIte, reduceCtorEq, Nat.reduceAdd, Int.reduceLT, Int.reduceNeg, noSB]
      refine KD.ret r5 ?_
      simp only [k46_a, WKV, Nat.reduceLT, Nat.reduceEqDiff, ↓reduceIte, reduceCtorEq, Nat.reduceAdd, Int.reduceLT, Int.reduceNeg, noSB, e]
      exact ⟨rfl, r6⟩
    | false =>
      have A1 := hA.files (d2 := (rawD d).2) f1
      have e : removeD n d = (0, { (rawD d).2 with files := dropF n d.files }) := by
        unfold removeD; rw [if_neg hz', if_neg (by rw [hgo]; simp)]
      have lm : vload Tryd.prog σ1.objs 68 (.optr r 0) = some (.omap rm) := by rw [vload_obj D1.hd pGM]; rfl
      obtain ⟨σb, hdl, N1, K1, _, _, _, I1⟩ := D1.gone hok.raw A1
      simp only [k46_a, WKV, Nat.reduceLT, Nat.reduceEqDiff, ↓reduceIte, reduceCtorEq, Nat.reduceAdd, Int.reduceLT, Int.reduceNeg, noSB, pFA r 0 (by omega), lm, hdl, e]
      rw [f1] at N1
      exact ⟨rfl, Next.trans r3 (fun x hx => .inl hx) ⟨_, N1, K1.mono fun x hx => .inl (by rw [List.mem_singleton] at hx; subst hx; simp [foot]), fun x hx => .inl (I1 x hx)⟩⟩
  · refine KD.ret (there_no h n hz) ?_
    have hz' : ¬ ((thereD d n : Nat) : Int) = 0 := by omega
    have e : removeD n d = (thereD d n, d) := by unfold removeD; rw [if_pos hz]
    simp only [k46_a, WKV, Nat.reduceLT, Nat.reduceEqDiff, ↓reduceIte, reduceCtorEq, Nat.reduceAdd, Int.reduceLT, Int.reduceNeg, noSB, hz', e]
    exact Next.refl h
theorem thereD_cases (d : Dk) (n : List UInt8) : (namedD n = false → thereD d n = 1) ∧ (namedD n = true → thereD d n = 0 ∨ thereD d n = 20 ∨ thereD d n = 21) := by
  unfold thereD readyD
  cases h1 : namedD n <;> cases h2 : d.on <;> cases h3 : (getF d.files n).isNone <;> simp
theorem rename_sees {σ : St} {r rm : Nat} {d : Dk} {fs : List Ent} {n m : List UInt8} (h : DiskAt σ r d rm fs) (hok : d.Ok) (hw : d.writes < 4611686018427387904) :
    ∃ q σ', Does Tryd.prog prims 49 [.optr r 0, .str n, .str m] σ q σ' ∧ (q = .ret (.int .i64 ((renameD n m d).1 : Nat)) ∧ Next σ r rm fs σ' (renameD n m d).2) := by
  apply k49_is.does (by simp)
  simp only [k49_a, WKV, Nat.reduceLT, Nat.reduceEqDiff, ↓reduceIte, reduceCtorEq, Nat.reduceAdd, Int.reduceLT, Int.reduceNeg, noSB, gD0, gD1]
  obtain ⟨c1, c2⟩ := thereD_cases d n
  by_cases hz : thereD d n = 0
  · obtain ⟨a, b, p, hA, hr⟩ := there_ok h hok hz
    have hn := (readyD_named hr).1
    refine KD.ret (there_yes h hr hA) ?_
    have z2 : ¬ (0 : Int) = 2 := by decide
    have z1 : ¬ (0 : Int) = 1 := by decide
    simp only [k49_a, WKV, Nat.reduceLT, Nat.reduceEqDiff, ↓reduceIte, reduceCtorEq, Nat.reduceAdd, Int.reduceLT, Int.reduceNeg, noSB, z2, z1, decide_false]
    refine KD.ret (named_does m σ) ?_
    have hz' : ¬ thereD d n ≠ 0 := fun h => h hz
    cases hm : namedD m with
    | false =>
      have e : renameD n m d = (1, d) := by unfold renameD; rw [if_pos (.inr hm)]
      simp only [k49_a, WKV, Nat.reduceLT, Nat.reduceEqDiff, ↓reduceIte, reduceCtorEq, Nat.reduceAdd, Int.reduceLT, Int.reduceNeg, noSB, Bool.not_false, e]
      exact ⟨rfl, Next.refl h⟩
    | true =>
      have hnm : ¬ (namedD n = false ∨ namedD m = false) := by rw [hn, hm]; simp
      obtain ⟨σ1, r1, D1, r3, r4, σ2, r5, r6⟩ := rawNext h hok hw
      obtain ⟨f1, f2, f3, f4, f5⟩ := raw_files d
      simp only [k49_a, WKV, Nat.reduceLT, Nat.reduceEqDiff, ↓reduceIte, reduceCtorEq, Nat.reduceAdd, Int.reduceLT, Int.reduceNeg, noSB, Bool.not_true]
      refine KD.ret r1 ?_
      cases hgo : (rawD d).1 with
      | true =>
        have e : renameD n m d = (20, offD d.keep (rawD d).2) := by unfold renameD; rw [if_neg hnm, if_neg hz', if_pos hgo]
        simp only [k49_a, WKV, Nat.reduceLT, Nat.reduceEqDiff, ↓reduceIte, reduceCtorEq, Nat.reduceAdd, Int.reduceLT, Int.reduceNeg, noSB]
        refine KD.ret r5 ?_
        simp only [k49_a, WKV, Nat.reduceLT, Nat.reduceEqDiff, ↓reduceIte, reduceCtorEq, Nat.reduceAdd, Int.reduceLT, Int.reduceNeg, noSB, e]
        exact ⟨rfl, r6⟩
      | false =>
        have A1 := hA.files (d2 := (rawD d).2) f1
        have e : renameD n m d = (0, { (rawD d).2 with files := putF ⟨m, p.1.safe, p.1.wait⟩ (dropF n d.files) }) := by
          unfold renameD; rw [if_neg hnm, if_neg hz', if_neg (by rw [hgo]; simp), hA.g]; rfl
        have lm : vload Tryd.prog σ1.objs 68 (.optr r 0) = some (.omap rm) := by rw [vload_obj D1.hd pGM]; rfl
        obtain ⟨σb, hdl, N1, K1, F1, Q1, J1, I1⟩ := D1.gone hok.raw A1
        have lm2 : vload Tryd.prog σb.objs 68 (.optr r 0) = some (.omap rm) := by rw [vload_obj N1.hd pGM]; rfl
        obtain ⟨σc, fs', hst, N2, K2, I2⟩ := N1.come (p := (⟨m, p.1.safe, p.1.wait⟩, p.2)) (hok.raw.drop n) ⟨F1.ob, F1.s, F1.w, F1.cs, F1.ds⟩ Q1 (fun x hx => (J1 x hx).2)
        simp only [k49_a, WKV, Nat.reduceLT, Nat.reduceEqDiff, ↓reduceIte, reduceCtorEq, Nat.reduceAdd, Int.reduceLT, Int.reduceNeg, noSB, pFA r 0 (by omega), lm, hdl, lm2, hst, e]
        rw [f1] at N2
        have hrm : ∀ x ∈ [rm], x ∈ foot r rm fs ∨ σ1.objs.length ≤ x := fun x hx => .inl (by rw [List.mem_singleton] at hx; subst hx; simp [foot])
        refine ⟨rfl, Next.trans r3 (fun x hx => .inl hx) ⟨_, N2, (K1.mono hrm).trans K2 hrm, fun x hx => ?_⟩⟩
        rcases I2 x hx with h | h
        · exact .inl (I1 x h)
        · exact .inl (J1 x h).1
  · refine KD.ret (there_no h n hz) ?_
    have hz' : ¬ ((thereD d n : Nat) : Int) = 0 := by omega
    cases hn : namedD n with
    | false =>
      have ht := c1 hn
      have e : renameD n m d = (1, d) := by unfold renameD; rw [if_pos (.inl hn)]
      have z2 : ¬ (1 : Int) = 2 := by decide
      have ht' : ((thereD d n : Nat) : Int) = 1 := by omega
      rw [e]
      simp only [k49_a, WKV, Nat.reduceLT, Nat.reduceEqDiff, ↓reduceIte, reduceCtorEq, Nat.reduceAdd, Int.reduceLT, Int.reduceNeg, noSB, ht', z2, decide_false, decide_true]
      exact ⟨rfl, Next.refl h⟩
    | true =>
      have h2 : ¬ ((thereD d n : Nat) : Int) = 2 := by have := c2 hn; omega
      have h1 : ¬ ((thereD d n : Nat) : Int) = 1 := by have := c2 hn; omega
      simp only [k49_a, WKV, Nat.reduceLT, Nat.reduceEqDiff, ↓reduceIte, reduceCtorEq, Nat.reduceAdd, Int.reduceLT, Int.reduceNeg, noSB, h1, h2, decide_false]
      refine KD.ret (named_does m σ) ?_
      cases hm : namedD m with
      | false =>
        have e : renameD n m d = (1, d) := by unfold renameD; rw [if_pos (.inr hm)]
        simp only [k49_a, WKV, Nat.reduceLT, Nat.reduceEqDiff, ↓reduceIte, reduceCtorEq, Nat.reduceAdd, Int.reduceLT, Int.reduceNeg, noSB, Bool.not_false, e]
        exact ⟨rfl, Next.refl h⟩
      | true =>
        have hnm : ¬ (namedD n = false ∨ namedD m = false) := by rw [hn, hm]; simp
        have e : renameD n m d = (thereD d n, d) := by unfold renameD; rw [if_neg hnm, if_pos hz]
        simp only [k49_a, WKV, Nat.reduceLT, Nat.reduceEqDiff, ↓reduceIte, reduceCtorEq, Nat.reduceAdd, Int.reduceLT, Int.reduceNeg, noSB, Bool.not_true, hz', decide_false, e]
        exact Next.refl h
theorem TBB : Tryd.prog.underlying 37 = some (.slice 22) := by kernel_rfl
theorem grow_does {σ : St} {n : Nat} (hn : n ≤ 1000000000) : ∃ v q σ', Does Tryd.prog prims 75 [.nils, .int .i64 (n : Int)] σ (.ret v) σ' ∧ rowOf σ'.objs v = some (q, []) ∧ KS [] σ σ' ∧ ∀ x ∈ q.toList, σ.objs.length ≤ x := by
  have key : ∃ r σ', Does Tryd.prog prims 75 [.nils, .int .i64 (n : Int)] σ r σ' ∧ ∃ v q, r = .ret v ∧ rowOf σ'.objs v = some (q, []) ∧ KS [] σ σ' ∧ ∀ x ∈ q.toList, σ.objs.length ≤ x := by
    apply k75_is.does (by simp)
    have h0 : ¬ (n : Int) < 0 := by omega
    have hvc : vcap Tryd.prog 22 .nils = some (.int .i64 0) := by kernel_rfl
    have hvl : vlen Tryd.prog 22 .nils = some (.int .i64 0) := by kernel_rfl
    have hw0 : IntKind.i64.wrap ((0 : Int) - 0) = 0 := by decide
    have hwn : IntKind.i64.wrap ((n : Int) - 0) = n := by rw [wrap_i64 (by omega) (by omega)]; omega
    have hsl : vslice Tryd.prog 22 .nils none (some (.int .i64 0)) none = some .nils := by kernel_rfl
    by_cases hz : n = 0
    · have h1 : ¬ (0 : Int) < (n : Int) := by omega
      simp only [k75_a, WKV, Nat.reduceLT, Nat.reduceEqDiff, ↓reduceIte, reduceCtorEq, Nat.reduceAdd, Int.reduceLT, Int.reduceNeg, noSB, gD0, gD1, h0, hvc, hvl, hw0, hwn, nilEP, h1, decide_false]
      exact ⟨.nils, none, rfl, rfl, KS.refl _ _, fun x hx => by cases hx⟩
    · have h1 : (0 : Int) < (n : Int) := by omega
      have hno : vappendRow Tryd.prog σ 22 3 .nils (.int .i64 (n : Int)) = none := by
        simp [vappendRow, pTB, bInfo, pS1, bZero, vnewsO, vnews, T3]
      have hmk : vappendMake Tryd.prog σ 22 3 .nils (.int .i64 (n : Int)) = some (.hslice σ.objs.length 0 1 n, ⟨σ.objs ++ [.cells []], σ.toks⟩) := by
        have : 0 < n := by omega
        have h9 : n ≤ 140737488355328 := by omega
        simp [vappendMake, pTB, bInfo, pS1, bZero, T3, vcells, this, h9]
      have hb := vbounds_hi (k := .i64) (n := 0) (len := n) (by omega) (by omega)
      have hs2 : vslice Tryd.prog 22 (.hslice σ.objs.length 0 1 n) none (some (.int .i64 0)) none = some (.hslice σ.objs.length 0 1 0) := by
        simp only [vslice, pTB, pS1, hb]
        simp
      simp only [k75_a, WKV, Nat.reduceLT, Nat.reduceEqDiff, ↓reduceIte, reduceCtorEq, Nat.reduceAdd, Int.reduceLT, Int.reduceNeg, noSB, gD0, gD1, h0, hvc, hvl, hw0, hwn, nilEP, h1, decide_true, hsl, pTB, hno, hmk, hs2]
      refine ⟨_, some σ.objs.length, rfl, ?_, KS.push _ _ _, fun x hx => by simp at hx; omega⟩
      simp [rowOf]
  obtain ⟨r, σ', h1, v, q, rfl, h2⟩ := key
  exact ⟨v, q, σ', h1, h2⟩
theorem concat_does {σ : St} {pm : Perm} {vs : List V} {bss : List (List UInt8)} (hl : vs.length = bss.length) (hb : ∀ (i : Nat) (h : i < vs.length) (h' : i < bss.length), RB σ vs[i] bss[i]) (hlen : bss.flatten.length ≤ 1000000000) (hcl : bss.length ≤ 1000000000) :
    ∃ v q σ', Does Tryd.prog prims 63 [.slice pm 1 vs vs.length] σ (.ret v) σ' ∧ rowOf σ'.objs v = some (q, bss.flatten.map byteV) ∧ KS [] σ σ' ∧ ∀ x ∈ q.toList, σ.objs.length ≤ x := by
  have key : ∃ r σ', Does Tryd.prog prims 63 [.slice pm 1 vs vs.length] σ r σ' ∧ ∃ v q, r = .ret v ∧ rowOf σ'.objs v = some (q, bss.flatten.map byteV) ∧ KS [] σ σ' ∧ ∀ x ∈ q.toList, σ.objs.length ≤ x := by
    apply k63_is.does (by simp)
    have hvl : vlen Tryd.prog 37 (.slice pm 1 vs vs.length) = some (.int .i64 (vs.length : Nat)) := by simp [vlen, TBB]
    have haddr : ∀ i : Nat, i < vs.length → vindexAddr Tryd.prog 37 (.slice pm 1 vs vs.length) (.int .i64 (i : Int)) = some (.eptr vs i) := by
      intro i hi
      have h1 : vs.isEmpty = false := by cases vs with | nil => simp at hi | cons => rfl
      have h2 : (i : Int) < vs.length := by omega
      simp [vindexAddr, TBB, SBB, h1, h2]
    have hload : ∀ (s : St) (i : Nat) (hi : i < vs.length), vload Tryd.prog s.objs 22 (.eptr vs i) = some vs[i] := by
      intro s i hi
      simp [vload, vcellsAt, vpart, pGB, hi]
    have hsum : ∀ i, i ≤ bss.length → (bss.take i).flatten.length ≤ bss.flatten.length := by
      intro i hi
      have := congrArg List.length (congrArg List.flatten (List.take_append_drop i bss))
      rw [List.flatten_append, List.length_append] at this
      omega
    have hstep : ∀ i (h : i < bss.length), (bss.take (i + 1)).flatten = (bss.take i).flatten ++ bss[i] := by
      intro i h
      rw [List.take_succ_eq_append_getElem h, List.flatten_append]
      simp
    simp only [k63_a, WKV, Nat.reduceLT, Nat.reduceEqDiff, ↓reduceIte, reduceCtorEq, Nat.reduceAdd, Int.reduceLT, Int.reduceNeg, noSB, gD0, gD1, hvl, nilEP]
    refine Ev.loopF (fun (i : Nat) e σ' => σ' = σ ∧ e 11 = .int .i64 (i : Nat) ∧ i ≤ vs.length ∧ e 3 = .int .i64 ((bss.take i).flatten.length : Nat)) (fun i => vs.length - i) 0 ⟨rfl, by simp [upd_some], Nat.zero_le _, by simp [upd_some]⟩ ?_
    rintro i e σ' ⟨rfl, h11, hi, h3⟩ hf
    have h0 : e 0 = .slice pm 1 vs vs.length := (hf 0 (by decide)).trans (by simp [upd_some])
    have h9 : e 9 = .slice pm 1 vs vs.length := (hf 9 (by decide)).trans (by simp [upd_some])
    have h10 : e 10 = .int .i64 (vs.length : Nat) := (hf 10 (by decide)).trans (by simp [upd_some])
    clear hf
    by_cases hlt : i < vs.length
    · have hlt' : (i : Int) < vs.length := by omega
      have hlb : i < bss.length := by omega
      have hwi : IntKind.i64.wrap ((i : Int) + 1) = ((i + 1 : Nat) : Int) := by rw [show ((i : Int) + 1) = ((i + 1 : Nat) : Int) from by omega]; exact wrap_nat (by omega)
      have hle := hsum (i + 1) (by omega)
      have hst := hstep i hlb
      have hws : IntKind.i64.wrap (((bss.take i).flatten.length : Nat) + (bss[i].length : Nat) : Int) = (((bss.take (i + 1)).flatten.length : Nat) : Int) := by
        rw [hst, List.length_append] at hle ⊢
        rw [wrap_i64 (by omega) (by omega)]; omega
      have hn0 : ¬ (((bss.take (i + 1)).flatten.length : Nat) : Int) < 0 := by omega
      simp only [k63_a, WKV, Nat.reduceLT, Nat.reduceEqDiff, ↓reduceIte, reduceCtorEq, Nat.reduceAdd, Int.reduceLT, Int.reduceNeg, noSB, h9, h10, h11, h3, hlt', haddr i hlt, hload _ i hlt, (hb i hlt hlb).len, hws, hn0, hwi, decide_true, decide_false]
      exact ⟨i + 1, ⟨by simp [upd_some], by omega, by simp [upd_some]⟩, by omega⟩
    · have hlt' : ¬ (i : Int) < vs.length := by omega
      have hall : bss.take i = bss := List.take_of_length_le (by omega)
      rw [hall] at h3
      obtain ⟨v1, q1, s1, g1, g2, g3, g4⟩ := grow_does (σ := σ') hlen
      simp only [k63_a, WKV, Nat.reduceLT, Nat.reduceEqDiff, ↓reduceIte, reduceCtorEq, Nat.reduceAdd, Int.reduceLT, Int.reduceNeg, noSB, h9, h10, h11, h3, hlt', decide_false, nilEP]
      refine KD.ret g1 ?_
      simp only [k63_a, WKV, Nat.reduceLT, Nat.reduceEqDiff, ↓reduceIte, reduceCtorEq, Nat.reduceAdd, Int.reduceLT, Int.reduceNeg, noSB, h0, hvl]
      refine Ev.loopF (fun (j : Nat) e s => ∃ q, e 27 = .int .i64 (j : Nat) ∧ j ≤ vs.length ∧ rowOf s.objs (e 6) = some (q, (bss.take j).flatten.map byteV) ∧ KS [] σ' s ∧ ∀ x ∈ q.toList, σ'.objs.length ≤ x) (fun i => vs.length - i) 0 ⟨q1, by simp [upd_some], Nat.zero_le _, by simpa [upd_some] using g2, g3, g4⟩ ?_
      rintro j e2 s ⟨q, k27, hj, k6, kk, kq⟩ hf2
      have k25 : e2 25 = .slice pm 1 vs vs.length := (hf2 25 (by decide)).trans (by simp [upd_some])
      have k26 : e2 26 = .int .i64 (vs.length : Nat) := (hf2 26 (by decide)).trans (by simp [upd_some])
      clear hf2
      by_cases hlt2 : j < vs.length
      · have hlt2' : (j : Int) < vs.length := by omega
        have hlb : j < bss.length := by omega
        have hwi : IntKind.i64.wrap ((j : Int) + 1) = ((j + 1 : Nat) : Int) := by rw [show ((j : Int) + 1) = ((j + 1 : Nat) : Int) from by omega]; exact wrap_nat (by omega)
        have hR := (hb j hlt2 hlb).ks kk (fun q hq => by cases hq)
        have hle := hsum (j + 1) (by omega)
        rw [hstep j hlb, List.length_append] at hle
        have hbn := hR.news
        rw [← List.length_map (f := byteV)] at hbn
        obtain ⟨v', q', s2, a1, a2, a3, a4, a5⟩ := rowApp k6 hbn (byteV_one _) (by rw [List.length_map, List.length_map]; omega)
        simp only [k63_a, WKV, Nat.reduceLT, Nat.reduceEqDiff, ↓reduceIte, reduceCtorEq, Nat.reduceAdd, Int.reduceLT, Int.reduceNeg, noSB, k25, k26, k27, hlt2', haddr j hlt2, hload _ j hlt2, hwi, a1, decide_true]
        refine ⟨j + 1, ⟨q', by simp [upd_some], by omega, ?_, kk.trans a3 fun x hx => .inr (kq x hx), fun x hx => ?_⟩, by omega⟩
        · rw [hstep j hlb, List.map_append]; simpa [upd_some] using a2
        · rcases a4 x hx with h | h
          · exact kq x h
          · have := kk.le; omega
      · have hlt2' : ¬ (j : Int) < vs.length := by omega
        have hall2 : bss.take j = bss := List.take_of_length_le (by omega)
        rw [hall2] at k6
        simp only [k63_a, WKV, Nat.reduceLT, Nat.reduceEqDiff, ↓reduceIte, reduceCtorEq, Nat.reduceAdd, Int.reduceLT, Int.reduceNeg, noSB, k25, k26, k27, hlt2', decide_false]
        exact ⟨_, q, rfl, k6, kk, kq⟩
  obtain ⟨r, σ', h1, v, q, rfl, h2⟩ := key
  exact ⟨v, q, σ', h1, h2⟩
theorem mkRows2 (a b : V) (h1 : one a = true) (h2 : one b = true) : vbuildSlice Tryd.prog 37 2 [(0, a), (1, b)] = some (.slice .exact 1 [a, b] 2) := by
  have hz : zeroT Tryd.prog 22 = some .nils := by kernel_rfl
  have e : List.range 2 = [0, 1] := by decide
  have hn : vcells V.nils = [V.nils] := rfl
  simp [vbuildSlice, TBB, SBB, hz, hn, zeroCellsV, vfill, setAll, e, vcells_one h1, vcells_one h2, h1, h2]
theorem read_sees {σ : St} {r rm : Nat} {d : Dk} {fs : List Ent} {n : List UInt8} (h : DiskAt σ r d rm fs) (hok : d.Ok) :
    ∃ p σ', Does Tryd.prog prims 45 [.optr r 0, .str n] σ p σ' ∧ ∃ v q, p = .ret (.tuple [v, .int .i64 ((readD n d).1 : Nat)]) ∧ rowOf σ'.objs v = some (q, (readD n d).2.map byteV) ∧ KS [] σ σ' ∧ ∀ x ∈ q.toList, σ.objs.length ≤ x := by
  apply k45_is.does (by simp)
  simp only [k45_a, WKV, Nat.reduceLT, Nat.reduceEqDiff, ↓reduceIte, reduceCtorEq, Nat.reduceAdd, Int.reduceLT, Int.reduceNeg, noSB, gD0, gD1, nilEP]
  by_cases hz : thereD d n = 0
  · obtain ⟨a, b, p, hA, hr⟩ := there_ok h hok hz
    have hz' : ¬ thereD d n ≠ 0 := fun h => h hz
    have e : readD n d = (0, p.1.safe ++ p.1.wait) := by unfold readD; rw [if_neg hz', hA.g]; rfl
    obtain ⟨g1, g2, g3⟩ := hA.ids h
    obtain ⟨l1, l2, v1, v2, hl, hn, hnd, hrf⟩ := hA.facts h hok
    obtain ⟨v, q, σ', c1, c2, c3, c4⟩ := concat_does (σ := σ) (pm := .exact) (vs := [p.2.s, p.2.w]) (bss := [p.1.safe, p.1.wait]) rfl (fun i h h' => by
      match i, h with
      | 0, _ => exact rowOf_rb g1.s
      | 1, _ => exact rowOf_rb g1.w) (by simp; omega) (by simp)
    refine KD.ret (there_yes h hr hA) ?_
    simp only [k45_a, WKV, Nat.reduceLT, Nat.reduceEqDiff, ↓reduceIte, reduceCtorEq, Nat.reduceAdd, Int.reduceLT, Int.reduceNeg, noSB, pFF0, pFF1, l1, l2, mkRows2 p.2.s p.2.w (rowOf_one g1.s) (rowOf_one g1.w), nilEP]
    refine KD.ret c1 ?_
    simp only [k45_a, WKV, Nat.reduceLT, Nat.reduceEqDiff, ↓reduceIte, reduceCtorEq, Nat.reduceAdd, Int.reduceLT, Int.reduceNeg, noSB, pFF0, pFF1, l1, l2, e]
    refine ⟨v, q, rfl, ?_, c3, c4⟩
    simpa using c2
  · refine KD.ret (there_no h n hz) ?_
    have hz' : ¬ ((thereD d n : Nat) : Int) = 0 := by omega
    have e : readD n d = (thereD d n, []) := by unfold readD; rw [if_pos hz]
    simp only [k45_a, WKV, Nat.reduceLT, Nat.reduceEqDiff, ↓reduceIte, reduceCtorEq, Nat.reduceAdd, Int.reduceLT, Int.reduceNeg, noSB, hz', e, nilEP]
    exact ⟨.nils, none, rfl, rfl, KS.refl _ _, fun x hx => by cases hx⟩
theorem keys_does {σ : St} {rm : Nat} : ∃ t, Does Tryd.prog prims 52 [.omap rm] σ (.ret (.func 72 [.optr σ.objs.length 0])) ⟨σ.objs ++ [.tcells t [.omap rm]], σ.toks⟩ := by
  have key : ∃ r σ', Does Tryd.prog prims 52 [.omap rm] σ r σ' ∧ (r = .ret (.func 72 [.optr σ.objs.length 0]) ∧ ∃ t, σ' = ⟨σ.objs ++ [.tcells t [.omap rm]], σ.toks⟩) := by
    apply k52_is.does (by simp)
    have hn : ofVal .nilFunc = some .nilf := by kernel_rfl
    have hc : vcells (.omap rm) = [.omap rm] := rfl
    simp only [k52_a, WKV, Nat.reduceLT, Nat.reduceEqDiff, ↓reduceIte, reduceCtorEq, Nat.reduceAdd, Int.reduceLT, Int.reduceNeg, noSB, gD0, gD1, hn, vboxT, hc]
    exact ⟨_, rfl⟩
  obtain ⟨r, σ', h, rfl, t, rfl⟩ := key
  exact ⟨t, h⟩
theorem strs_ents {fs : List Ent} : strsOf (fs.map fent) = some (fs.map fun p => p.1.name) := by
  induction fs with
  | nil => rfl
  | cons p fs ih => simp only [List.map_cons, fent, strsOf] at ih ⊢; rw [ih]; rfl
theorem leS_trans (a b c : List UInt8) : leS a b = true → leS b c = true → leS a c = true := by
  simp only [leS, decide_eq_true_eq]; exact List.le_trans
theorem leS_total (a b : List UInt8) : (leS a b || leS b a) = true := by
  simp only [leS, Bool.or_eq_true, decide_eq_true_eq]; exact List.le_total a b
theorem sort_names {d : Dk} (hok : d.Ok) {ks : List (List UInt8)} (h : ks.Perm (d.files.map Fl.name)) : ks.mergeSort leS = d.files.map Fl.name := by
  have h1 : (d.files.map Fl.name).Pairwise fun a b => a ≤ b := by
    rw [List.pairwise_map]
    exact hok.rise.imp fun {f g} hlt => List.le_of_lt hlt
  have h2 := (List.mergeSort_perm ks leS).trans h
  have h3 : (ks.mergeSort leS).Pairwise fun a b => a ≤ b := (List.pairwise_mergeSort leS_trans leS_total ks).imp fun {a b} hab => by simpa [leS] using hab
  exact h2.eq_of_pairwise (le := fun a b => a ≤ b) (fun a b _ _ hab hba => List.le_antisymm hab hba) h3 h1
theorem names_sees {σ : St} {r rm : Nat} {d : Dk} {fs : List Ent} (h : DiskAt σ r d rm fs) (hok : d.Ok) :
    ∃ p σ', Does Tryd.prog prims 26 [.optr r 0] σ p σ' ∧ ∃ v q, p = .ret v ∧ rowOf σ'.objs v = some (q, (namesD d).map V.str) ∧ KS [] σ σ' ∧ ∀ x ∈ q.toList, σ.objs.length ≤ x := by
  apply k26_is.does (by simp)
  have lo : vload Tryd.prog σ.objs 4 (.optr r 2) = some (.bool (!d.on)) := by rw [vload_obj h.hd G4]; rfl
  have lm : vload Tryd.prog σ.objs 68 (.optr r 0) = some (.omap rm) := by rw [vload_obj h.hd pGM]; rfl
  cases hon : d.on with
  | false =>
    rw [hon] at lo
    have e : namesD d = [] := by simp [namesD, hon]
    simp only [k26_a, WKV, Nat.reduceLT, Nat.reduceEqDiff, ↓reduceIte, reduceCtorEq, Nat.reduceAdd, Int.reduceLT, Int.reduceNeg, noSB, gD0, gD1, nilEP, ofNilP, eql_optr pTD, pFA r 2 (by omega), lo, Bool.not_false, e]
    exact ⟨.nils, none, rfl, rfl, KS.refl _ _, fun x hx => by cases hx⟩
  | true =>
    rw [hon] at lo
    have e : namesD d = d.files.map Fl.name := by simp [namesD, hon]
    obtain ⟨t, hk⟩ := keys_does (σ := σ) (rm := rm)
    obtain ⟨s1, hs1⟩ : ∃ s1 : St, s1 = ⟨σ.objs ++ [.tcells t [.omap rm]], σ.toks⟩ := ⟨_, rfl⟩
    rw [← hs1] at hk
    have K1 : KS [] σ s1 := by rw [hs1]; exact KS.push _ _ _
    have D1 : DiskAt s1 r d rm fs := by rw [hs1]; exact h.pushed _
    have L1 : s1.objs.length = σ.objs.length + 1 := by rw [hs1]; simp
    have hb : s1.objs[σ.objs.length]? = some (.tcells t [.omap rm]) := by rw [hs1]; exact push_new _ _
    have hperm : (fs.map fun p => p.1.name).Perm (d.files.map Fl.name) := by
      have := h.pm.map Fl.name
      rw [List.map_map] at this
      exact this
    have hsort := sort_names hok hperm
    have hnd := h.names hok
    have hlen : (fs.map fun p => p.1.name).length ≤ 16 := by rw [hperm.length_eq, List.length_map]; exact hok.few
    have hsm : ((fs.map fun p => p.1.name).all fun s => decide (s.length ≤ 140737488355328)) = true := by
      rw [List.all_eq_true]
      intro s hs
      obtain ⟨f, hf, rfl⟩ := List.mem_map.1 (hperm.mem_iff.1 hs)
      have := hok.nm f hf
      simp only [namedD, decide_eq_true_eq] at this ⊢
      omega
    have hp : ∃ v s2 q, Does Tryd.prog prims 51 [.func 72 [.optr σ.objs.length 0]] s1 (.ret v) s2 ∧ rowOf s2.objs v = some (q, (namesD d).map V.str) ∧ KS [] s1 s2 ∧ ∀ x ∈ q.toList, s1.objs.length ≤ x := by
      by_cases h0 : (fs.map fun p => p.1.name) = []
      · refine ⟨.nils, s1, none, Does.prim (by kernel_rfl) ?_, ?_, KS.refl _ _, fun x hx => by cases hx⟩
        · simp only [prims]
          rw [if_neg (by decide +kernel), if_neg (by decide +kernel), if_pos trivial]
          simp only [sortedP, hb, D1.hm, strs_ents, ↓reduceIte]
          rw [if_pos ⟨hnd, by omega, hsm⟩, if_pos h0]
        · rw [e, ← hsort, h0, List.mergeSort_nil]; rfl
      · refine ⟨.hslice s1.objs.length 0 1 (fs.map fun p => p.1.name).length, ⟨s1.objs ++ [.cells (((fs.map fun p => p.1.name).mergeSort leS).map V.str)], s1.toks⟩, some s1.objs.length, Does.prim (by kernel_rfl) ?_, ?_, KS.push _ _ _, fun x hx => by simp at hx; omega⟩
        · simp only [prims]
          rw [if_neg (by decide +kernel), if_neg (by decide +kernel), if_pos trivial]
          simp only [sortedP, hb, D1.hm, strs_ents, ↓reduceIte]
          rw [if_pos ⟨hnd, by omega, hsm⟩, if_neg h0]
        · have hl : (fs.map fun p => p.1.name).length = (((fs.map fun p => p.1.name).mergeSort leS).map V.str).length := by simp [List.length_mergeSort]
          have hpn := push_new s1.objs (.cells (((fs.map fun p => p.1.name).mergeSort leS).map V.str))
          simp only [rowOf, hpn]
          rw [if_pos (by rw [← hl]; exact Nat.le_refl _), hl, List.take_of_length_le (Nat.le_refl _), hsort, e]
    obtain ⟨v, s2, q, h1, h2, h3, h4⟩ := hp
    simp only [k26_a, WKV, Nat.reduceLT, Nat.reduceEqDiff, ↓reduceIte, reduceCtorEq, Nat.reduceAdd, Int.reduceLT, Int.reduceNeg, noSB, gD0, gD1, nilEP, ofNilP, eql_optr pTD, pFA r 2 (by omega), pFA r 0 (by omega), lo, lm, Bool.not_true]
    refine KD.ret hk ?_
    simp only [k26_a, WKV, Nat.reduceLT, Nat.reduceEqDiff, ↓reduceIte, reduceCtorEq, Nat.reduceAdd, Int.reduceLT, Int.reduceNeg, noSB]
    refine KD.ret h1 ?_
    simp only [k26_a, WKV, Nat.reduceLT, Nat.reduceEqDiff, ↓reduceIte, reduceCtorEq, Nat.reduceAdd, Int.reduceLT, Int.reduceNeg, noSB]
    exact ⟨v, q, rfl, h2, K1.trans' h3, fun x hx => by have := h4 x hx; omega⟩
theorem down_does {σ : St} {r rm : Nat} {d : Dk} {fs : List Ent} (h : DiskAt σ r d rm fs) : Does Tryd.prog prims 23 [.optr r 0] σ (.ret (.bool (!d.on))) σ := by
  apply k23_is.ret (by simp)
  have lo : vload Tryd.prog σ.objs 4 (.optr r 2) = some (.bool (!d.on)) := by rw [vload_obj h.hd G4]; rfl
  simp only [k23_a, WKV, Nat.reduceLT, Nat.reduceEqDiff, ↓reduceIte, reduceCtorEq, Nat.reduceAdd, Int.reduceLT, Int.reduceNeg, noSB, gD0, gD1, ofNilP, neq_optr pTD, pFA r 2 (by omega), lo]
def newD (n : Int) : Dk := ⟨[], n, true, 0, 0, 0⟩
theorem newdisk_does (σ : St) (n : Int) : ∃ σ' r rm, Does Tryd.prog prims 19 [.int .i64 n] σ (.ret (.optr r 0)) σ' ∧ DiskAt σ' r (newD n) rm [] ∧ KS [] σ σ' ∧ ∀ x ∈ foot r rm [], σ.objs.length ≤ x := by
  have key : ∃ p σ', Does Tryd.prog prims 19 [.int .i64 n] σ p σ' ∧ ∃ r rm, p = .ret (.optr r 0) ∧ DiskAt σ' r (newD n) rm [] ∧ KS [] σ σ' ∧ ∀ x ∈ foot r rm [], σ.objs.length ≤ x := by
    apply k19_is.does (by simp)
    have hb : ∀ m : Nat, vbuild Tryd.prog 70 [(0, .omap m), (1, .int .i64 n)] = some (.agg [.omap m, .int .i64 n, .bool false, .int .i64 0, .int .i64 0, .int .i64 0]) := fun m => by kernel_rfl
    simp only [k19_a, WKV, Nat.reduceLT, Nat.reduceEqDiff, ↓reduceIte, reduceCtorEq, Nat.reduceAdd, Int.reduceLT, Int.reduceNeg, noSB, gD0, gD1, ofNilP, vmakeMap, hb, vbox, vcells]
    refine ⟨σ.objs.length + 1, σ.objs.length, by simp, ⟨?_, ?_, fun p hp => (by cases hp), by simp [foot], by simp [newD]⟩, (KS.push [] σ (.mp [])).trans' (KS.push [] ⟨σ.objs ++ [.mp []], σ.toks⟩ _), fun x hx => by simp [foot] at hx; omega⟩
    · have := push_new (σ.objs ++ [Ob.mp []]) (.cells (dcells σ.objs.length (newD n)))
      simp only [List.length_append, List.length_cons, List.length_nil, Nat.zero_add] at this
      exact this
    · simp only
      rw [gA2 (by simp)]
      exact push_new _ _
  obtain ⟨p, σ', h1, r, rm, rfl, h2⟩ := key
  exact ⟨σ', r, rm, h1, h2⟩
theorem newD_ok {n : Int} (h : InI64 n) : (newD n).Ok := ⟨by simp [newD], fun f hf => (by cases hf), by simp [newD], fun f hf => (by cases hf), by simp [newD], h, by unfold InI64; simp [newD]⟩
def RowS (σ : St) (k : Nat) (w : V) (cs : List V) (n : Nat) : Prop := RowV k w cs n ∨ (cs.length = n * k ∧ ∃ r off c, w = .hslice r off k n ∧ σ.objs[r]? = some (.cells c) ∧ off + n * k ≤ c.length ∧ (c.drop off).take (n * k) = cs)
section
variable {σ : St} {k n : Nat} {w : V} {cs : List V}
theorem RowS.keep {σ' : St} (h : RowS σ k w cs n) (hk : Keep σ σ') : RowS σ' k w cs n := by
  rcases h with h | ⟨h0, r, off, c, h1, h2, h3⟩
  · exact .inl h
  · exact .inr ⟨h0, r, off, c, h1, hk.1 _ _ h2, h3⟩
theorem RowS.size (h : RowS σ k w cs n) : cs.length = n * k := by
  rcases h with h | ⟨h0, _⟩
  · exact h.1
  · exact h0
theorem RowS.one (h : RowS σ k w cs n) : one w = true := by
  rcases h with h | ⟨h0, r, off, c, rfl, _⟩
  · exact h.one
  · rfl
theorem RowS.len (h : RowS σ k w cs n) {t e : TypeId} (ht : Tryd.prog.underlying t = some (.slice e)) : vlen Tryd.prog t w = some (.int .i64 (n : Nat)) := by
  rcases h with h | ⟨h0, r, off, c, rfl, _⟩
  · exact h.len ht
  · simp [vlen, ht]
def At (σ : St) (p : V) (c : List V) : Prop := (∃ cs o, p = .eptr cs o ∧ o + c.length ≤ cs.length ∧ (cs.drop o).take c.length = c) ∨ ∃ r o cs, p = .optr r o ∧ σ.objs[r]? = some (.cells cs) ∧ o + c.length ≤ cs.length ∧ (cs.drop o).take c.length = c
theorem RowS.at (h : RowS σ k w cs n) {t e : TypeId} (ht : Tryd.prog.underlying t = some (.slice e)) (hs : sizeT Tryd.prog e = some k) (hk : 0 < k) {i : Nat} (hi : i < n) {kk : IntKind} :
    ∃ p, vindexAddr Tryd.prog t w (.int kk (i : Int)) = some p ∧ At σ p ((cs.drop (i * k)).take k) := by
  have hsz := h.size
  have hle : i * k + k ≤ n * k := by
    have : (i + 1) * k ≤ n * k := Nat.mul_le_mul_right k hi
    rwa [Nat.add_mul, Nat.one_mul] at this
  have hpl : ((cs.drop (i * k)).take k).length = k := by rw [List.length_take, List.length_drop]; omega
  rcases h with h | ⟨h0, r, off, c, rfl, h2, h3, h4⟩
  · refine ⟨_, RowV.addr h ht hs hk (kk := kk) (i := (i : Int)) (by omega) (by omega), .inl ⟨cs, i * k, by rw [Int.toNat_natCast], by rw [hpl]; omega, by rw [hpl]⟩⟩
  · have hi' : (i : Int) < n := by omega
    refine ⟨.optr r (off + i * k), by simp [vindexAddr, ht, hs, hi'], .inr ⟨r, _, c, rfl, h2, by rw [hpl]; omega, ?_⟩⟩
    rw [hpl, ← h4, List.drop_take, List.drop_drop, List.take_take]
    congr 1
    omega
theorem At.keep {σ' : St} {p : V} {c : List V} (h : At σ p c) (hk : Keep σ σ') : At σ' p c := by
  rcases h with h | ⟨r, o, cs, h1, h2, h3⟩
  · exact .inl h
  · exact .inr ⟨r, o, cs, h1, hk.1 _ _ h2, h3⟩
theorem At.load {p : V} {c : List V} (h : At σ p c) {e : TypeId} (ha : isAggT Tryd.prog e = some true) (hs : sizeT Tryd.prog e = some c.length) : vload Tryd.prog σ.objs e p = some (.agg c) := by
  rcases h with ⟨cs, o, rfl, h1, h2⟩ | ⟨r, o, cs, rfl, hr, h1, h2⟩
  · simp only [vload, vcellsAt, vpart, ha, hs, if_pos h1, h2]
  · simp only [vload, vcellsAt, hr, vpart, ha, hs, if_pos h1, h2]
theorem At.load1 {p : V} {v : V} (h : At σ p [v]) {e : TypeId} (ha : isAggT Tryd.prog e = some false) : vload Tryd.prog σ.objs e p = some v := by
  have key : ∀ (cs : List V) (o : Nat), o + 1 ≤ cs.length → (cs.drop o).take 1 = [v] → cs[o]? = some v := by
    intro cs o h1 h2
    have := congrArg (·[0]?) h2
    simpa using this
  rcases h with ⟨cs, o, rfl, h1, h2⟩ | ⟨r, o, cs, rfl, hr, h1, h2⟩
  · simp only [vload, vcellsAt, vpart, ha]; exact key cs o h1 h2
  · simp only [vload, vcellsAt, hr, vpart, ha]; exact key cs o h1 h2
theorem At.part {p : V} {c : List V} (h : At σ p c) {j m : Nat} (hj : j + m ≤ c.length) : ∃ p', (∀ (e : TypeId) (f : Nat), (∀ q o, vfieldAddr Tryd.prog e (.optr q o) f = some (.optr q (o + j))) → (∀ cs o, vfieldAddr Tryd.prog e (.eptr cs o) f = some (.eptr cs (o + j))) → vfieldAddr Tryd.prog e p f = some p') ∧ At σ p' ((c.drop j).take m) := by
  have hpl : ((c.drop j).take m).length = m := by rw [List.length_take, List.length_drop]; omega
  have cut : ∀ (cs : List V) (o : Nat), o + c.length ≤ cs.length → (cs.drop o).take c.length = c → (cs.drop (o + j)).take m = (c.drop j).take m := by
    intro cs o h1 h2
    have h3 : c.drop j = ((cs.drop o).take c.length).drop j := by rw [h2]
    rw [h3, List.drop_take, List.drop_drop, List.take_take]
    congr 1
    omega
  rcases h with ⟨cs, o, rfl, h1, h2⟩ | ⟨r, o, cs, rfl, hr, h1, h2⟩
  · exact ⟨.eptr cs (o + j), fun e f _ h => h cs o, .inl ⟨cs, o + j, rfl, by rw [hpl]; omega, by rw [hpl]; exact cut cs o h1 h2⟩⟩
  · exact ⟨.optr r (o + j), fun e f h _ => h r o, .inr ⟨r, o + j, cs, rfl, hr, by rw [hpl]; omega, by rw [hpl]; exact cut cs o h1 h2⟩⟩
end
end Go.Proofs.YtnegdinonfjdfaaDoor.Q
namespace Go.Proofs.YtnegdinonfjdfaaDoor.Q
open Go Go.RowKit Go.Proofs
theorem off_writes (k : Int) (d : Dk) : (offD k d).writes = d.writes := by unfold offD; split <;> rfl
theorem goes_ok {d : Dk} (h : d.Ok) (k : Int) : (offD k (rawD d).2).Ok := h.raw.off k
theorem append_ok {n b : List UInt8} {d : Dk} (h : d.Ok) : (appendD n b d).2.Ok ∧ (appendD n b d).2.writes ≤ d.writes + 1 := by
  unfold appendD
  split
  · exact ⟨h, by simp⟩
  · rename_i hr
    have hr0 : readyD d n = 0 := Classical.byContradiction hr
    have hn := (readyD_named hr0).1
    simp only
    split
    · exact ⟨h, by simp⟩
    · rename_i hl
      split
      · exact ⟨h, by simp⟩
      · rename_i hf
        have ok2 : ({ d with files := putF ⟨n, ((getF d.files n).getD ⟨n, [], []⟩).safe, ((getF d.files n).getD ⟨n, [], []⟩).wait ++ b⟩ d.files } : Dk).Ok := by
          refine h.put hn ?_ fun hno => ?_
          · simp only [Fl.len, List.length_append] at hl ⊢; omega
          · have : ¬ 16 ≤ d.files.length := fun h1 => hf (.inl ⟨hno, h1⟩)
            omega
        have rf := raw_files { d with files := putF ⟨n, ((getF d.files n).getD ⟨n, [], []⟩).safe, ((getF d.files n).getD ⟨n, [], []⟩).wait ++ b⟩ d.files }
        split
        · exact ⟨goes_ok ok2 _, by rw [off_writes, rf.2.2.2.2]; simp⟩
        · exact ⟨ok2.raw, by rw [rf.2.2.2.2]; simp⟩
theorem put_same {d : Dk} (h : d.Ok) {n : List UInt8} (ht : thereD d n = 0) {s w : List UInt8} (hl : s.length + w.length ≤ 1048576) : ({ (rawD d).2 with files := putF ⟨n, s, w⟩ d.files } : Dk).Ok := by
  obtain ⟨hr, f, hg⟩ := thereD_zero ht
  have h1 : ({ (rawD d).2 with files := putF ⟨n, s, w⟩ (rawD d).2.files } : Dk).Ok := h.raw.put (readyD_named hr).1 (by simp only [Fl.len]; omega) fun hno => by
    rw [(raw_files d).1, hg] at hno; cases hno
  rw [(raw_files d).1] at h1
  exact h1
theorem raw_w (d : Dk) : (rawD d).2.writes = d.writes + 1 := (raw_files d).2.2.2.2
theorem sync_ok {n : List UInt8} {d : Dk} (h : d.Ok) : (syncD n d).2.Ok ∧ (syncD n d).2.writes ≤ d.writes + 1 := by
  unfold syncD
  split
  · exact ⟨h, by simp⟩
  · rename_i ht
    have ht0 : thereD d n = 0 := Classical.byContradiction ht
    obtain ⟨hr, f, hg⟩ := thereD_zero ht0
    have hl := (h.get hg).2.2.2
    split
    · exact ⟨goes_ok h _, by rw [off_writes, raw_w]; simp⟩
    · simp only [hg, Option.getD_some]
      exact ⟨put_same h ht0 (by simpa [Fl.len] using hl), by rw [raw_w]; simp⟩
theorem rename_ok {n m : List UInt8} {d : Dk} (h : d.Ok) : (renameD n m d).2.Ok ∧ (renameD n m d).2.writes ≤ d.writes + 1 := by
  unfold renameD
  split
  · exact ⟨h, by simp⟩
  · rename_i hnm
    split
    · exact ⟨h, by simp⟩
    · rename_i ht
      have ht0 : thereD d n = 0 := Classical.byContradiction ht
      obtain ⟨hr, f, hg⟩ := thereD_zero ht0
      have hl := (h.get hg).2.2.2
      split
      · exact ⟨goes_ok h _, by rw [off_writes, raw_w]; simp⟩
      · simp only [hg, Option.getD_some]
        have hm : namedD m = true := by
          cases hm : namedD m with
          | true => rfl
          | false => exact absurd (.inr hm) hnm
        have ok1 : ({ (rawD d).2 with files := dropF n d.files } : Dk).Ok := by
          have := h.raw.drop n
          rw [(raw_files d).1] at this
          exact this
        have hlen : (dropF n d.files).length < 16 := by
          have hf := h.few
          have hmem := (getF_some hg)
          have : (dropF n d.files).length < d.files.length := by
            unfold dropF
            exact List.length_filter_lt_length_iff_exists.2 ⟨f, hmem.1, by simp [hmem.2]⟩
          omega
        exact ⟨ok1.put hm (by simpa [Fl.len] using hl) fun _ => hlen, by rw [raw_w]; simp⟩
theorem remove_ok {n : List UInt8} {d : Dk} (h : d.Ok) : (removeD n d).2.Ok ∧ (removeD n d).2.writes ≤ d.writes + 1 := by
  unfold removeD
  split
  · exact ⟨h, by simp⟩
  · split
    · exact ⟨goes_ok h _, by rw [off_writes, raw_w]; simp⟩
    · have := h.raw.drop n
      rw [(raw_files d).1] at this
      exact ⟨this, by rw [raw_w]; simp⟩
theorem KS.nils {S : List Nat} {σ σ' : St} (h : KS [] σ σ') : KS S σ σ' := h.mono fun x hx => by cases hx
theorem DiskAt.pushes {σ σ' : St} {r rm : Nat} {d : Dk} {fs : List Ent} (h : DiskAt σ r d rm fs) (hk : KS [] σ σ') : DiskAt σ' r d rm fs := h.keep hk fun x _ => by simp
theorem readD_len {d : Dk} (hok : d.Ok) (n : List UInt8) : (readD n d).2.length ≤ 1048576 := by
  unfold readD
  split
  · simp
  · rename_i ht
    have ht0 : thereD d n = 0 := Classical.byContradiction ht
    obtain ⟨hr, f, hg⟩ := thereD_zero ht0
    have := (hok.get hg).2.2.2
    simp only [hg, Option.getD_some, List.length_append, Fl.len] at this ⊢
    exact this
theorem namesD_len {d : Dk} (hok : d.Ok) : (namesD d).length ≤ 16 := by
  have := hok.few
  unfold namesD
  split <;> simp
  omega
theorem TSS : Tryd.prog.underlying 43 = some (.slice 9) := by kernel_rfl
theorem SS9 : sizeT Tryd.prog 9 = some 1 := by kernel_rfl
theorem row_strs {σ : St} {v : V} {q : Option Nat} {l : List (List UInt8)} (h : rowOf σ.objs v = some (q, l.map V.str)) : RowS σ 1 v (l.map V.str) l.length := by
  rcases rowOf_spec h with ⟨rfl, rfl, h0⟩ | ⟨r, full, rfl, rfl, hr, hl, hc⟩
  · refine .inl ⟨by simp, .inl ⟨rfl, ?_⟩⟩
    have := congrArg List.length h0
    simpa using this
  · simp only [List.length_map] at hl hc ⊢
    exact .inr ⟨by simp, r, 0, full, rfl, hr, by omega, by rw [List.drop_zero, Nat.mul_one]; exact hc.symm⟩
theorem RowS.strAt {σ : St} {v : V} {l : List (List UInt8)} (h : RowS σ 1 v (l.map V.str) l.length) {i : Nat} (hi : i < l.length) : ∃ p, vindexAddr Tryd.prog 43 v (.int .i64 (i : Int)) = some p ∧ ∀ σ', KS [] σ σ' → vload Tryd.prog σ'.objs 9 p = some (.str l[i]) := by
  obtain ⟨p, h1, h2⟩ := h.at TSS SS9 (by omega) (i := i) (by simpa using hi) (kk := .i64)
  refine ⟨p, h1, fun σ' hk => ?_⟩
  have e : ((l.map V.str).drop (i * 1)).take 1 = [V.str l[i]] := by
    rw [Nat.mul_one, List.drop_eq_getElem_cons (by simpa using hi)]
    simp
  rw [e] at h2
  exact (h2.keep hk.keep).load1 G9
theorem readyD_yes {d : Dk} {n : List UInt8} (h : namedD n = true) (ho : d.on = true) : readyD d n = 0 := by
  unfold readyD; rw [if_neg (by simp [h]), if_neg (by simp [ho])]
theorem DiskAt.objs {σ σ' : St} {r rm : Nat} {d : Dk} {fs : List Ent} (h : DiskAt σ r d rm fs) (e : σ'.objs = σ.objs) : DiskAt σ' r d rm fs := ⟨by rw [e]; exact h.hd, by rw [e]; exact h.hm, by rw [e]; exact h.hf, h.nd, h.pm⟩
theorem OwnV.toks {e m : Nat} {σ σ' : St} {v : V} {bs : List UInt8} (h : OwnV e m σ v bs) (hk : ∀ k, tokLive σ.toks k = true → tokLive σ'.toks k = true) : OwnV e m σ' v bs := (h.toR.keep hk).toV
def Free (q : Option Nat) (F : List Nat) : Prop := ∀ x ∈ q.toList, x ∉ F
theorem Free.step {q : Option Nat} {F F' : List Nat} {n : Nat} (h : Free q F) (hl : ∀ x ∈ q.toList, x < n) (hF : ∀ x ∈ F', x ∈ F ∨ n ≤ x) : Free q F' := fun x hx hx2 => by
  rcases hF x hx2 with h1 | h1
  · exact h x hx h1
  · have := hl x hx; omega
theorem Free.low {q : Option Nat} {F : List Nat} {n : Nat} (hl : ∀ x ∈ q.toList, x < n) (hF : ∀ x ∈ F, n ≤ x) : Free q F := fun x hx hx2 => by
  have := hl x hx; have := hF x hx2; omega
theorem Free.high {q : Option Nat} {F : List Nat} {n : Nat} (hl : ∀ x ∈ q.toList, n ≤ x) (hF : ∀ x ∈ F, x < n) : Free q F := fun x hx hx2 => by
  have := hl x hx; have := hF x hx2; omega
theorem rowOf_free {σ σ' : St} {v : V} {q : Option Nat} {cs : List V} {F : List Nat} (h : rowOf σ.objs v = some (q, cs)) (hf : Free q F) (hk : KS F σ σ') : rowOf σ'.objs v = some (q, cs) := rowOf_frame h fun x hx o ho => hk.ko _ _ (hf x hx) ho
abbrev BV := V × List UInt8
theorem SBs : sizeT Tryd.prog 22 = some 1 := pSB
def PtsV (w : V) (l : List BV) : Prop := RowV 1 w (l.map Prod.fst) l.length
theorem PtsV.len {v : V} {l : List BV} (h : PtsV v l) : vlen Tryd.prog 37 v = some (.int .i64 l.length) := RowV.len h TBB
theorem PtsV.addr {v : V} {l : List BV} (h : PtsV v l) {i : Nat} (hi : i < l.length) : vindexAddr Tryd.prog 37 v (.int .i64 i) = some (.eptr (l.map Prod.fst) i) := by
  have := RowV.addr h TBB SBs (by omega) (kk := .i64) (i := i) (by omega) (by omega)
  rwa [Int.toNat_natCast, Nat.mul_one] at this
theorem PtsV.load {l : List BV} {i : Nat} (hi : i < l.length) {objs : List Ob} : vload Tryd.prog objs 22 (.eptr (l.map Prod.fst) i) = some l[i].1 := by
  simp [vload, vcellsAt, vpart, pGB, hi]
theorem RB.vb {σ : St} {v : V} {bs : List UInt8} (h : RB σ v bs) : vbytesO σ.objs v = some bs := by
  rcases h with h | ⟨r, off, cs, rfl, h2, h3, h4⟩
  · have e := bts_vbytesC h
    rcases h with ⟨rfl, rfl⟩ | ⟨p, rfl⟩
    · exact e
    · exact e
  · simp [vbytesO, h2, h3, h4, bytesIn_map]
theorem crcadd_does {σ : St} {v : V} {bs : List UInt8} (r : BitVec 32) (h : RB σ v bs) (hl : bs.length ≤ 1000000000) : Does Tryd.prog prims 59 [.int .u32 ((r.toNat : Nat) : Int), v] σ (.ret (uV (crcAdd r bs))) σ := by
  refine Does.prim (by kernel_rfl) ?_
  simp only [prims]
  rw [if_neg (by decide +kernel), if_neg (by decide +kernel), if_neg (by decide +kernel), if_pos trivial]
  simp only [crcP', h.vb, ofInt_toNat]
  rw [if_pos ⟨trivial, hl⟩]
theorem crcsum_does {σ : St} {v : V} {bs : List UInt8} (h : RB σ v bs) (hl : bs.length ≤ 1000000000) : Does Tryd.prog prims 41 [v] σ (.ret (uV (crcSum bs))) σ := by
  apply k41_is.ret (by simp)
  simp only [k41_a, WKV, Nat.reduceLT, Nat.reduceEqDiff, ↓reduceIte, reduceCtorEq, Nat.reduceAdd, Int.reduceLT, Int.reduceNeg, noSB, gD0]
  refine KD.ret (crcadd_does 0#32 h hl) ?_
  simp only [k41_a, WKV, Nat.reduceLT, Nat.reduceEqDiff, ↓reduceIte, reduceCtorEq, Nat.reduceAdd, Int.reduceLT, Int.reduceNeg, noSB]
  rfl
def steps : Nat → BitVec 32 → BitVec 32
  | 0, r => r
  | k + 1, r => step1 (steps k r)
theorem sbA {a b : List UInt8} (h : a.length + b.length ≤ 9223372036854775807) : strBin .add a b = some (.str (a ++ b)) := by simp only [strBin]; rw [if_pos h]
theorem vlenS (l : List UInt8) : vlen Tryd.prog 9 (.str l) = some (.int .i64 (l.length : Nat)) := by simp [vlen, T9]
theorem itoa_does {σ : St} {m : Nat} (h : m ≤ 999999999) : Does Tryd.prog prims 43 [.int .i64 (m : Nat)] σ (.ret (.str (digK (wid m) m))) σ := by
  refine Does.prim (by kernel_rfl) ?_
  simp only [prims]
  rw [if_neg (by decide +kernel), if_neg (by decide +kernel), if_neg (by decide +kernel), if_neg (by decide +kernel), if_pos trivial]
  simp only [itoaP, Int.toNat_natCast]
  rw [if_pos (by omega)]
theorem atoi_none {σ : St} {s : List UInt8} (hl : s.length ≤ 18) (h : Lib.atoi s = none) : Does Tryd.prog prims 69 [.str s] σ (.ret (.tuple [.int .i64 0, .iface 119 (.optr σ.objs.length 0)])) ⟨σ.objs ++ [.cells []], σ.toks⟩ := by
  refine Does.prim (by kernel_rfl) ?_
  simp only [prims]
  rw [if_neg (by decide +kernel), if_neg (by decide +kernel), if_neg (by decide +kernel), if_neg (by decide +kernel), if_neg (by decide +kernel), if_pos trivial]
  simp only [atoiP]
  rw [if_pos hl, h]
theorem atoi_some {σ : St} {s : List UInt8} {n : Int} (hl : s.length ≤ 18) (h : Lib.atoi s = some n) : Does Tryd.prog prims 69 [.str s] σ (.ret (.tuple [.int .i64 n, .nili])) σ := by
  refine Does.prim (by kernel_rfl) ?_
  simp only [prims]
  rw [if_neg (by decide +kernel), if_neg (by decide +kernel), if_neg (by decide +kernel), if_neg (by decide +kernel), if_neg (by decide +kernel), if_pos trivial]
  simp only [atoiP]
  rw [if_pos hl, h]
theorem sname_does {σ : St} (n : Int) : Does Tryd.prog prims 14 [.int .i64 n] σ (.ret (.str (nameP 115 0 n))) σ := by
  apply k14_is.ret (by simp)
  have oe : ofVal (Value.string { data := #[] }) = some (.str []) := rfl
  have o0 : ofVal (Value.string { data := #[48] }) = some (.str [48]) := rfl
  have oc : ofVal (Value.string { data := #[115] }) = some (.str [115]) := rfl
  by_cases h0 : n < 0
  · simp only [k14_a, WKV, Nat.reduceLT, Nat.reduceEqDiff, ↓reduceIte, reduceCtorEq, Nat.reduceAdd, Int.reduceLT, Int.reduceNeg, noSB, gD0, h0, decide_true, oe]
    unfold nameP
    rw [if_pos (.inl h0)]
  by_cases h1 : 999999999 < n
  · simp only [k14_a, WKV, Nat.reduceLT, Nat.reduceEqDiff, ↓reduceIte, reduceCtorEq, Nat.reduceAdd, Int.reduceLT, Int.reduceNeg, noSB, gD0, h0, h1, decide_true, decide_false, oe]
    unfold nameP
    rw [if_pos (.inr h1)]
  obtain ⟨m, rfl⟩ : ∃ m : Nat, n = (m : Int) := ⟨n.toNat, by omega⟩
  obtain ⟨w1, w2, w3, w4⟩ := wid_ok (n := m) (by omega)
  have hnm : nameP 115 0 (m : Int) = 115 :: digK 9 m := by
    unfold nameP
    rw [if_neg (by omega), Int.toNat_natCast]
  simp only [k14_a, WKV, Nat.reduceLT, Nat.reduceEqDiff, ↓reduceIte, reduceCtorEq, Nat.reduceAdd, Int.reduceLT, Int.reduceNeg, noSB, gD0, h0, h1, decide_false, oe]
  refine KD.ret (itoa_does (by omega)) ?_
  simp only [k14_a, WKV, Nat.reduceLT, Nat.reduceEqDiff, ↓reduceIte, reduceCtorEq, Nat.reduceAdd, Int.reduceLT, Int.reduceNeg, noSB]
  refine Ev.loopF (fun (k : Nat) e s => e 3 = .str (digK k m) ∧ m < 10 ^ k ∧ k ≤ 9 ∧ s = σ) (fun k => 9 - k) (wid m) ?_ ?_
  · exact ⟨by simp [upd_some], w3, w1, rfl⟩
  rintro k e s ⟨h3, hm, hk, rfl⟩ hf
  clear hf
  have hl := vlenS (digK k m)
  rw [digK_len] at hl
  by_cases hlt : k < 9
  · have hlt' : (k : Int) < 9 := by omega
    have ha : strBin .add [48] (digK k m) = some (.str (digK (k + 1) m)) := by
      rw [sbA (by rw [digK_len]; simp; omega), digK_zero hm]; rfl
    simp only [k14_a, WKV, Nat.reduceLT, Nat.reduceEqDiff, ↓reduceIte, reduceCtorEq, Nat.reduceAdd, Int.reduceLT, Int.reduceNeg, noSB, h3, hl, hlt', decide_true, o0, ha]
    exact ⟨k + 1, ⟨by simp [upd_some], by rw [Nat.pow_succ]; omega, by omega⟩, by omega⟩
  · have hlt' : ¬ (k : Int) < 9 := by omega
    have hk9 : k = 9 := by omega
    subst hk9
    have ha : strBin .add [115] (digK 9 m) = some (.str (115 :: digK 9 m)) := by
      rw [sbA (by rw [digK_len]; simp)]; rfl
    simp only [k14_a, WKV, Nat.reduceLT, Nat.reduceEqDiff, ↓reduceIte, reduceCtorEq, Nat.reduceAdd, Int.reduceLT, Int.reduceNeg, noSB, h3, hl, hlt', decide_false, oc, ha, hnm]
def fourB (r : BitVec 32) : List UInt8 := [UInt8.ofNat r.toNat, UInt8.ofNat (r >>> 8).toNat, UInt8.ofNat (r >>> 16).toNat, UInt8.ofNat (r >>> 24).toNat]
def w4 (b : List UInt8) (i : Nat) : BitVec 32 := BitVec.ofNat 32 (b.getD i 0).toNat ||| (BitVec.ofNat 32 (b.getD (i + 1) 0).toNat <<< 8) ||| (BitVec.ofNat 32 (b.getD (i + 2) 0).toNat <<< 16) ||| (BitVec.ofNat 32 (b.getD (i + 3) 0).toNat <<< 24)
theorem shrN (r : BitVec 32) (k : Nat) : (r >>> k).toNat = r.toNat / 2 ^ k := by rw [BitVec.toNat_ushiftRight, Nat.shiftRight_eq_div_pow]
theorem fourB_len (r : BitVec 32) : (fourB r).length = 4 := rfl
theorem or_nat (x : BitVec 32) (b : UInt8) (k : Nat) (hx : x.toNat < 2 ^ k) (hk : k ≤ 24) : (x ||| (BitVec.ofNat 32 b.toNat <<< k)).toNat = x.toNat + b.toNat * 2 ^ k := by
  have hb := b.toNat_lt
  have h2 : 2 ^ k ≤ 2 ^ 24 := Nat.pow_le_pow_right (by decide) hk
  have h3 : b.toNat * 2 ^ k ≤ 255 * 2 ^ 24 := Nat.mul_le_mul (by omega) h2
  have e24 : (2 : Nat) ^ 24 = 16777216 := by decide
  have e1 : (BitVec.ofNat 32 b.toNat <<< k).toNat = b.toNat <<< k := by
    have m1 : b.toNat % 2 ^ 32 = b.toNat := Nat.mod_eq_of_lt (by omega)
    rw [BitVec.toNat_shiftLeft, BitVec.toNat_ofNat, m1, Nat.shiftLeft_eq, Nat.mod_eq_of_lt (by omega)]
  rw [BitVec.toNat_or, e1, Nat.or_comm, ← Nat.shiftLeft_add_eq_or_of_lt hx, Nat.shiftLeft_eq, Nat.add_comm]
theorem w4_nat (b : List UInt8) (i : Nat) : (w4 b i).toNat = (b.getD i 0).toNat + (b.getD (i + 1) 0).toNat * 256 + (b.getD (i + 2) 0).toNat * 65536 + (b.getD (i + 3) 0).toNat * 16777216 := by
  have h0 := (b.getD i 0).toNat_lt
  have h1 := (b.getD (i + 1) 0).toNat_lt
  have h2 := (b.getD (i + 2) 0).toNat_lt
  have h3 := (b.getD (i + 3) 0).toNat_lt
  have e0 : (BitVec.ofNat 32 (b.getD i 0).toNat).toNat = (b.getD i 0).toNat := by rw [BitVec.toNat_ofNat, Nat.mod_eq_of_lt (by omega)]
  unfold w4
  have a1 := or_nat (BitVec.ofNat 32 (b.getD i 0).toNat) (b.getD (i + 1) 0) 8 (by rw [e0]; omega) (by omega)
  have a2 := or_nat (BitVec.ofNat 32 (b.getD i 0).toNat ||| (BitVec.ofNat 32 (b.getD (i + 1) 0).toNat <<< 8)) (b.getD (i + 2) 0) 16 (by rw [a1, e0]; omega) (by omega)
  have a3 := or_nat (BitVec.ofNat 32 (b.getD i 0).toNat ||| (BitVec.ofNat 32 (b.getD (i + 1) 0).toNat <<< 8) ||| (BitVec.ofNat 32 (b.getD (i + 2) 0).toNat <<< 16)) (b.getD (i + 3) 0) 24 (by rw [a2, a1, e0]; omega) (by omega)
  rw [a3, a2, a1, e0]
theorem w4_of {b : List UInt8} {i : Nat} {r : BitVec 32} (h : (b.drop i).take 4 = fourB r) : w4 b i = r := by
  have hl : i + 4 ≤ b.length := by
    have := congrArg List.length h
    rw [List.length_take, List.length_drop, fourB_len] at this
    omega
  have hg : ∀ j (hj : j < 4), b.getD (i + j) 0 = (fourB r)[j]'(by rw [fourB_len]; exact hj) := fun j hj => by
    have : (fourB r)[j]? = ((b.drop i).take 4)[j]? := by rw [h]
    rw [List.getElem?_take_of_lt hj, List.getElem?_drop, List.getElem?_eq_getElem (by rw [fourB_len]; exact hj)] at this
    rw [gA6, ← this]
    rfl
  apply BitVec.eq_of_toNat_eq
  rw [w4_nat]
  have g0 := hg 0 (by omega)
  have g1 := hg 1 (by omega)
  have g2 := hg 2 (by omega)
  have g3 := hg 3 (by omega)
  rw [Nat.add_zero] at g0
  rw [g0, g1, g2, g3]
  have hr := r.isLt
  simp only [fourB, List.getElem_cons_zero, List.getElem_cons_succ, UInt8.toNat_ofNat', shrN]
  omega
def headS (n : Int) (body : List UInt8) : List UInt8 := fourB (BitVec.ofInt 32 n) ++ fourB (BitVec.ofNat 32 body.length)
def encS (n : Int) (body : List UInt8) : List UInt8 := headS n body ++ (fourB (crcSum (headS n body ++ body)) ++ body)
theorem headS_len (n : Int) (body : List UInt8) : (headS n body).length = 8 := rfl
theorem encS_len (n : Int) (body : List UInt8) : (encS n body).length = 12 + body.length := by
  unfold encS
  rw [List.length_append, List.length_append, headS_len, fourB_len]
  omega
def decS (n : Int) (b : List UInt8) : List UInt8 × Nat :=
  if b.length < 12 then ([], 10) else
  if b.length - 12 < (w4 b 4).toNat then ([], 10) else
  if (w4 b 4).toNat < b.length - 12 ∨ n < 0 ∨ 999999999 < n ∨ w4 b 0 ≠ BitVec.ofInt 32 n then ([], 11) else
  if w4 b 8 ≠ crcSum (b.take 8 ++ b.drop 12) then ([], 12) else (b.drop 12, 0)
theorem wrap_bv (n : Int) : IntKind.u32.wrap n = (((BitVec.ofInt 32 n).toNat : Nat) : Int) := by
  rw [BitVec.toNat_ofInt]
  unfold IntKind.wrap
  simp [IntKind.bits, IntKind.signed, IntKind.max, IntKind.min]
  omega
theorem conv32 (n : Int) : vconv Tryd.prog 3 61 (.int .i64 n) = some (.int .u32 (((BitVec.ofInt 32 n).toNat : Nat) : Int)) := by
  simp only [vconv, T3, pTU, wrap_bv]
theorem conv8 (r : BitVec 32) : vconv Tryd.prog 61 5 (.int .u32 ((r.toNat : Nat) : Int)) = some (byteV (UInt8.ofNat r.toNat)) := by
  have h : IntKind.u8.wrap ((r.toNat : Nat) : Int) = (((UInt8.ofNat r.toNat).toNat : Nat) : Int) := by
    rw [UInt8.toNat_ofNat']
    unfold IntKind.wrap
    simp [IntKind.bits, IntKind.signed, IntKind.max, IntKind.min]
  simp only [vconv, pTU, T5, h, byteV]
theorem shr8 (r : BitVec 32) : (((r.toNat : Nat) : Int) / (2 : Int) ^ (min (8 : Int).toNat IntKind.u32.bits)) = (((r >>> 8).toNat : Nat) : Int) := by
  have e : (2 : Int) ^ (min (8 : Int).toNat IntKind.u32.bits) = ((256 : Nat) : Int) := by decide
  rw [e, shrN]; omega
theorem shr16 (r : BitVec 32) : (((r.toNat : Nat) : Int) / (2 : Int) ^ (min (16 : Int).toNat IntKind.u32.bits)) = (((r >>> 16).toNat : Nat) : Int) := by
  have e : (2 : Int) ^ (min (16 : Int).toNat IntKind.u32.bits) = ((65536 : Nat) : Int) := by decide
  rw [e, shrN]; omega
theorem shr24 (r : BitVec 32) : (((r.toNat : Nat) : Int) / (2 : Int) ^ (min (24 : Int).toNat IntKind.u32.bits)) = (((r >>> 24).toNat : Nat) : Int) := by
  have e : (2 : Int) ^ (min (24 : Int).toNat IntKind.u32.bits) = ((16777216 : Nat) : Int) := by decide
  rw [e, shrN]; omega
theorem TA2 : Tryd.prog.underlying 67 = some (.array 2 61) := by kernel_rfl
theorem bldA2 (a b : Int) : vbuild Tryd.prog 67 [(0, .int .u32 a), (1, .int .u32 b)] = some (.agg [.int .u32 a, .int .u32 b]) := by kernel_rfl
theorem idxA2 (a b : BitVec 32) : ∀ i : Nat, i < 2 → vindex Tryd.prog 67 (.agg [.int .u32 ((a.toNat : Nat) : Int), .int .u32 ((b.toNat : Nat) : Int)]) (.int .i64 (i : Int)) = some (.int .u32 (((if i = 0 then a else b).toNat : Nat) : Int))
  | 0, _ => by simp [vindex, TA2, pSU, vpart, pGU]
  | 1, _ => by simp [vindex, TA2, pSU, vpart, pGU]
theorem Keep.toks (σ : St) : Keep σ σ := Keep.refl σ
theorem Keep.overX {σ σ1 σ2 : St} {r : Nat} (h : Keep σ σ1) (h2 : KeepX r σ1 σ2) (hr : σ.objs.length ≤ r) : Keep σ σ2 :=
  ⟨fun q o ho => h2.1 q o (by have := (gA0.1 ho).1; omega) (h.1 q o ho), Nat.le_trans h.2.1 h2.2.1, fun k hk => h2.2.2 k (h.2.2 k hk)⟩
theorem Keep.olen {σ σ' : St} (h : Keep σ σ') : σ.objs.length ≤ σ'.objs.length := by
  rcases Nat.eq_zero_or_pos σ.objs.length with h0 | h0
  · omega
  · have := (gA0.1 (h.1 (σ.objs.length - 1) _ (List.getElem?_eq_getElem (by omega)))).1
    omega
theorem HB.set {σ : St} {v : V} {r : Nat} {bs : List UInt8} (h : HB σ v r bs) {i n : Nat} (hi : i < bs.length) (hn : n < 256) : ∃ σ', vindexAddr Tryd.prog 22 v (.int .i64 (i : Int)) = some (.optr r i) ∧ vstore Tryd.prog σ 5 (.optr r i) (.int .u8 (n : Int)) = some σ' ∧ HB σ' v r (bs.set i (UInt8.ofNat n)) ∧ KeepX r σ σ' := by
  have hi' : (i : Int) < bs.length := by omega
  have e : byteV (UInt8.ofNat n) = .int .u8 (n : Int) := by
    have : (UInt8.ofNat n).toNat = n := by simp; omega
    simp only [byteV, this]
  obtain ⟨σ', hs⟩ : ∃ σ' : St, σ' = ⟨σ.objs.set r (.cells ((bs.set i (UInt8.ofNat n)).map byteV)), σ.toks⟩ := ⟨_, rfl⟩
  obtain ⟨k, hk⟩ := KeepX.set_eq h.2 hs
  refine ⟨σ', by rw [h.1]; simp [vindexAddr, T22, S5, hi'], ?_, ⟨by rw [List.length_set]; exact h.1, hk⟩, k⟩
  rw [vstore_obj h.2 S5 rfl (by simpa using hi), hs, List.map_set, e]
theorem KeepX.over {σ σ1 σ2 : St} {r q : Nat} (h : KeepX r σ σ1) (h2 : KeepX q σ1 σ2) (hq : q = r ∨ σ.objs.length ≤ q) : KeepX r σ σ2 := by
  refine ⟨fun p o hp ho => h2.1 p o ?_ (h.1 p o hp ho), Nat.le_trans h.2.1 h2.2.1, fun k hk => h2.2.2 k (h.2.2 k hk)⟩
  have := (gA0.1 ho).1
  rcases hq with hq | hq <;> omega
theorem fourB_bytes (a b c d : UInt8) (σ : St) : vbuildRow Tryd.prog σ 22 4 [(0, byteV a), (1, byteV b), (2, byteV c), (3, byteV d)] = some (.hslice σ.objs.length 0 1 4, ⟨σ.objs ++ [.cells ([a, b, c, d].map byteV)], σ.toks⟩) := by
  have hz := BT.z
  have e : List.range 4 = [0, 1, 2, 3] := by decide
  simp [vbuildRow, T22, S5, hz, vcells, zeroCellsV, vfill, setAll, byteV, e]
def RO0 (n : Nat) (σ : St) (v : V) (bs : List UInt8) : Prop := (v = .nils ∧ bs = []) ∨ ∃ r, HB σ v r bs ∧ n ≤ r
theorem append_nils {σ : St} {y : V} {ys : List UInt8} (hy : RB σ y ys) (h0 : ys ≠ []) (hl : ys.length ≤ 140737488355328) :
    vappendRow Tryd.prog σ 22 22 .nils y = some (.hslice σ.objs.length 0 1 ys.length, ⟨σ.objs ++ [.cells (ys.map byteV)], σ.toks⟩) := by
  have hb := BT.b
  have hz := BT.z
  have hn := hy.news
  have hm : ys.length ≠ 0 := fun h => h0 (List.length_eq_zero_iff.1 h)
  have h1 := byteV_one ys
  simp [vappendRow, T22, hb, S5, hz, vcells, hn, hm, hl, h1, h0]
theorem RO0.four {σ0 σ : St} {v : V} {bs : List UInt8} (hk : Keep σ0 σ) (h : RO0 σ0.objs.length σ v bs) (R : BitVec 32) (hl : bs.length ≤ 200000000) :
    ∃ w1 s1 v' r' s', vbuildRow Tryd.prog σ 22 4 [(0, byteV (UInt8.ofNat R.toNat)), (1, byteV (UInt8.ofNat (R >>> 8).toNat)), (2, byteV (UInt8.ofNat (R >>> 16).toNat)), (3, byteV (UInt8.ofNat (R >>> 24).toNat))] = some (w1, s1) ∧ vappendRow Tryd.prog s1 22 22 v w1 = some (v', s') ∧ HB s' v' r' (bs ++ fourB R) ∧ σ0.objs.length ≤ r' ∧ Keep σ0 s' := by
  have hb := fourB_bytes (UInt8.ofNat R.toNat) (UInt8.ofNat (R >>> 8).toNat) (UInt8.ofNat (R >>> 16).toNat) (UInt8.ofNat (R >>> 24).toNat) σ
  obtain ⟨s1, hs1⟩ : ∃ s1 : St, s1 = ⟨σ.objs ++ [.cells ((fourB R).map byteV)], σ.toks⟩ := ⟨_, rfl⟩
  rw [show [UInt8.ofNat R.toNat, UInt8.ofNat (R >>> 8).toNat, UInt8.ofNat (R >>> 16).toNat, UInt8.ofNat (R >>> 24).toNat] = fourB R from rfl, ← hs1] at hb
  have hB : HB s1 (.hslice σ.objs.length 0 1 4) σ.objs.length (fourB R) := by rw [hs1]; exact made _ _ rfl
  have k1 : Keep σ s1 := by rw [hs1]; exact (Keep.refl σ).push _
  have k01 := hk.trans k1
  have hle := Keep.olen k01
  rcases h with ⟨rfl, rfl⟩ | ⟨r, h, hr⟩
  · have ha := append_nils hB.rb (by simp [fourB]) (by rw [fourB_len]; omega)
    exact ⟨_, _, _, _, _, hb, ha, made _ _ rfl, hle, k01.push _⟩
  · obtain ⟨v2, r2, s2, ha, h2, k2, hr2⟩ := (h.keep k1).append hB.rb (by rw [fourB_len]; omega)
    refine ⟨_, _, v2, r2, s2, hb, ha, h2, ?_, k01.overX k2 hr⟩
    rcases hr2 with h | h <;> omega
theorem HB.full {σ : St} {v x : V} {r : Nat} {bs ys : List UInt8} (h : HB σ v r bs) (hy : RB σ x ys) (hl : bs.length + ys.length ≤ 1000000000) :
    ∃ vc w s', vslice Tryd.prog 22 v none (some (.int .i64 (bs.length : Nat))) (some (.int .i64 (bs.length : Nat))) = some vc ∧ vappendRow Tryd.prog σ 22 22 vc x = some (w, s') ∧ RB s' w (bs ++ ys) ∧ Keep σ s' := by
  have hbn : vbounds bs.length none (some (.int .i64 (bs.length : Nat))) (some (.int .i64 (bs.length : Nat))) = some (0, bs.length, some bs.length) := by
    simp [vbounds, vb]
  have hs : vslice Tryd.prog 22 v none (some (.int .i64 (bs.length : Nat))) (some (.int .i64 (bs.length : Nat))) = some (.hfull r 0 1 bs.length) := by
    rw [h.1]; simp [vslice, T22, S5, hbn]
  have hb := BT.b
  have hz := BT.z
  have hn := hy.news
  by_cases hm : ys.length = 0
  · have : ys = [] := List.length_eq_zero_iff.1 hm
    subst this
    refine ⟨_, .hslice r 0 1 bs.length, σ, hs, ?_, ?_, Keep.refl _⟩
    · simp [vappendRow, T22, hb, S5, hz, vcells, hn]
    · rw [List.append_nil]; have := h.rb; rwa [h.1] at this
  · refine ⟨_, .hslice σ.objs.length 0 1 (bs ++ ys).length, ⟨σ.objs ++ [.cells ((bs ++ ys).map byteV)], σ.toks⟩, hs, ?_, (made _ _ rfl).rb, (Keep.refl σ).push _⟩
    have h1 := byteV_one ys
    have h2 : List.take bs.length (bs.map byteV) = bs.map byteV := List.take_of_length_le (by simp)
    have h3 : bs.length + ys.length ≤ 140737488355328 := by omega
    simp [vappendRow, T22, hb, S5, hz, vcells, hn, hm, h.2, h3, h2]
theorem encode_sees {σ : St} {n : Int} {x : V} {body : List UInt8} (hb : RB σ x body) (hl : body.length ≤ 100000000) :
    ∃ q σ', Does Tryd.prog prims 17 [.int .i64 n, x] σ q σ' ∧ ∃ v r, q = .ret v ∧ HB σ' v r (encS n body) ∧ σ.objs.length ≤ r ∧ Keep σ σ' := by
  apply k17_is.does (by simp)
  have hlen := hb.len
  obtain ⟨A, hA⟩ : ∃ A, A = BitVec.ofInt 32 n := ⟨_, rfl⟩
  obtain ⟨B, hB⟩ : ∃ B, B = BitVec.ofNat 32 body.length := ⟨_, rfl⟩
  have hB' : BitVec.ofInt 32 ((body.length : Nat) : Int) = B := by rw [hB]; simp
  have hhead : headS n body = fourB A ++ fourB B := by rw [hA, hB]; rfl
  have c1 := conv32 n
  have c2 := conv32 ((body.length : Nat) : Int)
  rw [← hA] at c1
  rw [hB'] at c2
  simp only [k17_a, WKV, Nat.reduceLT, Nat.reduceEqDiff, ↓reduceIte, reduceCtorEq, Nat.reduceAdd, Int.reduceLT, Int.reduceNeg, noSB, gD0, gD1, nilEP, c1, hlen, c2, bldA2]
  refine Ev.loopF (fun (i : Nat) e s => e 15 = .int .i64 (i : Nat) ∧ i ≤ 2 ∧ RO0 σ.objs.length s (e 5) ((fourB A ++ fourB B).take (4 * i)) ∧ Keep σ s) (fun i => 2 - i) 0 ?_ ?_
  · exact ⟨by simp [upd_some], Nat.zero_le _, by simp [upd_some, RO0], Keep.refl _⟩
  rintro i e s ⟨h15, hi, h5, hk⟩ hf
  have g1 : e 1 = x := (hf 1 (by decide)).trans (by simp [upd_some])
  have g14 : e 14 = .agg [.int .u32 ((A.toNat : Nat) : Int), .int .u32 ((B.toNat : Nat) : Int)] := (hf 14 (by decide)).trans (by simp [upd_some])
  clear hf
  by_cases hlt : i < 2
  · have hlt' : (i : Int) < 2 := by omega
    have hwi : IntKind.i64.wrap ((i : Int) + 1) = ((i + 1 : Nat) : Int) := by rw [wrap_i64 (by omega) (by omega)]; omega
    have hix := idxA2 A B i hlt
    obtain ⟨R, hR⟩ : ∃ R, R = if i = 0 then A else B := ⟨_, rfl⟩
    rw [← hR] at hix
    obtain ⟨w1, s1, v', r', s', a0, a1, a2, a3, a4⟩ := RO0.four hk h5 R (by rw [List.length_take]; simp [fourB_len]; omega)
    have htk : (fourB A ++ fourB B).take (4 * i) ++ fourB R = (fourB A ++ fourB B).take (4 * (i + 1)) := by
      match i, hlt with
      | 0, _ => rw [hR]; rfl
      | 1, _ => rw [hR]; rfl
    rw [htk] at a2
    simp only [k17_a, WKV, Nat.reduceLT, Nat.reduceEqDiff, ↓reduceIte, reduceCtorEq, Nat.reduceAdd, Int.reduceLT, Int.reduceNeg, noSB, h15, hlt', decide_true, g14, hix, conv8, shr8, shr16, shr24, a0, a1, hwi]
    exact ⟨i + 1, ⟨by simp [upd_some], by omega, by simpa [upd_some] using .inr ⟨r', a2, a3⟩, a4⟩, by omega⟩
  · have hlt' : ¬ (i : Int) < 2 := by omega
    have hi2 : i = 2 := by omega
    subst hi2
    have ht8 : (fourB A ++ fourB B).take (4 * 2) = fourB A ++ fourB B := List.take_of_length_le (by simp [fourB_len])
    rw [ht8, ← hhead] at h5
    obtain ⟨r5, h5, hr5⟩ : ∃ r, HB s (e 5) r (headS n body) ∧ σ.objs.length ≤ r := by
      rcases h5 with ⟨_, h⟩ | h
      · have := headS_len n body; rw [h] at this; simp at this
      · exact h
    have h8l := h5.rb.len
    obtain ⟨vc, v6, s6, hc, b1, b2, b3⟩ := h5.full (hb.keep hk) (by rw [headS_len]; omega)
    have h56 := h5.keep b3
    have hk6 := hk.trans b3
    have hs := crcsum_does (σ := s6) b2 (by rw [List.length_append, headS_len]; omega)
    obtain ⟨C, hC⟩ : ∃ C, C = crcSum (headS n body ++ body) := ⟨_, rfl⟩
    rw [← hC] at hs
    obtain ⟨w1, s7, v7, r7, s7', d0, d1, d2, d3, d4⟩ := RO0.four hk6 (.inr ⟨r5, h56, hr5⟩) C (by rw [headS_len]; omega)
    obtain ⟨v8, r8, s8, e1, e2, e3, e4⟩ := d2.append (hb.keep d4) (by rw [List.length_append, headS_len, fourB_len]; omega)
    have hk8 := d4.overX e3 d3
    have hr8 : σ.objs.length ≤ r8 := by have := Keep.olen d4; rcases e4 with h | h <;> omega
    simp only [k17_a, WKV, Nat.reduceLT, Nat.reduceEqDiff, ↓reduceIte, reduceCtorEq, Nat.reduceAdd, Int.reduceLT, Int.reduceNeg, noSB, h15, hlt', decide_false, g1, h8l, hc, b1, T22]
    refine KD.ret hs ?_
    simp only [k17_a, WKV, Nat.reduceLT, Nat.reduceEqDiff, ↓reduceIte, reduceCtorEq, Nat.reduceAdd, Int.reduceLT, Int.reduceNeg, noSB, uV, g1, conv8, shr8, shr16, shr24, d0, d1, e1]
    refine ⟨v8, r8, rfl, ?_, hr8, hk8⟩
    have : encS n body = headS n body ++ fourB C ++ body := by rw [hC, List.append_assoc]; rfl
    rw [this]
    exact e2
theorem shl_nat (r : BitVec 32) (k : Nat) (hk : k ≤ 24) (hr : r.toNat < 256) : IntKind.u32.wrap (((r.toNat : Nat) : Int) * (2 : Int) ^ k) = (((r <<< k).toNat : Nat) : Int) := by
  have h2 : 2 ^ k ≤ 2 ^ 24 := Nat.pow_le_pow_right (by decide) hk
  have h3 : r.toNat * 2 ^ k ≤ 255 * 2 ^ 24 := Nat.mul_le_mul (by omega) h2
  have e24 : (2 : Nat) ^ 24 = 16777216 := by decide
  have e : (((r.toNat : Nat) : Int) * (2 : Int) ^ k) = ((r.toNat * 2 ^ k : Nat) : Int) := by
    rw [Int.natCast_mul, Int.natCast_pow]; rfl
  rw [e, wrap_u32 (by omega) (by omega), BitVec.toNat_shiftLeft, Nat.shiftLeft_eq, Nat.mod_eq_of_lt (by omega)]
theorem byte_lt (b : UInt8) : (BitVec.ofNat 32 b.toNat).toNat < 256 := by
  have := b.toNat_lt
  rw [BitVec.toNat_ofNat, Nat.mod_eq_of_lt (by omega)]; omega
theorem shl8 (b : UInt8) : IntKind.u32.wrap ((((BitVec.ofNat 32 b.toNat).toNat : Nat) : Int) * (2 : Int) ^ (min (8 : Int).toNat IntKind.u32.bits)) = (((BitVec.ofNat 32 b.toNat <<< 8).toNat : Nat) : Int) := shl_nat _ 8 (by omega) (byte_lt b)
theorem shl16 (b : UInt8) : IntKind.u32.wrap ((((BitVec.ofNat 32 b.toNat).toNat : Nat) : Int) * (2 : Int) ^ (min (16 : Int).toNat IntKind.u32.bits)) = (((BitVec.ofNat 32 b.toNat <<< 16).toNat : Nat) : Int) := shl_nat _ 16 (by omega) (byte_lt b)
theorem shl24 (b : UInt8) : IntKind.u32.wrap ((((BitVec.ofNat 32 b.toNat).toNat : Nat) : Int) * (2 : Int) ^ (min (24 : Int).toNat IntKind.u32.bits)) = (((BitVec.ofNat 32 b.toNat <<< 24).toNat : Nat) : Int) := shl_nat _ 24 (by omega) (byte_lt b)
theorem conv832 (b : UInt8) : vconv Tryd.prog 5 61 (.int .u8 ((b.toNat : Nat) : Int)) = some (.int .u32 (((BitVec.ofNat 32 b.toNat).toNat : Nat) : Int)) := by
  simp only [vconv, pT5, pTU, byte32]
theorem BtsV.at' {v : V} {bs : List UInt8} (h : BtsV v bs) {i : Nat} (hi : i < bs.length) : vindexAddr Tryd.prog 22 v (.int .i64 (i : Int)) = some (.eptr (bs.map byteV) i) := by
  have := h.addr T22 S5 (k := .i64) (n := (i : Int)) (by omega) (by omega)
  rwa [Int.toNat_natCast] at this
theorem byte_ld {bs : List UInt8} {i : Nat} (hi : i < bs.length) {objs : List Ob} : vload Tryd.prog objs 5 (.eptr (bs.map byteV) i) = some (.int .u8 ((bs.getD i 0).toNat : Nat)) := by
  rw [gA6, List.getElem?_eq_getElem hi]
  exact BtsV.load (P := Tryd.prog) G5 hi
theorem word_does {σ : St} {r : Nat} {x : V} {bs : List UInt8} (ho : σ.objs[r]? = some (.cells [x])) (hb : BtsV x bs) {k : Nat} (hk : k + 4 ≤ bs.length) (hl : bs.length ≤ 1000000000) : Does Tryd.prog prims 40 [.int .i64 (k : Nat), .optr r 0] σ (.ret (uV (w4 bs k))) σ := by
  apply k40_is.ret (by simp)
  have lx : vload Tryd.prog σ.objs 22 (.optr r 0) = some x := by rw [vload_obj ho pGB]; rfl
  have w1 : IntKind.i64.wrap ((k : Int) + 1) = ((k + 1 : Nat) : Int) := by rw [wrap_i64 (by omega) (by omega)]; omega
  have w2 : IntKind.i64.wrap ((k : Int) + 2) = ((k + 2 : Nat) : Int) := by rw [wrap_i64 (by omega) (by omega)]; omega
  have w3 : IntKind.i64.wrap ((k : Int) + 3) = ((k + 3 : Nat) : Int) := by rw [wrap_i64 (by omega) (by omega)]; omega
  simp only [k40_a, WKV, Nat.reduceLT, Nat.reduceEqDiff, ↓reduceIte, reduceCtorEq, Nat.reduceAdd, Int.reduceLT, Int.reduceNeg, noSB, gD0, gD1, lx, w1, w2, w3, hb.at' (show k < bs.length by omega), hb.at' (show k + 1 < bs.length by omega), hb.at' (show k + 2 < bs.length by omega), hb.at' (show k + 3 < bs.length by omega),
    byte_ld (show k < bs.length by omega), byte_ld (show k + 1 < bs.length by omega), byte_ld (show k + 2 < bs.length by omega), byte_ld (show k + 3 < bs.length by omega), conv832, shl8, shl16, shl24, bit_or]
  rfl
theorem conv64a (r : BitVec 32) : vconv Tryd.prog 61 64 (.int .u32 ((r.toNat : Nat) : Int)) = some (.int .u64 ((r.toNat : Nat) : Int)) := by
  have h : IntKind.u64.wrap ((r.toNat : Nat) : Int) = ((r.toNat : Nat) : Int) := by
    have := r.isLt
    unfold IntKind.wrap
    simp [IntKind.bits, IntKind.signed, IntKind.max, IntKind.min]
    omega
  have hu : Tryd.prog.underlying 64 = some (.int .u64) := by kernel_rfl
  simp only [vconv, pTU, hu, h]
theorem conv64b (n : Nat) (hn : n ≤ 1000000000) : vconv Tryd.prog 3 64 (.int .i64 ((n : Nat) : Int)) = some (.int .u64 ((n : Nat) : Int)) := by
  have h : IntKind.u64.wrap ((n : Nat) : Int) = ((n : Nat) : Int) := by
    unfold IntKind.wrap
    simp [IntKind.bits, IntKind.signed, IntKind.max, IntKind.min]
    omega
  have hu : Tryd.prog.underlying 64 = some (.int .u64) := by kernel_rfl
  simp only [vconv, T3, hu, h]
theorem toNat_eq (a b : BitVec 32) : (((a.toNat : Nat) : Int) = ((b.toNat : Nat) : Int)) ↔ a = b := ⟨fun h => BitVec.eq_of_toNat_eq (by omega), fun h => by rw [h]⟩
theorem BtsV.clipN {v : V} {bs : List UInt8} (h : BtsV v bs) {n k : Nat} (hk : k ≤ bs.length) (h0 : 0 < k) {σ : St} : ∃ v', vslice Tryd.prog 22 v none (some (.int .i64 (k : Int))) (some (.int .i64 (k : Int))) = some v' ∧ OwnV 5 n σ v' (bs.take k) := by
  rcases h with ⟨rfl, rfl⟩ | ⟨p, rfl⟩
  · simp at hk; omega
  · refine ⟨.slice .exact 1 ((bs.take k).map byteV) (bs.take k).length, ?_, .inr ⟨.exact, rfl, .inl rfl⟩⟩
    have hb : vbounds bs.length none (some (.int .i64 (k : Int))) (some (.int .i64 (k : Int))) = some (0, k, some k) := by
      have : (k : Int) ≤ bs.length := by omega
      simp [vbounds, vb, this]
    simp only [vslice, T22, S5, hb, if_true, Nat.zero_mul, List.drop_zero, Nat.sub_zero, Nat.mul_one]
    rw [List.length_take, Nat.min_eq_left hk, List.map_take]
def RO (n : Nat) (σ : St) (v : V) (bs : List UInt8) : Prop := (v = .nils ∧ bs = []) ∨ ∃ r, HB σ v r bs ∧ n ≤ r
theorem RO.rb {n : Nat} {σ : St} {v : V} {bs : List UInt8} (h : RO n σ v bs) : RB σ v bs := by
  rcases h with h | ⟨r, h, _⟩
  · exact .inl (.inl h)
  · exact h.rb
theorem RO.one {n : Nat} {σ : St} {v : V} {bs : List UInt8} (h : RO n σ v bs) : one v = true := by
  rcases h with ⟨rfl, rfl⟩ | ⟨r, h, _⟩
  · rfl
  · rw [h.1]; rfl
theorem RO.ks {n : Nat} {σ σ' : St} {v : V} {bs : List UInt8} {S : List Nat} (h : RO n σ v bs) (hk : KS S σ σ') (hS : ∀ r ∈ S, r < n) : RO n σ' v bs := by
  rcases h with h | ⟨r, h, hn⟩
  · exact .inl h
  · exact .inr ⟨r, ⟨h.1, hk.ko _ _ (fun hm => by have := hS r hm; omega) h.2⟩, hn⟩
theorem RO.mono {m n : Nat} {σ : St} {v : V} {bs : List UInt8} (h : RO n σ v bs) (hn : m ≤ n) : RO m σ v bs := by
  rcases h with h | ⟨r, h, h2⟩
  · exact .inl h
  · exact .inr ⟨r, h, by omega⟩
theorem decode_sees {σ : St} {n : Int} {x : V} {bs : List UInt8} (hb : BtsV x bs) (hl : bs.length ≤ 100000000) :
    ∃ q σ', Does Tryd.prog prims 12 [.int .i64 n, x] σ q σ' ∧ ∃ v, q = .ret (.tuple [v, .int .i64 ((decS n bs).2 : Nat)]) ∧ RO σ.objs.length σ' v (decS n bs).1 ∧ KS [] σ σ' := by
  apply k12_is.does (by simp)
  obtain ⟨s1, hs1⟩ : ∃ s1 : St, s1 = ⟨σ.objs ++ [.cells [x]], σ.toks⟩ := ⟨_, rfl⟩
  have hcx : vcells x = [x] := vcells_one hb.one
  have K1 : KS [] σ s1 := by rw [hs1]; exact KS.push _ _ _
  have ob : s1.objs[σ.objs.length]? = some (.cells [x]) := by rw [hs1]; exact push_new _ _
  have lx : ∀ {s : St}, KS [] s1 s → vload Tryd.prog s.objs 22 (.optr σ.objs.length 0) = some x := fun {s} hk => by rw [vload_obj (hk.ko _ _ (by simp) ob) pGB]; rfl
  have lx1 := lx (KS.refl [] s1)
  have hlen := hb.len T22
  have nilO : ∀ s : St, RO σ.objs.length s .nils [] := fun s => .inl ⟨rfl, rfl⟩
  by_cases h12 : bs.length < 12
  · have h12' : ((bs.length : Nat) : Int) < 12 := by omega
    have e : decS n bs = ([], 10) := by unfold decS; rw [if_pos h12]
    simp only [k12_a, WKV, Nat.reduceLT, Nat.reduceEqDiff, ↓reduceIte, reduceCtorEq, Nat.reduceAdd, Int.reduceLT, Int.reduceNeg, noSB, gD0, gD1, nilEP, vbox, hcx, ← hs1, lx1, hlen, h12', decide_true, e]
    exact ⟨.nils, rfl, nilO _, K1⟩
  have h12' : ¬ ((bs.length : Nat) : Int) < 12 := by omega
  obtain ⟨vb, hvb, hbb⟩ := hb.slice (t := 22) T22 S5 (vbounds_lo (k := .i64) (n := 12) (len := bs.length) (by omega) (by omega)) (by omega) (by omega)
  rw [show (12 : Int).toNat = 12 from rfl, List.take_of_length_le (by rw [List.length_drop]; omega)] at hbb
  have hbl := hbb.len T22
  have hbdl : (bs.drop 12).length = bs.length - 12 := List.length_drop
  have f4 : ∀ s, KS [] s1 s → Does Tryd.prog prims 40 [.int .i64 4, .optr σ.objs.length 0] s (.ret (uV (w4 bs 4))) s := fun s hk => word_does (hk.ko _ _ (by simp) ob) hb (k := 4) (by omega) (by omega)
  have f0 : ∀ s, KS [] s1 s → Does Tryd.prog prims 40 [.int .i64 0, .optr σ.objs.length 0] s (.ret (uV (w4 bs 0))) s := fun s hk => word_does (hk.ko _ _ (by simp) ob) hb (k := 0) (by omega) (by omega)
  have f8 : ∀ s, KS [] s1 s → Does Tryd.prog prims 40 [.int .i64 8, .optr σ.objs.length 0] s (.ret (uV (w4 bs 8))) s := fun s hk => word_does (hk.ko _ _ (by simp) ob) hb (k := 8) (by omega) (by omega)
  rw [hbdl] at hbl
  have cb := conv64b (bs.length - 12) (by omega)
  simp only [k12_a, WKV, Nat.reduceLT, Nat.reduceEqDiff, ↓reduceIte, reduceCtorEq, Nat.reduceAdd, Int.reduceLT, Int.reduceNeg, noSB, gD0, gD1, nilEP, vbox, hcx, ← hs1, lx1, hlen, h12', decide_false, T22, hvb]
  refine KD.ret (f4 s1 (KS.refl _ _)) ?_
  by_cases hshort : bs.length - 12 < (w4 bs 4).toNat
  · have hshort' : ((bs.length - 12 : Nat) : Int) < (((w4 bs 4).toNat : Nat) : Int) := by omega
    have e : decS n bs = ([], 10) := by unfold decS; rw [if_neg h12, if_pos hshort]
    simp only [k12_a, WKV, Nat.reduceLT, Nat.reduceEqDiff, ↓reduceIte, reduceCtorEq, Nat.reduceAdd, Int.reduceLT, Int.reduceNeg, noSB, uV, conv64a, hbl, cb, hshort', decide_true, nilEP, e]
    exact ⟨.nils, rfl, nilO _, K1⟩
  have hshort' : ¬ ((bs.length - 12 : Nat) : Int) < (((w4 bs 4).toNat : Nat) : Int) := by omega
  simp only [k12_a, WKV, Nat.reduceLT, Nat.reduceEqDiff, ↓reduceIte, reduceCtorEq, Nat.reduceAdd, Int.reduceLT, Int.reduceNeg, noSB, uV, conv64a, hbl, cb, hshort', decide_false]
  refine KD.ret (f4 s1 (KS.refl _ _)) ?_
  by_cases hsmall : (w4 bs 4).toNat < bs.length - 12
  · have hsmall' : (((w4 bs 4).toNat : Nat) : Int) < ((bs.length - 12 : Nat) : Int) := by omega
    have e : decS n bs = ([], 11) := by unfold decS; rw [if_neg h12, if_neg hshort, if_pos (.inl hsmall)]
    simp only [k12_a, WKV, Nat.reduceLT, Nat.reduceEqDiff, ↓reduceIte, reduceCtorEq, Nat.reduceAdd, Int.reduceLT, Int.reduceNeg, noSB, uV, conv64a, hbl, cb, hsmall', decide_true, nilEP, e]
    exact ⟨.nils, rfl, nilO _, K1⟩
  have hsmall' : ¬ (((w4 bs 4).toNat : Nat) : Int) < ((bs.length - 12 : Nat) : Int) := by omega
  by_cases hn0 : n < 0
  · have e : decS n bs = ([], 11) := by unfold decS; rw [if_neg h12, if_neg hshort, if_pos (.inr (.inl hn0))]
    simp only [k12_a, WKV, Nat.reduceLT, Nat.reduceEqDiff, ↓reduceIte, reduceCtorEq, Nat.reduceAdd, Int.reduceLT, Int.reduceNeg, noSB, gD0, gD1, uV, conv64a, hbl, cb, hsmall', hn0, decide_true, decide_false, nilEP, e]
    exact ⟨.nils, rfl, nilO _, K1⟩
  by_cases hn9 : 999999999 < n
  · have e : decS n bs = ([], 11) := by unfold decS; rw [if_neg h12, if_neg hshort, if_pos (.inr (.inr (.inl hn9)))]
    simp only [k12_a, WKV, Nat.reduceLT, Nat.reduceEqDiff, ↓reduceIte, reduceCtorEq, Nat.reduceAdd, Int.reduceLT, Int.reduceNeg, noSB, gD0, gD1, uV, conv64a, hbl, cb, hsmall', hn0, hn9, decide_true, decide_false, nilEP, e]
    exact ⟨.nils, rfl, nilO _, K1⟩
  simp only [k12_a, WKV, Nat.reduceLT, Nat.reduceEqDiff, ↓reduceIte, reduceCtorEq, Nat.reduceAdd, Int.reduceLT, Int.reduceNeg, noSB, gD0, gD1, uV, conv64a, hbl, cb, hsmall', hn0, hn9, decide_false]
  refine KD.ret (f0 s1 (KS.refl _ _)) ?_
  by_cases h0 : w4 bs 0 = BitVec.ofInt 32 n
  · have h0' : (((w4 bs 0).toNat : Nat) : Int) = (((BitVec.ofInt 32 n).toNat : Nat) : Int) := by rw [h0]
    simp only [k12_a, WKV, Nat.reduceLT, Nat.reduceEqDiff, ↓reduceIte, reduceCtorEq, Nat.reduceAdd, Int.reduceLT, Int.reduceNeg, noSB, gD0, gD1, uV, conv32, h0', eq_self, decide_true, Bool.not_true]
    refine KD.ret (f8 s1 (KS.refl _ _)) ?_
    obtain ⟨vc, hc, oc⟩ := hb.clipN (n := s1.toks.length) (k := 8) (by omega) (by omega) (σ := s1)
    have hc : vslice Tryd.prog 22 x none (some (.int .i64 8)) (some (.int .i64 8)) = some vc := hc
    obtain ⟨v6, s6, b1, b2, b3, b4⟩ := OwnV.append' (P := Tryd.prog) (t := 22) (t2 := 22) BT oc (σ0 := s1) rfl (Keep.refl s1) T22 hbb (by rw [List.length_take]; omega)
    have hs := crcsum_does (σ := s6) (.inl b2.bts) (by rw [List.length_append, List.length_take]; omega)
    have K6 : KS [] σ s6 := K1.trans' (b3.ks [])
    have lx6 := lx (b3.ks [])
    simp only [k12_a, WKV, Nat.reduceLT, Nat.reduceEqDiff, ↓reduceIte, reduceCtorEq, Nat.reduceAdd, Int.reduceLT, Int.reduceNeg, noSB, uV, lx1, hc, T22, b1]
    refine KD.ret hs ?_
    by_cases h8 : w4 bs 8 = crcSum (bs.take 8 ++ bs.drop 12)
    · have h8' : (((w4 bs 8).toNat : Nat) : Int) = (((crcSum (bs.take 8 ++ bs.drop 12)).toNat : Nat) : Int) := by rw [h8]
      have e : decS n bs = (bs.drop 12, 0) := by
        unfold decS
        rw [if_neg h12, if_neg hshort, if_neg (by rintro (h | h | h | h); exact hsmall h; exact hn0 h; exact hn9 h; exact h h0), if_neg (fun h => h h8)]
      obtain ⟨s7, hs7⟩ : ∃ s7 : St, s7 = ⟨s6.objs ++ [.cells []], s6.toks⟩ := ⟨_, rfl⟩
      have hl0 := litRow0 s6
      rw [← hs7] at hl0
      have K7 : KS [] σ s7 := by rw [hs7]; exact K6.trans' (KS.push _ _ _)
      have h7 : HB s7 (.hslice s6.objs.length 0 1 0) s6.objs.length [] := by rw [hs7]; exact made _ [] rfl
      obtain ⟨v8, q8, s8, c1, c2, c3, c4⟩ := h7.append (y := vb) (ys := bs.drop 12) (.inl hbb) (by simp; omega)
      rw [List.nil_append] at c2
      have hle6 := K6.le
      simp only [k12_a, WKV, Nat.reduceLT, Nat.reduceEqDiff, ↓reduceIte, reduceCtorEq, Nat.reduceAdd, Int.reduceLT, Int.reduceNeg, noSB, uV, h8', eq_self, decide_true, Bool.not_true, hl0, c1, e, lx1, lx6]
      refine ⟨v8, rfl, .inr ⟨q8, c2, ?_⟩, ⟨fun r o hr ho => c3.1 r o ?_ (K7.ko r o hr ho), ?_, Nat.le_trans K7.tl c3.2.1, fun k hk => c3.2.2 k (K7.tk k hk)⟩⟩
      · have := K7.le
        rcases c4 with c4 | c4 <;> omega
      · have := (gA0.1 ho).1; omega
      · have := c2.lt
        rcases c4 with c4 | c4
        · omega
        · have := K7.le; omega
    · have h8' : ¬ (((w4 bs 8).toNat : Nat) : Int) = (((crcSum (bs.take 8 ++ bs.drop 12)).toNat : Nat) : Int) := fun h => h8 ((toNat_eq _ _).1 h)
      have e : decS n bs = ([], 12) := by
        unfold decS
        rw [if_neg h12, if_neg hshort, if_neg (by rintro (h | h | h | h); exact hsmall h; exact hn0 h; exact hn9 h; exact h h0), if_pos h8]
      simp only [k12_a, WKV, Nat.reduceLT, Nat.reduceEqDiff, ↓reduceIte, reduceCtorEq, Nat.reduceAdd, Int.reduceLT, Int.reduceNeg, noSB, uV, h8', decide_false, Bool.not_false, nilEP, e, lx1, lx6]
      exact ⟨.nils, rfl, nilO _, K6⟩
  · have h0' : ¬ (((w4 bs 0).toNat : Nat) : Int) = (((BitVec.ofInt 32 n).toNat : Nat) : Int) := fun h => h0 ((toNat_eq _ _).1 h)
    have e : decS n bs = ([], 11) := by unfold decS; rw [if_neg h12, if_neg hshort, if_pos (.inr (.inr (.inr h0)))]
    simp only [k12_a, WKV, Nat.reduceLT, Nat.reduceEqDiff, ↓reduceIte, reduceCtorEq, Nat.reduceAdd, Int.reduceLT, Int.reduceNeg, noSB, gD0, gD1, uV, conv32, h0', decide_false, Bool.not_false, nilEP, e]
    exact ⟨.nils, rfl, nilO _, K1⟩
theorem dec_enc {n : Int} {body : List UInt8} (hn : 0 ≤ n ∧ n ≤ 999999999) (hl : body.length ≤ 100000000) : decS n (encS n body) = (body, 0) := by
  have hlen := encS_len n body
  have hd : (encS n body).drop 12 = body := by
    unfold encS
    rw [← List.append_assoc]
    exact List.drop_left' (by rw [List.length_append, headS_len, fourB_len])
  have ht8 : (encS n body).take 8 = headS n body := List.take_left' (headS_len n body)
  have h0 : w4 (encS n body) 0 = BitVec.ofInt 32 n := w4_of (by
    have : ((encS n body).drop 0).take 4 = ((encS n body).take 8).take 4 := by rw [List.take_take]; simp
    rw [this, ht8]; rfl)
  have h4 : w4 (encS n body) 4 = BitVec.ofNat 32 body.length := w4_of (by
    have : ((encS n body).drop 4).take 4 = ((encS n body).take 8).drop 4 := by rw [List.drop_take]
    rw [this, ht8]; rfl)
  have h8 : w4 (encS n body) 8 = crcSum (headS n body ++ body) := w4_of (by
    unfold encS
    rw [List.drop_left' (headS_len n body)]
    exact List.take_left' (fourB_len _))
  have h4n : (w4 (encS n body) 4).toNat = body.length := by rw [h4, BitVec.toNat_ofNat, Nat.mod_eq_of_lt (by omega)]
  unfold decS
  rw [if_neg (by omega), if_neg (by omega), if_neg (by rintro (h | h | h | h); omega; omega; omega; exact h h0), if_neg (by rw [h8, ht8, hd]; exact fun h => h rfl), hd]
theorem sbN {a b : List UInt8} : strBin .neq a b = some (.bool (!decide (a = b))) := rfl
theorem sbE {a b : List UInt8} : strBin .eql a b = some (.bool (decide (a = b))) := rfl
theorem same5_does {v w : V} {xs bs : List UInt8} {σ : St} (hv : RB σ v xs) (hw : RB σ w bs) (hla : xs.length ≤ 140737488355328) : Does Tryd.prog prims 16 [v, w] σ (.ret (.bool (decide (xs = bs)))) σ := by
  apply k16_is.ret (by simp)
  by_cases hlen : xs.length = bs.length
  · have hne : decide ((xs.length : Int) = bs.length) = true := by simp [hlen]
    simp only [k16_a, WKV, Nat.reduceLT, Nat.reduceEqDiff, ↓reduceIte, reduceCtorEq, Nat.reduceAdd, Int.reduceLT, Int.reduceNeg, noSB, gD0, gD1, hv.len, hw.len, hne]
    refine Ev.loopF (fun i e σ' => σ' = σ ∧ e 13 = .int .i64 (i : Nat) ∧ i ≤ xs.length ∧ xs.take i = bs.take i) (fun i => xs.length - i) 0 ⟨rfl, by simp [upd_some], by simp, by simp⟩ ?_
    rintro i e σ' ⟨rfl, h13, hi, htk⟩ hf
    have h0 : e 0 = v := (hf 0 (by decide)).trans (by simp [upd_some])
    have h1 : e 1 = w := (hf 1 (by decide)).trans (by simp [upd_some])
    have h12 : e 12 = .int .i64 xs.length := (hf 12 (by decide)).trans (by simp [upd_some])
    by_cases hlt : i < xs.length
    · have hlt' : (i : Int) < xs.length := by omega
      have hltb : i < bs.length := by omega
      have hwi : IntKind.i64.wrap ((i : Int) + 1) = ((i + 1 : Nat) : Int) := by rw [show ((i : Int) + 1) = ((i + 1 : Nat) : Int) from by omega]; exact wrap_nat (by omega)
      obtain ⟨p, hp, hlp⟩ := hv.at hlt
      obtain ⟨q, hq, hlq⟩ := hw.at hltb
      by_cases he : xs[i] = bs[i]
      · have hd : decide (((xs[i].toNat : Nat) : Int) = bs[i].toNat) = true := by simp [he]
        simp only [k16_a, WKV, Nat.reduceLT, Nat.reduceEqDiff, ↓reduceIte, reduceCtorEq, Nat.reduceAdd, Int.reduceLT, Int.reduceNeg, noSB, h0, h1, h12, h13, hlt', hp, hq, hlp, hlq, hd, hwi]
        refine ⟨i + 1, ⟨rfl, hlt, ?_⟩, by omega⟩
        rw [List.take_succ_eq_append_getElem hlt, List.take_succ_eq_append_getElem hltb, htk, he]
      · have hd : decide (((xs[i].toNat : Nat) : Int) = bs[i].toNat) = false := by
          simp only [decide_eq_false_iff_not]
          intro h
          exact he (UInt8.toNat_inj.1 (by omega))
        simp only [k16_a, WKV, Nat.reduceLT, Nat.reduceEqDiff, ↓reduceIte, reduceCtorEq, Nat.reduceAdd, Int.reduceLT, Int.reduceNeg, noSB, h0, h1, h12, h13, hlt', hp, hq, hlp, hlq, hd, hwi]
        have : xs ≠ bs := by rintro rfl; exact he rfl
        simp [this]
    · have hlt' : ¬ (i : Int) < xs.length := by omega
      simp only [k16_a, WKV, Nat.reduceLT, Nat.reduceEqDiff, ↓reduceIte, reduceCtorEq, Nat.reduceAdd, Int.reduceLT, Int.reduceNeg, noSB, h0, h1, h12, h13, hlt']
      have : xs = bs := by
        rw [List.take_of_length_le (by omega), List.take_of_length_le (by omega)] at htk
        exact htk
      simp [this]
  · have hne : decide ((xs.length : Int) = bs.length) = false := by simp; omega
    simp only [k16_a, WKV, Nat.reduceLT, Nat.reduceEqDiff, ↓reduceIte, reduceCtorEq, Nat.reduceAdd, Int.reduceLT, Int.reduceNeg, noSB, gD0, gD1, hv.len, hw.len, hne]
    have : xs ≠ bs := by rintro rfl; exact hlen rfl
    simp [this]
theorem decS_len (n : Int) (bs : List UInt8) : (decS n bs).1.length ≤ bs.length := by
  unfold decS
  repeat' split
  all_goals simp
end Go.Proofs.YtnegdinonfjdfaaDoor.Q
