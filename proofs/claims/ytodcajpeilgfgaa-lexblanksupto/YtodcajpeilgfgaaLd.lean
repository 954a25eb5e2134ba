import Derived.Test.YtodcajpeilgfgaaLc
set_option linter.unusedVariables false
set_option linter.unusedSimpArgs false
namespace Go.Proofs.Ytodcajpeilgfgaa.Q
open Go Go.RowKit Go.Proofs

/-! ### strings.Builder -/
theorem vload_tobj {P : Program} {objs : List Ob} {r off : Nat} {ty : TypeId} {cs : List V} {t : TypeId} (h : objs[r]? = some (.tcells ty cs)) (ha : isAggT P t = some false) : vload P objs t (.optr r off) = cs[off]? := by
  simp [vload, vcellsAt, h, vpart, ha]
theorem vstore_tobj {P : Program} {σ : St} {r off : Nat} {ty : TypeId} {cs : List V} {t : TypeId} {v : V} (h : σ.objs[r]? = some (.tcells ty cs)) (hs : sizeT P t = some 1) (h1 : one v = true) (hl : off < cs.length) : vstore P σ t (.optr r off) v = some ⟨σ.objs.set r (.tcells ty (cs.set off v)), σ.toks⟩ := by
  have h2 : off + 1 ≤ cs.length := hl
  simp [vstore, h, hs, vcells_one h1, h1, h2, setAll]
theorem FB0 (r : Nat) : vfieldAddr Try.prog 54 (.optr r 0) 0 = some (.optr r 0) := by kernel_rfl
theorem FB1 (r : Nat) : vfieldAddr Try.prog 54 (.optr r 0) 1 = some (.optr r 1) := by kernel_rfl
theorem ZB : zeroT Try.prog 54 = some (.agg [.nilp, .nils]) := by kernel_rfl
theorem ofVal_nili : ofVal .nilIface = some .nili := rfl

def OwnB (m : Nat) (σ : St) (v : V) (bs : List UInt8) : Prop := (v = .nils ∧ bs = []) ∨ (bs ≠ [] ∧ ∃ q, v = .slice (.tok q 5) 1 (bs.map byteV) bs.length ∧ tokLive σ.toks q = true ∧ m ≤ q)
def IsB (σ : St) (b m : Nat) (bs : List UInt8) : Prop := ∃ a v, σ.objs[b]? = some (.tcells 54 [a, v]) ∧ self? b a = true ∧ OwnB m σ v bs ∧ m ≤ σ.toks.length
theorem OwnB.len {m : Nat} {σ : St} {v : V} {bs : List UInt8} (h : OwnB m σ v bs) : vlen Try.prog 29 v = some (.int .i64 bs.length) := by
  rcases h with ⟨rfl, rfl⟩ | ⟨_, q, rfl, _⟩ <;> simp [vlen, T22]
theorem OwnB.one {m : Nat} {σ : St} {v : V} {bs : List UInt8} (h : OwnB m σ v bs) : one v = true := by
  rcases h with ⟨rfl, rfl⟩ | ⟨_, q, rfl, _⟩ <;> rfl
theorem OwnB.append {m : Nat} {σ : St} {v : V} {bs : List UInt8} (h : OwnB m σ v bs) (hm : m ≤ σ.toks.length) (hl : bs.length ≤ 1000000000) (c : UInt8) :
    ∃ v' σ', vappend Try.prog σ 29 29 v (.slice .exact 1 [.int .u8 (c.toNat : Int)] 1) = some (v', σ') ∧ OwnB m σ' v' (bs ++ [c]) ∧ σ'.objs = σ.objs ∧ σ.toks.length ≤ σ'.toks.length ∧ ∀ k, k < m → tokLive σ.toks k = true → tokLive σ'.toks k = true := by
  have hne : bs ++ [c] ≠ [] := by simp
  rcases h with ⟨rfl, rfl⟩ | ⟨_, q, rfl, hq, hmq⟩
  · refine ⟨.slice (.tok σ.toks.length 5) 1 [byteV c] 1, ⟨σ.objs, σ.toks ++ [true]⟩, ?_, .inr ⟨hne, σ.toks.length, rfl, tokLive_new _, hm⟩, rfl, by simp, fun k _ hk => tokLive_app hk⟩
    simp [vappend, vnews, BT.u, BT.s, BT.z, BT.b, vcells, byteV, T22]
  · have hkl : (killTok σ.toks q).length = σ.toks.length := by simp [killTok]
    refine ⟨.slice (.tok σ.toks.length 5) 1 ((bs ++ [c]).map byteV) (bs ++ [c]).length, ⟨σ.objs, killTok σ.toks q ++ [true]⟩, ?_, .inr ⟨hne, σ.toks.length, rfl, by have := tokLive_new (killTok σ.toks q); rwa [hkl] at this, hm⟩, rfl, by simp [hkl], fun k hk hl => tokLive_app (tokLive_kill_ne hl (by omega))⟩
    have h1 : bs.length + 1 ≤ 140737488355328 := by omega
    simp [vappend, vnews, BT.u, BT.s, BT.z, BT.b, vcells, byteV, T22, h1, hq]
    rfl

theorem blen_does {σ : St} {b m : Nat} {bs : List UInt8} (h : IsB σ b m bs) : Does Try.prog prims 31 [.optr b 0] σ (.ret (.int .i64 bs.length)) σ := by
  obtain ⟨a, v, h1, h2, h3, _⟩ := h
  apply k31_is.ret (by simp)
  simp only [k31_a, WK, vop, evAll, evOpt, evParts, vbuiltin, vun, vextract, Nat.reduceLT, Nat.reduceEqDiff, ↓reduceIte, reduceCtorEq, Nat.reduceAdd, Int.reduceLT, Int.reduceNeg, valloc_std, noSB, FB1, vload_tobj h1 G22, h3.len]

theorem bwrite_does {σ : St} {b m : Nat} {bs : List UInt8} (h : IsB σ b m bs) (hl : bs.length ≤ 1000000000) (c : UInt8) : ∃ σ', Does Try.prog prims 33 [.optr b 0, .int .u8 (c.toNat : Int)] σ (.ret .nili) σ' ∧ IsB σ' b m (bs ++ [c]) ∧ KeepM b m σ σ' := by
  have key : ∃ q σ', Does Try.prog prims 33 [.optr b 0, .int .u8 (c.toNat : Int)] σ q σ' ∧ q = .ret .nili ∧ IsB σ' b m (bs ++ [c]) ∧ KeepM b m σ σ' := by
    obtain ⟨a, v, h1, h2, h3, hm⟩ := h
    apply k33_is.does (by simp)
    have d1 := Does_copyCheck h1 h2
    obtain ⟨s1, hs1⟩ : ∃ s1 : St, s1 = ⟨σ.objs.set b (.tcells 54 [.optr b 0, v]), σ.toks⟩ := ⟨_, rfl⟩
    rw [← hs1] at d1
    obtain ⟨k1, b1⟩ := KeepX.set_eq h1 hs1
    have t1 : s1.toks = σ.toks := by rw [hs1]
    have h31 : OwnB m s1 v bs := by unfold OwnB at h3 ⊢; rw [t1]; exact h3
    obtain ⟨v2, s2, ha, ho, hob, hg, hk⟩ := h31.append (by rw [t1]; exact hm) hl c
    have b2 : s2.objs[b]? = some (.tcells 54 [.optr b 0, v]) := by rw [hob]; exact b1
    obtain ⟨s3, hs3⟩ : ∃ s3 : St, s3 = ⟨s2.objs.set b (.tcells 54 [.optr b 0, v2]), s2.toks⟩ := ⟨_, rfl⟩
    obtain ⟨k3, b3⟩ := KeepX.set_eq b2 hs3
    have hst : vstore Try.prog s2 29 (.optr b 1) v2 = some s3 := by rw [vstore_tobj b2 S22 ho.one (by simp), hs3]; rfl
    simp only [k33_a, WK, vop, evAll, evOpt, evParts, vbuiltin, vun, vextract, Nat.reduceLT, Nat.reduceEqDiff, ↓reduceIte, reduceCtorEq, Nat.reduceAdd, Int.reduceLT, Int.reduceNeg, valloc_std, noSB, ofVal_nili]
    refine KD.ret d1 ?_
    simp only [k33_a, WK, vop, evAll, evOpt, evParts, vbuiltin, vun, vextract, Nat.reduceLT, Nat.reduceEqDiff, ↓reduceIte, reduceCtorEq, Nat.reduceAdd, Int.reduceLT, Int.reduceNeg, valloc_std, noSB, ofVal_nili, FB1, vload_tobj b1 G22, build1 BT, ha, hst]
    refine ⟨⟨_, v2, b3, by simp [self?], ?_, ?_⟩, ?_⟩
    · unfold OwnB at ho ⊢; rw [hs3]; exact ho
    · rw [hs3]; show m ≤ s2.toks.length; rw [t1] at hg; omega
    · refine ⟨fun q o hq ho' => ?_, ?_, fun k hkm hkl => ?_⟩
      · refine k3.1 q o hq ?_
        rw [hob]; exact k1.1 q o hq ho'
      · rw [hs3]; show σ.toks.length ≤ s2.toks.length; rw [t1] at hg; exact hg
      · rw [hs3]; show tokLive s2.toks k = true; exact hk k hkm (by rw [t1]; exact hkl)
  obtain ⟨q, σ', h1, rfl, h2⟩ := key
  exact ⟨σ', h1, h2⟩

theorem bytesOf_map : ∀ (bs : List UInt8), bytesOf' (bs.map byteV) = some bs
  | [] => rfl
  | b :: bs => by
    have h1 : byteOf1 (byteV b) = some b := by have := b.toNat_lt; simp [byteV, byteOf1]
    simp only [List.map_cons, bytesOf', h1, bytesOf_map bs]
theorem btext_does {σ : St} {b m : Nat} {bs : List UInt8} (h : IsB σ b m bs) : ∃ σ', Does Try.prog prims 32 [.optr b 0] σ (.ret (.str bs)) σ' ∧ σ'.objs = σ.objs ∧ σ.toks.length ≤ σ'.toks.length ∧ ∀ k, k < m → tokLive σ.toks k = true → tokLive σ'.toks k = true := by
  obtain ⟨a, v, h1, h2, h3, hm⟩ := h
  rcases h3 with ⟨rfl, rfl⟩ | ⟨hne, q, rfl, hq, hmq⟩
  · exact ⟨σ, Does_String h1 h2 (by simp [sbText]), rfl, Nat.le_refl _, fun _ _ h => h⟩
  · refine ⟨⟨σ.objs, killTok σ.toks q⟩, Does_String h1 h2 ?_, rfl, by simp [killTok], fun k hk hl => tokLive_kill_ne hl (by omega)⟩
    simp [sbText, bytesOf_map, vbeqs_self, hne, hq]

/-! ### text -/
theorem txtR_cons (c : UInt8) (l acc : List UInt8) (off : Nat) : txtR (c :: l) acc off = if c = 34 then (if 256 < acc.length then .bad 0 3 else .ok 3 acc 0 (off + 1))
    else if c.toNat < 32 ∨ 126 < c.toNat then .bad off 30
    else if c = 92 then match l with
      | [] => .bad off 30
      | d :: l' => if d ≠ 34 ∧ d ≠ 92 then .bad off 30 else txtR l' (acc ++ [d]) (off + 2)
    else txtR l (acc ++ [c]) (off + 1) := by rw [txtR.eq_def]; rfl
theorem txtR_nil (acc : List UInt8) (off : Nat) : txtR [] acc off = .bad 0 30 := by rw [txtR.eq_def]
theorem txtR_34 {l acc : List UInt8} {off : Nat} : txtR (34 :: l) acc off = if 256 < acc.length then .bad 0 3 else .ok 3 acc 0 (off + 1) := by rw [txtR_cons, if_pos rfl]
theorem u8n {c : UInt8} {k : Nat} (hk : k < 256) : ((c.toNat : Int) = (k : Int)) = (c = UInt8.ofNat k) := by
  apply propext
  constructor
  · intro e; rw [← UInt8.ofNat_toNat (x := c), show c.toNat = k by omega]
  · rintro rfl; rw [UInt8.toNat_ofNat_of_lt' (by show k < 256; exact hk)]
theorem LexR.keepM {σ σ' : St} {p b : Nat} {s : List UInt8} {n : Nat} {toks : List Tok} {m : Nat} (h : LexR σ p s n toks m) (hk : KeepM b σ.toks.length σ σ') (hne : p ≠ b) : LexR σ' p s n toks m := by
  obtain ⟨v, h1, h2, h3⟩ := h
  exact ⟨v, hk.1 _ _ hne h1, h2.keep fun k hl => hk.2.2 k (tokLive_lt hl) hl, Nat.le_trans h3 hk.2.1⟩
theorem LexR.keepM2 {σ σ1 σ' : St} {p b : Nat} {s : List UInt8} {n : Nat} {toks : List Tok} {m : Nat} (h : LexR σ p s n toks m) (hk : KeepM b σ.toks.length σ σ') (hne : p ≠ b) : LexR σ' p s n toks m := h.keepM hk hne

set_option maxRecDepth 100000 in
theorem text_does {σ : St} {p : Nat} {s : List UInt8} {n : Nat} {toks : List Tok} {m : Nat} (h : LexR σ p s n toks m) (hn : n < s.length) (hs : s.length ≤ 1000000) (hl : toks.length ≤ 4096) :
    ∃ q σ', Does Try.prog prims 27 [.optr p 0] σ q σ' ∧ OneR p m s n toks (txtR (s.drop (n + 1)) [] 1) σ q σ' := by
  apply k27_is.does (by simp)
  obtain ⟨v, hL⟩ := h.at
  have hpl := hL.lt
  obtain ⟨s1, hs1⟩ : ∃ s1 : St, s1 = ⟨σ.objs ++ [Ob.tcells 54 [.nilp, .nils]], σ.toks⟩ := ⟨_, rfl⟩
  have k1 : Keep σ s1 := by rw [hs1]; exact (Keep.refl σ).push _
  have t1 : s1.toks = σ.toks := by rw [hs1]
  have b1 : IsB s1 σ.objs.length σ.toks.length [] := ⟨.nilp, .nils, by rw [hs1]; exact push_new _ _, rfl, .inl ⟨rfl, rfl⟩, by rw [t1]; exact Nat.le_refl _⟩
  have L1 : LexR s1 p s n toks m := by
    obtain ⟨v, h1, h2, h3⟩ := h
    exact ⟨v, k1.1 _ _ h1, h2.keep k1.2.2, by rw [t1]; exact h3⟩
  have hL1 : IsL s1 p s n v := k1.1 _ _ hL
  have hw1 := idx_wrap (i := n) (by omega)
  simp only [k27_a, WK, vop, evAll, evOpt, evParts, vbuiltin, vun, vextract, Nat.reduceLT, Nat.reduceEqDiff, ↓reduceIte, reduceCtorEq, Nat.reduceAdd, Int.reduceLT, Int.reduceNeg, valloc_std, noSB, valloc_sb yesSB, ZB, vboxT, vcells, ← hs1, FL1, hL1.at, hw1]
  refine Ev.loopF (fun i e σ' => ∃ acc, e 3 = .int .i64 (i : Nat) ∧ n + 1 ≤ i ∧ i ≤ s.length ∧ IsB σ' σ.objs.length σ.toks.length acc ∧ acc.length + n + 1 ≤ i ∧ KeepM σ.objs.length σ.toks.length s1 σ' ∧ txtR (s.drop i) acc (i - n) = txtR (s.drop (n + 1)) [] 1) (fun i => s.length - i) (n + 1) ⟨[], by simp [upd_some], Nat.le_refl _, by omega, b1, by simp, KeepM.refl _ _ _, by rw [show n + 1 - n = 1 by omega]⟩ ?_
  rintro i e σ' ⟨acc, h3, hni, hi, hb, hal, hk, htx⟩ hf
  have h0 : e 0 = .optr p 0 := (hf 0 (by decide)).trans (by simp [upd_some])
  have h2 : e 2 = .optr σ.objs.length 0 := (hf 2 (by decide)).trans (by simp [upd_some])
  clear hf
  have hL' : IsL σ' p s n v := hk.1 _ _ (by omega) hL1
  have LR' : LexR σ' p s n toks m := L1.keepM (by rw [t1]; exact hk) (by omega)
  have km : KeepM p m σ σ' := (k1.m p m).via ⟨hk.1, hk.2.1, fun k hkm hl => hk.2.2 k (by have := tokLive_lt hl; rw [t1] at this; exact this) hl⟩ (Nat.le_refl _)
  have bad : ∀ (off : Nat) (er : Int), txtR (s.drop (n + 1)) [] 1 = .bad off er → OneR p m s n toks (txtR (s.drop (n + 1)) [] 1) σ (.pan (faultV (n + off) er)) σ' := fun off er hr => ⟨km, by rw [hr]⟩
  by_cases hlt : i < s.length
  · have hlt' : (i : Int) < s.length := by omega
    obtain ⟨c, r, hcr⟩ : ∃ c r, s.drop i = c :: r := ⟨_, _, List.drop_eq_getElem_cons hlt⟩
    have hc : s[i]? = some c := by have := congrArg (·[0]?) hcr; simpa using this
    have hr1 : s.drop (i + 1) = r := by rw [← List.drop_drop, hcr]; rfl
    have hwi := idx_wrap (i := i) (by omega)
    rw [hcr] at htx
    by_cases h34 : c = 34
    · subst h34
      have e34 : (((34 : UInt8).toNat : Int) = 34) = True := eq_true rfl
      rw [txtR_34] at htx
      have dl := blen_does hb
      simp only [k27_a, WK, vop, evAll, evOpt, evParts, vbuiltin, vun, vextract, Nat.reduceLT, Nat.reduceEqDiff, ↓reduceIte, reduceCtorEq, Nat.reduceAdd, Int.reduceLT, Int.reduceNeg, valloc_std, noSB, h0, h2, h3, FL0, hL'.str, vlen_str T9, hlt', str_at hc, e34]
      refine KD.ret dl ?_
      by_cases hbig : 256 < acc.length
      · have hbig' : (256 : Int) < acc.length := by omega
        rw [if_pos hbig] at htx
        simp only [k27_a, WK, vop, evAll, evOpt, evParts, vbuiltin, vun, vextract, Nat.reduceLT, Nat.reduceEqDiff, ↓reduceIte, reduceCtorEq, Nat.reduceAdd, Int.reduceLT, Int.reduceNeg, valloc_std, noSB, h0, h2, h3, FL1, hL'.at, hbig']
        refine KD.pan (fail_does _ n 3 σ') ?_
        simp only [WK, vop, evAll, evOpt, evParts, vbuiltin, vun, vextract, Nat.reduceLT, Nat.reduceEqDiff, ↓reduceIte, reduceCtorEq, Nat.reduceAdd, Int.reduceLT, Int.reduceNeg, valloc_std, noSB]
        exact bad 0 3 htx.symm
      · have hbig' : ¬ (256 : Int) < acc.length := by omega
        rw [if_neg hbig] at htx
        obtain ⟨s5, d5, ob5, g5, k5⟩ := btext_does hb
        have kk5 : KeepM σ.objs.length σ.toks.length σ' s5 := ⟨fun q o _ ho => by rw [ob5]; exact ho, g5, k5⟩
        have LR5 : LexR s5 p s n toks m := L1.keepM (by rw [t1]; exact hk.trans kk5) (by omega)
        obtain ⟨q, s6, d6, k6, r6⟩ := add_does LR5 hl 3 acc 0 0 (i + 1)
        have hone : OneR p m s n toks (txtR (s.drop (n + 1)) [] 1) σ q s6 := by
          rw [← htx]
          refine ⟨(km.trans ⟨fun q o _ ho => by rw [ob5]; exact ho, g5, fun k hkm hl => k5 k (by obtain ⟨_, _, _, h9⟩ := h; omega) hl⟩).trans k6, ?_⟩
          show if _ then _ else _
          rw [show n + (i - n + 1) = i + 1 by omega]
          exact r6
        simp only [k27_a, WK, vop, evAll, evOpt, evParts, vbuiltin, vun, vextract, Nat.reduceLT, Nat.reduceEqDiff, ↓reduceIte, reduceCtorEq, Nat.reduceAdd, Int.reduceLT, Int.reduceNeg, valloc_std, noSB, h0, h2, h3, hbig']
        refine KD.ret d5 ?_
        simp only [k27_a, WK, vop, evAll, evOpt, evParts, vbuiltin, vun, vextract, Nat.reduceLT, Nat.reduceEqDiff, ↓reduceIte, reduceCtorEq, Nat.reduceAdd, Int.reduceLT, Int.reduceNeg, valloc_std, noSB, h0, h2, h3, BK2, hwi]
        cases q with
        | ret u =>
          have hu : u = .tuple [] := by
            obtain ⟨_, h2⟩ := hone
            rw [← htx] at h2
            simp only at h2
            split at h2
            · cases h2
            · injection h2.1
          subst hu
          refine KD.ret d6 ?_
          simp only [WK, vop, evAll, evOpt, evParts, vbuiltin, vun, vextract, Nat.reduceLT, Nat.reduceEqDiff, ↓reduceIte, reduceCtorEq, Nat.reduceAdd, Int.reduceLT, Int.reduceNeg, valloc_std, noSB]
          exact hone
        | pan u =>
          refine KD.pan d6 ?_
          simp only [WK, vop, evAll, evOpt, evParts, vbuiltin, vun, vextract, Nat.reduceLT, Nat.reduceEqDiff, ↓reduceIte, reduceCtorEq, Nat.reduceAdd, Int.reduceLT, Int.reduceNeg, valloc_std, noSB]
          exact hone
    · have e34 : ((c.toNat : Int) = 34) = False := eq_false (by rw [show (34 : Int) = ((34 : Nat) : Int) from rfl, u8n (by decide)]; exact h34)
      by_cases hctl : c.toNat < 32 ∨ 126 < c.toNat
      · have htx2 : txtR (s.drop (n + 1)) [] 1 = .bad (i - n) 30 := by rw [← htx, txtR_cons, if_neg h34, if_pos hctl]
        have hbad := bad (i - n) 30 htx2
        rw [show n + (i - n) = i by omega] at hbad
        by_cases hc32 : (c.toNat : Int) < 32
        · simp only [k27_a, WK, vop, evAll, evOpt, evParts, vbuiltin, vun, vextract, Nat.reduceLT, Nat.reduceEqDiff, ↓reduceIte, reduceCtorEq, Nat.reduceAdd, Int.reduceLT, Int.reduceNeg, valloc_std, noSB, h0, h2, h3, FL0, hL'.str, vlen_str T9, hlt', str_at hc, e34, hc32]
          refine KD.pan (fail_does _ i 30 σ') ?_
          simp only [WK, vop, evAll, evOpt, evParts, vbuiltin, vun, vextract, Nat.reduceLT, Nat.reduceEqDiff, ↓reduceIte, reduceCtorEq, Nat.reduceAdd, Int.reduceLT, Int.reduceNeg, valloc_std, noSB]
          exact hbad
        · have hc126 : (126 : Int) < c.toNat := by omega
          simp only [k27_a, WK, vop, evAll, evOpt, evParts, vbuiltin, vun, vextract, Nat.reduceLT, Nat.reduceEqDiff, ↓reduceIte, reduceCtorEq, Nat.reduceAdd, Int.reduceLT, Int.reduceNeg, valloc_std, noSB, h0, h2, h3, FL0, hL'.str, vlen_str T9, hlt', str_at hc, e34, hc32, hc126]
          refine KD.pan (fail_does _ i 30 σ') ?_
          simp only [WK, vop, evAll, evOpt, evParts, vbuiltin, vun, vextract, Nat.reduceLT, Nat.reduceEqDiff, ↓reduceIte, reduceCtorEq, Nat.reduceAdd, Int.reduceLT, Int.reduceNeg, valloc_std, noSB]
          exact hbad
      · have hc32 : ¬ (c.toNat : Int) < 32 := by omega
        have hc126 : ¬ (126 : Int) < c.toNat := by omega
        by_cases h92 : c = 92
        · subst h92
          have e92 : (((92 : UInt8).toNat : Int) = 92) = True := eq_true rfl
          have g32 : (((92 : UInt8).toNat : Int) < 32) = False := eq_false (by decide)
          have g126 : ((126 : Int) < ((92 : UInt8).toNat : Int)) = False := eq_false (by decide)
          have w2 : IntKind.i64.wrap (((i + 1 : Nat) : Int) - 1) = (i : Int) := by rw [wrap_i64 (by omega) (by omega)]; omega
          rw [txtR_cons, if_neg (by decide), if_neg (by decide), if_pos rfl] at htx
          by_cases hlt2 : i + 1 < s.length
          · have hge : ¬ (s.length : Int) ≤ ((i + 1 : Nat) : Int) := by omega
            obtain ⟨d, r2, hdr⟩ : ∃ d r2, s.drop (i + 1) = d :: r2 := ⟨_, _, List.drop_eq_getElem_cons hlt2⟩
            have hd : s[i + 1]? = some d := by have := congrArg (·[0]?) hdr; simpa using this
            have hr2 : s.drop (i + 2) = r2 := by rw [show i + 2 = (i + 1) + 1 by omega, ← List.drop_drop, hdr]; rfl
            rw [← hr1, hdr] at htx
            simp only at htx
            have q34 : ((d.toNat : Int) = 34) = (d = 34) := by rw [show (34 : Int) = ((34 : Nat) : Int) from rfl, u8n (by decide)]; rfl
            have q92 : ((d.toNat : Int) = 92) = (d = 92) := by rw [show (92 : Int) = ((92 : Nat) : Int) from rfl, u8n (by decide)]; rfl
            have good : d = 34 ∨ d = 92 → ∃ s5, Does Try.prog prims 33 [.optr σ.objs.length 0, .int .u8 (d.toNat : Int)] σ' (.ret .nili) s5 ∧ ∃ j : Nat, (∃ acc : List UInt8, ((i + 2 : Nat) : Int) = (j : Int) ∧ n + 1 ≤ j ∧ j ≤ s.length ∧ IsB s5 σ.objs.length σ.toks.length acc ∧ acc.length + n + 1 ≤ j ∧ KeepM σ.objs.length σ.toks.length s1 s5 ∧ txtR (s.drop j) acc (j - n) = txtR (s.drop (n + 1)) [] 1) ∧ s.length - j < s.length - i := by
              intro hdd
              obtain ⟨s5, d5, b5, k5⟩ := bwrite_does hb (by omega) d
              refine ⟨s5, d5, i + 2, ⟨acc ++ [d], rfl, by omega, by omega, b5, by simp; omega, hk.trans k5, ?_⟩, by omega⟩
              rw [← htx, if_neg (by rcases hdd with h | h <;> simp [h]), hr2, show i + 2 - n = i - n + 2 by omega]
            have w3 : IntKind.i64.wrap (((i + 1 : Nat) : Int) + 1) = ((i + 2 : Nat) : Int) := idx_wrap (by omega)
            by_cases hd34 : d = 34
            · obtain ⟨s5, d5, j, g1, g2⟩ := good (.inl hd34)
              have f34 : ((d.toNat : Int) = 34) = True := by rw [q34]; exact eq_true hd34
              simp only [k27_a, WK, vop, evAll, evOpt, evParts, vbuiltin, vun, vextract, Nat.reduceLT, Nat.reduceEqDiff, ↓reduceIte, reduceCtorEq, Nat.reduceAdd, Int.reduceLT, Int.reduceNeg, valloc_std, noSB, h0, h2, h3, FL0, hL'.str, vlen_str T9, hlt', str_at hc, e34, g32, g126, e92, hwi, hge, str_at hd, f34]
              refine KD.ret d5 ?_
              simp only [k27_a, WK, vop, evAll, evOpt, evParts, vbuiltin, vun, vextract, Nat.reduceLT, Nat.reduceEqDiff, ↓reduceIte, reduceCtorEq, Nat.reduceAdd, Int.reduceLT, Int.reduceNeg, valloc_std, noSB, h0, h2, h3, w3]
              obtain ⟨a2, f1, f2, f3, f4, f5, f6, f7⟩ := g1
              exact ⟨j, ⟨a2, by simp [upd_some, f1], f2, f3, f4, f5, f6, f7⟩, g2⟩
            · by_cases hd92 : d = 92
              · obtain ⟨s5, d5, j, g1, g2⟩ := good (.inr hd92)
                have f34 : ((d.toNat : Int) = 34) = False := by rw [q34]; exact eq_false hd34
                have f92 : ((d.toNat : Int) = 92) = True := by rw [q92]; exact eq_true hd92
                simp only [k27_a, WK, vop, evAll, evOpt, evParts, vbuiltin, vun, vextract, Nat.reduceLT, Nat.reduceEqDiff, ↓reduceIte, reduceCtorEq, Nat.reduceAdd, Int.reduceLT, Int.reduceNeg, valloc_std, noSB, h0, h2, h3, FL0, hL'.str, vlen_str T9, hlt', str_at hc, e34, g32, g126, e92, hwi, hge, str_at hd, f34, f92]
                refine KD.ret d5 ?_
                simp only [k27_a, WK, vop, evAll, evOpt, evParts, vbuiltin, vun, vextract, Nat.reduceLT, Nat.reduceEqDiff, ↓reduceIte, reduceCtorEq, Nat.reduceAdd, Int.reduceLT, Int.reduceNeg, valloc_std, noSB, h0, h2, h3, w3]
                obtain ⟨a2, f1, f2, f3, f4, f5, f6, f7⟩ := g1
                exact ⟨j, ⟨a2, by simp [upd_some, f1], f2, f3, f4, f5, f6, f7⟩, g2⟩
              · rw [if_pos ⟨hd34, hd92⟩] at htx
                have hbad := bad (i - n) 30 htx.symm
                rw [show n + (i - n) = i by omega] at hbad
                have f34 : ((d.toNat : Int) = 34) = False := by rw [q34]; exact eq_false hd34
                have f92 : ((d.toNat : Int) = 92) = False := by rw [q92]; exact eq_false hd92
                simp only [k27_a, WK, vop, evAll, evOpt, evParts, vbuiltin, vun, vextract, Nat.reduceLT, Nat.reduceEqDiff, ↓reduceIte, reduceCtorEq, Nat.reduceAdd, Int.reduceLT, Int.reduceNeg, valloc_std, noSB, h0, h2, h3, FL0, hL'.str, vlen_str T9, hlt', str_at hc, e34, g32, g126, e92, hwi, hge, str_at hd, f34, f92, w2]
                refine KD.pan (fail_does _ i 30 σ') ?_
                simp only [WK, vop, evAll, evOpt, evParts, vbuiltin, vun, vextract, Nat.reduceLT, Nat.reduceEqDiff, ↓reduceIte, reduceCtorEq, Nat.reduceAdd, Int.reduceLT, Int.reduceNeg, valloc_std, noSB]
                exact hbad
          · have hge : (s.length : Int) ≤ ((i + 1 : Nat) : Int) := by omega
            have hrn : r = [] := by rw [← hr1]; exact List.drop_of_length_le (by omega)
            rw [hrn] at htx
            simp only at htx
            have hbad := bad (i - n) 30 htx.symm
            rw [show n + (i - n) = i by omega] at hbad
            simp only [k27_a, WK, vop, evAll, evOpt, evParts, vbuiltin, vun, vextract, Nat.reduceLT, Nat.reduceEqDiff, ↓reduceIte, reduceCtorEq, Nat.reduceAdd, Int.reduceLT, Int.reduceNeg, valloc_std, noSB, h0, h2, h3, FL0, hL'.str, vlen_str T9, hlt', str_at hc, e34, g32, g126, e92, hwi, hge, w2]
            refine KD.pan (fail_does _ i 30 σ') ?_
            simp only [WK, vop, evAll, evOpt, evParts, vbuiltin, vun, vextract, Nat.reduceLT, Nat.reduceEqDiff, ↓reduceIte, reduceCtorEq, Nat.reduceAdd, Int.reduceLT, Int.reduceNeg, valloc_std, noSB]
            exact hbad
        · have e92 : ((c.toNat : Int) = 92) = False := eq_false (by rw [show (92 : Int) = ((92 : Nat) : Int) from rfl, u8n (by decide)]; exact h92)
          obtain ⟨s5, d5, b5, k5⟩ := bwrite_does hb (by omega) c
          simp only [k27_a, WK, vop, evAll, evOpt, evParts, vbuiltin, vun, vextract, Nat.reduceLT, Nat.reduceEqDiff, ↓reduceIte, reduceCtorEq, Nat.reduceAdd, Int.reduceLT, Int.reduceNeg, valloc_std, noSB, h0, h2, h3, FL0, hL'.str, vlen_str T9, hlt', str_at hc, e34, hc32, hc126, e92]
          refine KD.ret d5 ?_
          simp only [k27_a, WK, vop, evAll, evOpt, evParts, vbuiltin, vun, vextract, Nat.reduceLT, Nat.reduceEqDiff, ↓reduceIte, reduceCtorEq, Nat.reduceAdd, Int.reduceLT, Int.reduceNeg, valloc_std, noSB, h0, h2, h3, hwi]
          refine ⟨i + 1, ⟨acc ++ [c], by simp [upd_some], by omega, hlt, b5, by simp; omega, hk.trans k5, ?_⟩, by omega⟩
          rw [← htx, txtR_cons, if_neg h34, if_neg hctl, if_neg h92, hr1, show i + 1 - n = i - n + 1 by omega]
  · have hlt' : ¬ (i : Int) < s.length := by omega
    have htx2 : txtR (s.drop (n + 1)) [] 1 = .bad 0 30 := by rw [← htx, List.drop_of_length_le (by omega), txtR_nil]
    simp only [k27_a, WK, vop, evAll, evOpt, evParts, vbuiltin, vun, vextract, Nat.reduceLT, Nat.reduceEqDiff, ↓reduceIte, reduceCtorEq, Nat.reduceAdd, Int.reduceLT, Int.reduceNeg, valloc_std, noSB, h0, h2, h3, FL0, FL1, hL'.str, hL'.at, vlen_str T9, hlt']
    refine KD.pan (fail_does _ n 30 σ') ?_
    simp only [WK, vop, evAll, evOpt, evParts, vbuiltin, vun, vextract, Nat.reduceLT, Nat.reduceEqDiff, ↓reduceIte, reduceCtorEq, Nat.reduceAdd, Int.reduceLT, Int.reduceNeg, valloc_std, noSB]
    exact bad 0 30 htx2
end Go.Proofs.Ytodcajpeilgfgaa.Q
