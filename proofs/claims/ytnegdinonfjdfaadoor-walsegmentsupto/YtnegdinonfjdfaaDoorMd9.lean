/- A part of the proof: Vh, Vi, Uc, Vj, Vk, Lw. -/
import Derived.Test.YtnegdinonfjdfaaDoorMd8
import Derived.Test.YtnegdinonfjdfaaDoorMd6
import Derived.Test.YtnegdinonfjdfaaDoorCards
import Derived.Test.YtnegdinonfjdfaaDoorTie
import Derived.WalkKit
import Derived.ProofKit
import Derived.OpenShut
import Derived.Deep.DeepHandedRow
import Derived.Deep.DeepWitnessRowRef
import Derived.Lib.LaidTab
import Derived.LaidSub
import Derived.Stop.LaidErr
/- wal.Append. -/
set_option linter.unusedVariables false
set_option linter.unusedSimpArgs false
set_option maxRecDepth 100000
namespace Go.Proofs.YtnegdinonfjdfaaDoor.Q
open Go Go.RowKit Go.Proofs
/-! ### Plainly -/
structure Jn where
  per : Int
  wf : Nat
  next : Nat
  sick : Nat
def Jn.cells (j : Jn) (r : Nat) : List V := wcells r j.per j.wf j.next j.sick
def Jn.to (j : Jn) : Nat := if j.per ≤ (j.next : Int) - j.wf then j.next else j.wf
def appW (b : List UInt8) (j : Jn) (d : Dk) : (Nat × Nat) × Jn × Dk :=
  if 65536 < b.length then ((0, 3), j, d) else
  if j.sick ≠ 0 then ((0, j.sick), j, d) else
  if nameP 106 1 (j.to : Nat) = [] then ((0, 22), j, d) else
  let a := appendD (nameP 106 1 (j.to : Nat)) (frameB b) d
  if a.1 = 3 ∨ a.1 = 22 then ((0, 22), j, a.2) else
  let y : Nat × Dk := if a.1 = 0 then syncD (nameP 106 1 (j.to : Nat)) a.2 else a
  if y.1 ≠ 0 then ((0, y.1), { j with sick := y.1 }, y.2) else ((j.next, 0), { j with wf := j.to, next := j.next + 1 }, y.2)
theorem TWp : Tryd.prog.underlying 50 = some (.pointer 86) := by kernel_rfl
theorem GDp : isAggT Tryd.prog 32 = some false := by kernel_rfl
theorem wapp_sees {σ : St} {r rm p : Nat} {d : Dk} {fs : List Ent} {j : Jn} {x : V} {b : List UInt8} (h : DiskAt σ r d rm fs) (hok : d.Ok) (hw : d.writes ≤ 1000000000) (hp : σ.objs[p]? = some (.cells (j.cells r))) (hpf : p ∉ foot r rm fs) (hb : BtsV x b) (hl : b.length ≤ 100000000) (hj : j.wf ≤ j.next) (hn : j.next ≤ 4000000000) :
    ∃ q σ', Does Tryd.prog prims 38 [.optr p 0, x] σ q σ' ∧ (∃ fs', DiskAt σ' r (appW b j d).2.2 rm fs' ∧ KS (p :: foot r rm fs) σ σ' ∧ (∀ y ∈ foot r rm fs', y ∈ foot r rm fs ∨ σ.objs.length ≤ y) ∧ p ∉ foot r rm fs' ∧ σ'.objs[p]? = some (.cells ((appW b j d).2.1.cells r)) ∧ q = .ret (.tuple [.int .i64 ((appW b j d).1.1 : Nat), .int .i64 ((appW b j d).1.2 : Nat)])) := by
  suffices key : ∀ P : VRes → St → Prop, (∀ q σ', (∃ fs', DiskAt σ' r (appW b j d).2.2 rm fs' ∧ KS (p :: foot r rm fs) σ σ' ∧ (∀ y ∈ foot r rm fs', y ∈ foot r rm fs ∨ σ.objs.length ≤ y) ∧ p ∉ foot r rm fs' ∧ σ'.objs[p]? = some (.cells ((appW b j d).2.1.cells r)) ∧ q = .ret (.tuple [.int .i64 ((appW b j d).1.1 : Nat), .int .i64 ((appW b j d).1.2 : Nat)])) → P q σ') → ∃ q σ', Does Tryd.prog prims 38 [.optr p 0, x] σ q σ' ∧ P q σ' from key _ fun _ _ h => h
  intro P hP
  apply k38_is.does (by simp)
  obtain ⟨q1, s1, c1, v1, rfl, b1, k1⟩ := frame_sees (σ := σ) hb hl
  have D1 := h.pushes (k1.ks [])
  have K1 : KS [] σ s1 := k1.ks []
  have P1 := K1.ko _ _ (by simp) hp
  have lS : ∀ s : St, s.objs[p]? = some (.cells (j.cells r)) → vload Tryd.prog s.objs 24 (.optr p 4) = some (.int .i64 (j.sick : Nat)) := fun s h => by rw [vload_obj h GEr]; rfl
  have lN : ∀ s : St, s.objs[p]? = some (.cells (j.cells r)) → vload Tryd.prog s.objs 3 (.optr p 3) = some (.int .i64 (j.next : Nat)) := fun s h => by rw [vload_obj h G3]; rfl
  have lF : ∀ s : St, s.objs[p]? = some (.cells (j.cells r)) → vload Tryd.prog s.objs 3 (.optr p 2) = some (.int .i64 (j.wf : Nat)) := fun s h => by rw [vload_obj h G3]; rfl
  have lP : ∀ s : St, s.objs[p]? = some (.cells (j.cells r)) → vload Tryd.prog s.objs 3 (.optr p 1) = some (.int .i64 j.per) := fun s h => by rw [vload_obj h G3]; rfl
  have lD : ∀ s : St, s.objs[p]? = some (.cells (j.cells r)) → vload Tryd.prog s.objs 32 (.optr p 0) = some (.optr r 0) := fun s h => by rw [vload_obj h GDp]; rfl
  have I1 : ∀ y ∈ foot r rm fs, y ∈ foot r rm fs ∨ σ.objs.length ≤ y := fun y hy => .inl hy
  simp only [k38_a, WK, vop, evAll, evOpt, evParts, vbuiltin, vun, vextract, Nat.reduceLT, Nat.reduceEqDiff, ↓reduceIte, reduceCtorEq, Nat.reduceAdd, Int.reduceLT, Int.reduceNeg, valloc_std, noSB, vhot, List.getD_cons_zero, List.getD_cons_succ, ofNilP, eql_optr TWp]
  refine KD.ret c1 ?_
  by_cases h3 : 65536 < b.length
  · have eF : (frameS b).2 = 3 := by unfold frameS; rw [if_pos h3]
    have eA : appW b j d = ((0, 3), j, d) := by unfold appW; rw [if_pos h3]
    have n3 : ¬ ((3 : Nat) : Int) = 0 := by omega
    simp only [k38_a, WK, vop, evAll, evOpt, evParts, vbuiltin, vun, vextract, Nat.reduceLT, Nat.reduceEqDiff, ↓reduceIte, reduceCtorEq, Nat.reduceAdd, Int.reduceLT, Int.reduceNeg, valloc_std, noSB, vhot, eF, n3, decide_false, Bool.not_false]
    exact hP _ _ (by rw [eA]; exact ⟨fs, D1, K1.nils, I1, hpf, P1, rfl⟩)
  have eF : frameS b = (frameB b, 0) := by unfold frameS; rw [if_neg h3]
  rw [eF] at b1
  have b1 : BtsV v1 (frameB b) := b1
  simp only [k38_a, WK, vop, evAll, evOpt, evParts, vbuiltin, vun, vextract, Nat.reduceLT, Nat.reduceEqDiff, ↓reduceIte, reduceCtorEq, Nat.reduceAdd, Int.reduceLT, Int.reduceNeg, valloc_std, noSB, vhot, eF, Int.natCast_zero, eq_self, decide_true, Bool.not_true, wFA p 4 (by omega), lS s1 P1]
  by_cases hs : j.sick = 0
  rotate_left
  · have hs' : ¬ ((j.sick : Nat) : Int) = 0 := by omega
    have eA : appW b j d = ((0, j.sick), j, d) := by unfold appW; rw [if_neg h3, if_pos hs]
    simp only [k38_a, WK, vop, evAll, evOpt, evParts, vbuiltin, vun, vextract, Nat.reduceLT, Nat.reduceEqDiff, ↓reduceIte, reduceCtorEq, Nat.reduceAdd, Int.reduceLT, Int.reduceNeg, valloc_std, noSB, vhot, hs', decide_false, Bool.not_false, wFA p 4 (by omega), lS s1 P1]
    exact hP _ _ (by rw [eA]; exact ⟨fs, D1, K1.nils, I1, hpf, P1, rfl⟩)
  have hs' : ((j.sick : Nat) : Int) = 0 := by omega
  have hws : IntKind.i64.wrap (((j.next : Nat) : Int) - ((j.wf : Nat) : Int)) = ((j.next : Nat) : Int) - ((j.wf : Nat) : Int) := wrap_i64 (by omega) (by omega)
  obtain ⟨K, hK⟩ : ∃ K, K = seqC Tryd.prog prims 97 ((.seq (.region k38_r11) (.seq (.seq (.region k38_r12) (.cond (.tmp 51) (.seq (.region k38_r13) .ret) .skip)) (.seq (.region k38_r14) (.seq (.seq (.region k38_r15) (.cond (.tmp 64) (.seq (.region k38_r16) .ret) .skip)) (.seq (.seq (.region k38_r17) (.cond (.tmp 66) (.region k38_r18) .skip)) (.seq (.seq (.region k38_r19) (.cond (.tmp 74) (.seq (.region k38_r20) (.seq (.region k38_r21) .ret)) .skip)) (.seq (.region k38_r22) (.seq (.region k38_r23) .ret)))))))) : CC) (fnK Tryd.prog 97 [ResultVar.tmp 4, ResultVar.tmp 5] P) := ⟨_, rfl⟩
  obtain ⟨J, hJ⟩ : ∃ J, J = seqC Tryd.prog prims 97 ((.seq (.seq (.region k38_r19) (.cond (.tmp 74) (.seq (.region k38_r20) (.seq (.region k38_r21) .ret)) .skip)) (.seq (.region k38_r22) (.seq (.region k38_r23) .ret))) : CC) (fnK Tryd.prog 97 [ResultVar.tmp 4, ResultVar.tmp 5] P) := ⟨_, rfl⟩
  obtain ⟨nm, hnm⟩ : ∃ nm, nm = nameP 106 1 (j.to : Nat) := ⟨_, rfl⟩
  -- behind the writes
  have back : ∀ (e : Nat → V) (s : St) (y : Nat × Dk) (fy : List Ent), e 0 = .optr p 0 → e 8 = .int .i64 (j.to : Nat) → e 7 = .int .i64 (y.1 : Nat) → DiskAt s r y.2 rm fy → KS (p :: foot r rm fs) σ s → (∀ z ∈ foot r rm fy, z ∈ foot r rm fs ∨ σ.objs.length ≤ z) → p ∉ foot r rm fy → s.objs[p]? = some (.cells (j.cells r)) → appW b j d = (if y.1 ≠ 0 then ((0, y.1), { j with sick := y.1 }, y.2) else ((j.next, 0), { j with wf := j.to, next := j.next + 1 }, y.2)) → J .normal e s := by
    intro e s y fy g0 g8 g7 Dy Ky Iy hpy Py eA
    rw [hJ]
    by_cases hy : y.1 = 0
    · have hy' : ((y.1 : Nat) : Int) = 0 := by omega
      rw [if_neg (by omega)] at eA
      obtain ⟨t1, ht1⟩ : ∃ t1 : St, t1 = ⟨s.objs.set p (.cells (wcells r j.per j.to j.next j.sick)), s.toks⟩ := ⟨_, rfl⟩
      have y1 : vstore Tryd.prog s 3 (.optr p 2) (.int .i64 (j.to : Nat)) = some t1 := by rw [vstore_obj Py S3 rfl (by simp [Jn.cells, wcells]), ht1]; rfl
      have z1 : t1.objs[p]? = some (.cells (wcells r j.per j.to j.next j.sick)) := by rw [ht1]; exact obj_set Py
      have x1 : KS [p] s t1 := by rw [ht1]; exact KS.set (.inl (by simp)) _
      obtain ⟨t2, ht2⟩ : ∃ t2 : St, t2 = ⟨t1.objs.set p (.cells (wcells r j.per j.to (j.next + 1) j.sick)), t1.toks⟩ := ⟨_, rfl⟩
      have hwn : IntKind.i64.wrap (((j.next : Nat) : Int) + 1) = ((j.next + 1 : Nat) : Int) := by rw [wrap_i64 (by omega) (by omega)]; omega
      have hwm : IntKind.i64.wrap (((j.next + 1 : Nat) : Int) - 1) = ((j.next : Nat) : Int) := by rw [wrap_i64 (by omega) (by omega)]; omega
      have y2 : vstore Tryd.prog t1 3 (.optr p 3) (.int .i64 ((j.next + 1 : Nat) : Int)) = some t2 := by rw [vstore_obj z1 S3 rfl (by simp [wcells]), ht2]; rfl
      have z2 : t2.objs[p]? = some (.cells (wcells r j.per j.to (j.next + 1) j.sick)) := by rw [ht2]; exact obj_set z1
      have x2 : KS [p] t1 t2 := by rw [ht2]; exact KS.set (.inl (by simp)) _
      have l2 : vload Tryd.prog t2.objs 3 (.optr p 3) = some (.int .i64 ((j.next + 1 : Nat) : Int)) := by rw [vload_obj z2 G3]; rfl
      have KK := x1.trans' x2
      simp only [k38_a, WK, vop, evAll, evOpt, evParts, vbuiltin, vun, vextract, Nat.reduceLT, Nat.reduceEqDiff, ↓reduceIte, reduceCtorEq, Nat.reduceAdd, Int.reduceLT, Int.reduceNeg, valloc_std, noSB, vhot, g0, g7, g8, hy', eq_self, decide_true, Bool.not_true, wFA p 3 (by omega), wFA p 2 (by omega), lN s Py, hwn, y1, y2, l2, hwm]
      refine hP _ _ ?_
      rw [eA]
      exact ⟨fy, Dy.keep KK (fun x hx hm => by simp at hm; subst hm; exact hpy hx), Ky.trans KK (fun x hx => by simp at hx; subst hx; exact .inl (by simp)), Iy, hpy, z2, rfl⟩
    · have hy' : ¬ ((y.1 : Nat) : Int) = 0 := by omega
      rw [if_pos hy] at eA
      obtain ⟨t1, ht1⟩ : ∃ t1 : St, t1 = ⟨s.objs.set p (.cells (wcells r j.per j.wf j.next y.1)), s.toks⟩ := ⟨_, rfl⟩
      have y1 : vstore Tryd.prog s 24 (.optr p 4) (.int .i64 (y.1 : Nat)) = some t1 := by rw [vstore_obj Py SEr rfl (by simp [Jn.cells, wcells]), ht1]; rfl
      have z1 : t1.objs[p]? = some (.cells (wcells r j.per j.wf j.next y.1)) := by rw [ht1]; exact obj_set Py
      have x1 : KS [p] s t1 := by rw [ht1]; exact KS.set (.inl (by simp)) _
      simp only [k38_a, WK, vop, evAll, evOpt, evParts, vbuiltin, vun, vextract, Nat.reduceLT, Nat.reduceEqDiff, ↓reduceIte, reduceCtorEq, Nat.reduceAdd, Int.reduceLT, Int.reduceNeg, valloc_std, noSB, vhot, g0, g7, hy', decide_false, Bool.not_false, wFA p 4 (by omega), y1]
      refine hP _ _ ?_
      rw [eA]
      exact ⟨fy, Dy.keep x1 (fun x hx hm => by simp at hm; subst hm; exact hpy hx), Ky.trans x1 (fun x hx => by simp at hx; subst hx; exact .inl (by simp)), Iy, hpy, z1, rfl⟩
  have tail : ∀ (e : Nat → V), e 0 = .optr p 0 → e 8 = .int .i64 (j.to : Nat) → e 6 = v1 → K .normal e s1 := by
    intro e g0 g8 g6
    rw [hK]
    have oe : ofVal (Value.string { data := #[] }) = some (.str []) := rfl
    simp only [k38_a, WK, vop, evAll, evOpt, evParts, vbuiltin, vun, vextract, Nat.reduceLT, Nat.reduceEqDiff, ↓reduceIte, reduceCtorEq, Nat.reduceAdd, Int.reduceLT, Int.reduceNeg, valloc_std, noSB, vhot, g8]
    refine KD.ret (wname_does (j.to : Nat)) ?_
    rw [← hnm]
    by_cases hnn : nm = []
    · have eA : appW b j d = ((0, 22), j, d) := by unfold appW; rw [if_neg h3, if_neg (by omega), ← hnm, if_pos hnn]
      simp only [k38_a, WK, vop, evAll, evOpt, evParts, vbuiltin, vun, vextract, Nat.reduceLT, Nat.reduceEqDiff, ↓reduceIte, reduceCtorEq, Nat.reduceAdd, Int.reduceLT, Int.reduceNeg, valloc_std, noSB, vhot, oe, sbE, hnn, eq_self, decide_true]
      exact hP _ _ (by rw [eA]; exact ⟨fs, D1, K1.nils, I1, hpf, P1, rfl⟩)
    obtain ⟨q2, s2, c2, rfl, fs2, D2, K2, I2⟩ := append_sees (n := nm) D1 hok (by omega) (.inl b1 : RB s1 v1 _) (by rw [frameB_len]; omega)
    have P2 := K2.ko _ _ hpf P1
    have hla := (List.getElem?_eq_some_iff.1 P1).1
    have hpf2 : p ∉ foot r rm fs2 := fun hx => by
      rcases I2 _ hx with h | h
      · exact hpf h
      · omega
    have I2' : ∀ z ∈ foot r rm fs2, z ∈ foot r rm fs ∨ σ.objs.length ≤ z := fun z hz => by
      rcases I2 z hz with h | h
      · exact .inl h
      · have := K1.le; exact .inr (by omega)
    have K2' : KS (p :: foot r rm fs) σ s2 := K1.nils.trans K2 (fun z hz => .inl (List.mem_cons_of_mem _ hz))
    simp only [k38_a, WK, vop, evAll, evOpt, evParts, vbuiltin, vun, vextract, Nat.reduceLT, Nat.reduceEqDiff, ↓reduceIte, reduceCtorEq, Nat.reduceAdd, Int.reduceLT, Int.reduceNeg, valloc_std, noSB, vhot, oe, sbE, hnn, decide_false, g0, g6, wFA p 0 (by omega), lD s1 P1]
    refine KD.ret c2 ?_
    by_cases hfull : (appendD nm (frameB b) d).1 = 3 ∨ (appendD nm (frameB b) d).1 = 22
    · have eA : appW b j d = ((0, 22), j, (appendD nm (frameB b) d).2) := by unfold appW; rw [if_neg h3, if_neg (by omega), ← hnm, if_neg hnn]; simp only; rw [if_pos hfull]
      have done := hP (.ret (.tuple [.int .i64 0, .int .i64 22])) s2 (by rw [eA]; exact ⟨fs2, D2, K2', I2', hpf2, P2, rfl⟩)
      rcases hfull with h | h
      · rw [h]
        have e3 : (((3 : Nat) : Int) = 3) = True := eq_true rfl
        simp only [k38_a, WK, vop, evAll, evOpt, evParts, vbuiltin, vun, vextract, Nat.reduceLT, Nat.reduceEqDiff, ↓reduceIte, reduceCtorEq, Nat.reduceAdd, Int.reduceLT, Int.reduceNeg, valloc_std, noSB, vhot, e3, decide_true, eq_self]
        exact done
      · rw [h]
        have e3 : ¬ ((22 : Nat) : Int) = 3 := by omega
        have e22 : (((22 : Nat) : Int) = 22) = True := eq_true rfl
        simp only [k38_a, WK, vop, evAll, evOpt, evParts, vbuiltin, vun, vextract, Nat.reduceLT, Nat.reduceEqDiff, ↓reduceIte, reduceCtorEq, Nat.reduceAdd, Int.reduceLT, Int.reduceNeg, valloc_std, noSB, vhot, e3, e22, decide_true, decide_false, eq_self]
        exact done
    · have n3 : ¬ (((appendD nm (frameB b) d).1 : Nat) : Int) = 3 := by omega
      have n22 : ¬ (((appendD nm (frameB b) d).1 : Nat) : Int) = 22 := by omega
      have eA : appW b j d = (if (if (appendD nm (frameB b) d).1 = 0 then syncD nm (appendD nm (frameB b) d).2 else appendD nm (frameB b) d).1 ≠ 0 then ((0, (if (appendD nm (frameB b) d).1 = 0 then syncD nm (appendD nm (frameB b) d).2 else appendD nm (frameB b) d).1), { j with sick := (if (appendD nm (frameB b) d).1 = 0 then syncD nm (appendD nm (frameB b) d).2 else appendD nm (frameB b) d).1 }, (if (appendD nm (frameB b) d).1 = 0 then syncD nm (appendD nm (frameB b) d).2 else appendD nm (frameB b) d).2) else ((j.next, 0), { j with wf := j.to, next := j.next + 1 }, (if (appendD nm (frameB b) d).1 = 0 then syncD nm (appendD nm (frameB b) d).2 else appendD nm (frameB b) d).2)) := by
        unfold appW; rw [if_neg h3, if_neg (by omega), ← hnm, if_neg hnn]; simp only; rw [if_neg hfull]
      simp only [k38_a, WK, vop, evAll, evOpt, evParts, vbuiltin, vun, vextract, Nat.reduceLT, Nat.reduceEqDiff, ↓reduceIte, reduceCtorEq, Nat.reduceAdd, Int.reduceLT, Int.reduceNeg, valloc_std, noSB, vhot, n3, n22, decide_false, Bool.not_false]
      rw [← hJ]
      by_cases h0 : (appendD nm (frameB b) d).1 = 0
      · have h0' : (((appendD nm (frameB b) d).1 : Nat) : Int) = 0 := by omega
        obtain ⟨ok2, hw2⟩ := append_ok (n := nm) (b := frameB b) hok
        obtain ⟨q3, s3, c3, rfl, fs3, D3, K3, I3⟩ := sync_sees (n := nm) D2 ok2 (by omega)
        simp only [k38_a, WK, vop, evAll, evOpt, evParts, vbuiltin, vun, vextract, Nat.reduceLT, Nat.reduceEqDiff, ↓reduceIte, reduceCtorEq, Nat.reduceAdd, Int.reduceLT, Int.reduceNeg, valloc_std, noSB, vhot, h0', eq_self, decide_true, g0, wFA p 0 (by omega), lD s2 P2]
        refine KD.ret c3 ?_
        simp only [k38_a, WK, vop, evAll, evOpt, evParts, vbuiltin, vun, vextract, Nat.reduceLT, Nat.reduceEqDiff, ↓reduceIte, reduceCtorEq, Nat.reduceAdd, Int.reduceLT, Int.reduceNeg, valloc_std, noSB, vhot]
        have hla2 := (List.getElem?_eq_some_iff.1 P2).1
        refine back _ s3 (syncD nm (appendD nm (frameB b) d).2) fs3 (by simp [upd_some, g0]) (by simp [upd_some, g8]) (by simp [upd_some]) D3 (K2'.trans K3 (fun z hz => ?_)) (fun z hz => ?_) (fun hx => ?_) (K3.ko _ _ hpf2 P2) (by rw [eA, if_pos h0])
        · rcases I2' z hz with h | h
          · exact .inl (List.mem_cons_of_mem _ h)
          · exact .inr h
        · rcases I3 z hz with h | h
          · exact I2' z h
          · have := K2'.le; exact .inr (by omega)
        · rcases I3 _ hx with h | h
          · exact hpf2 h
          · omega
      · have h0' : ¬ (((appendD nm (frameB b) d).1 : Nat) : Int) = 0 := by omega
        simp only [k38_a, WK, vop, evAll, evOpt, evParts, vbuiltin, vun, vextract, Nat.reduceLT, Nat.reduceEqDiff, ↓reduceIte, reduceCtorEq, Nat.reduceAdd, Int.reduceLT, Int.reduceNeg, valloc_std, noSB, vhot, h0', decide_false]
        exact back _ s2 (appendD nm (frameB b) d) fs2 (by simp [upd_some, g0]) (by simp [upd_some, g8]) (by simp [upd_some]) D2 K2' I2' hpf2 P2 (by rw [eA, if_neg h0])
  simp only [k38_a, WK, vop, evAll, evOpt, evParts, vbuiltin, vun, vextract, Nat.reduceLT, Nat.reduceEqDiff, ↓reduceIte, reduceCtorEq, Nat.reduceAdd, Int.reduceLT, Int.reduceNeg, valloc_std, noSB, vhot, hs', decide_true, eq_self, Bool.not_true, wFA p 2 (by omega), wFA p 3 (by omega), wFA p 1 (by omega), lF s1 P1, lN s1 P1, lP s1 P1, hws]
  rw [← hK]
  by_cases hto : j.per ≤ ((j.next : Nat) : Int) - ((j.wf : Nat) : Int)
  · have e1 : j.to = j.next := by unfold Jn.to; rw [if_pos hto]
    simp only [k38_a, WK, vop, evAll, evOpt, evParts, vbuiltin, vun, vextract, Nat.reduceLT, Nat.reduceEqDiff, ↓reduceIte, reduceCtorEq, Nat.reduceAdd, Int.reduceLT, Int.reduceNeg, valloc_std, noSB, vhot, hto, decide_true, wFA p 3 (by omega), lN s1 P1]
    exact tail _ (by simp [upd_some]) (by simp [upd_some, e1]) (by simp [upd_some])
  · have e1 : j.to = j.wf := by unfold Jn.to; rw [if_neg hto]
    simp only [k38_a, WK, vop, evAll, evOpt, evParts, vbuiltin, vun, vextract, Nat.reduceLT, Nat.reduceEqDiff, ↓reduceIte, reduceCtorEq, Nat.reduceAdd, Int.reduceLT, Int.reduceNeg, valloc_std, noSB, vhot, hto, decide_false]
    exact tail _ (by simp [upd_some]) (by simp [upd_some, e1]) (by simp [upd_some])
end Go.Proofs.YtnegdinonfjdfaaDoor.Q

/- wal.Prune. -/
set_option linter.unusedVariables false
set_option linter.unusedSimpArgs false
set_option maxRecDepth 100000
namespace Go.Proofs.YtnegdinonfjdfaaDoor.Q
open Go Go.RowKit Go.Proofs
/-! ### Plainly -/
def startsD (l : List (List UInt8)) : List Nat := (l.map numW).filter fun n => decide (0 < n)
def pruneL (below : Int) : List Nat → Nat → Dk → (Nat × Nat) × Dk
  | a :: b :: l, g, d => if (b : Int) ≤ below then (if (removeD (nameP 106 1 (a : Nat)) d).1 ≠ 0 then ((0, (removeD (nameP 106 1 (a : Nat)) d).1), (removeD (nameP 106 1 (a : Nat)) d).2) else pruneL below (b :: l) (g + 1) (removeD (nameP 106 1 (a : Nat)) d).2) else ((g, 0), d)
  | _, g, d => ((g, 0), d)
def pruneW (below : Int) (j : Jn) (d : Dk) : (Nat × Nat) × Jn × Dk :=
  if j.sick ≠ 0 then ((0, j.sick), j, d) else
  let x := pruneL below (startsD (namesD d)) 0 d
  if x.1.2 ≠ 0 then (x.1, { j with sick := x.1.2 }, x.2) else (x.1, j, x.2)
theorem WIR : RowT Tryd.prog 38 3 1 8 := ⟨IT.u, by kernel_rfl, ⟨_, (by kernel_rfl : zeroT Tryd.prog 3 = some (.int .i64 0)), rfl⟩, by kernel_rfl, by omega⟩
theorem mkInt1 (n : Int) : vbuildSlice Tryd.prog 38 1 [(0, .int .i64 n)] = some (.slice .exact 1 [.int .i64 n] 1) := by
  have hz : zeroT Tryd.prog 3 = some (.int .i64 0) := by kernel_rfl
  have hs : sizeT Tryd.prog 3 = some 1 := by kernel_rfl
  have e : List.range 1 = [0] := by decide
  have hn : vcells (V.int .i64 0) = [V.int .i64 0] := rfl
  have h1 : one (V.int .i64 n) = true := rfl
  simp [vbuildSlice, IT.u, hs, hz, hn, zeroCellsV, vfill, setAll, e, vcells_one h1, h1]
def OwnI (m : Nat) (u : St) (w : V) (xs : List Nat) : Prop := OwnR 3 1 m u w ((xs.map fun n : Nat => (n : Int)).map i64V) xs.length
theorem OwnI.ints {m : Nat} {u : St} {w : V} {xs : List Nat} (h : OwnI m u w xs) (hx : ∀ x ∈ xs, x ≤ 999999999) : IntsV w (xs.map fun n : Nat => (n : Int)) := by
  refine ⟨?_, fun x hx2 => ?_⟩
  · obtain ⟨h1, ⟨h2, h3⟩ | ⟨p, h2⟩⟩ := OwnR.row h
    · have : xs = [] := List.length_eq_zero_iff.1 h3
      exact .inl ⟨h2, by rw [this]; rfl⟩
    · exact .inr ⟨p, by rw [h2]; simp⟩
  · obtain ⟨n, hn, rfl⟩ := List.mem_map.1 hx2
    have := hx n hn
    unfold InI64
    omega
theorem OwnI.app {s u : St} {w : V} {xs : List Nat} (h : OwnI s.toks.length u w xs) (hk : Keep s u) (n : Nat) (hl : xs.length ≤ 1000) :
    ∃ w' u', vappend Tryd.prog u 38 38 w (.slice .exact 1 [.int .i64 (n : Nat)] 1) = some (w', u') ∧ OwnI s.toks.length u' w' (xs ++ [n]) ∧ Keep s u' := by
  obtain ⟨w', u', a1, a2, a3, a4⟩ := OwnR.appendO WIR (σ0 := s) (t2 := 38) h rfl hk (y := .slice .exact 1 [.int .i64 (n : Nat)] 1) (ys := [.int .i64 (n : Nat)]) (l := 1) (by simp [vnewsO, vnews, IT.u]) rfl rfl (by omega) (by omega)
  refine ⟨w', u', a1, ?_, a3⟩
  unfold OwnI
  simpa [i64V] using a2
theorem startsD_snoc (l : List (List UInt8)) (x : List UInt8) : startsD (l ++ [x]) = startsD l ++ (if 0 < numW x then [numW x] else []) := by
  unfold startsD
  rw [List.map_append, List.filter_append]
  by_cases h : 0 < numW x <;> simp [h]
theorem startsD_le (l : List (List UInt8)) : ∀ x ∈ startsD l, x ≤ 999999999 := by
  intro x hx
  unfold startsD at hx
  obtain ⟨n, hn, rfl⟩ := List.mem_map.1 (List.mem_filter.1 hx).1
  exact numW_le n
theorem startsD_len2 (l : List (List UInt8)) : (startsD l).length ≤ l.length := by
  unfold startsD
  have := List.length_filter_le (fun n => decide (0 < n)) (l.map numW)
  rw [List.length_map] at this
  exact this
theorem OwnI.keep {m : Nat} {s s' : St} {w : V} {xs : List Nat} (h : OwnI m s w xs) (hk : ∀ k, tokLive s.toks k = true → tokLive s'.toks k = true) : OwnI m s' w xs := OwnR.keep h hk
theorem wprune_sees {σ : St} {r rm p : Nat} {d : Dk} {fs : List Ent} {j : Jn} (below : Int) (h : DiskAt σ r d rm fs) (hok : d.Ok) (hw : d.writes ≤ 1000000000) (hp : σ.objs[p]? = some (.cells (j.cells r))) (hpf : p ∉ foot r rm fs) :
    ∃ q σ', Does Tryd.prog prims 39 [.optr p 0, .int .i64 below] σ q σ' ∧ (∃ fs', DiskAt σ' r (pruneW below j d).2.2 rm fs' ∧ KS (p :: foot r rm fs) σ σ' ∧ (∀ y ∈ foot r rm fs', y ∈ foot r rm fs ∨ σ.objs.length ≤ y) ∧ p ∉ foot r rm fs' ∧ σ'.objs[p]? = some (.cells ((pruneW below j d).2.1.cells r)) ∧ q = .ret (.tuple [.int .i64 ((pruneW below j d).1.1 : Nat), .int .i64 ((pruneW below j d).1.2 : Nat)])) := by
  suffices key : ∀ P : VRes → St → Prop, (∀ q σ', (∃ fs', DiskAt σ' r (pruneW below j d).2.2 rm fs' ∧ KS (p :: foot r rm fs) σ σ' ∧ (∀ y ∈ foot r rm fs', y ∈ foot r rm fs ∨ σ.objs.length ≤ y) ∧ p ∉ foot r rm fs' ∧ σ'.objs[p]? = some (.cells ((pruneW below j d).2.1.cells r)) ∧ q = .ret (.tuple [.int .i64 ((pruneW below j d).1.1 : Nat), .int .i64 ((pruneW below j d).1.2 : Nat)])) → P q σ') → ∃ q σ', Does Tryd.prog prims 39 [.optr p 0, .int .i64 below] σ q σ' ∧ P q σ' from key _ fun _ _ h => h
  intro P hP
  apply k39_is.does (by simp)
  have lS : ∀ s : St, s.objs[p]? = some (.cells (j.cells r)) → vload Tryd.prog s.objs 24 (.optr p 4) = some (.int .i64 (j.sick : Nat)) := fun s h => by rw [vload_obj h GEr]; rfl
  have lD : ∀ s : St, s.objs[p]? = some (.cells (j.cells r)) → vload Tryd.prog s.objs 32 (.optr p 0) = some (.optr r 0) := fun s h => by rw [vload_obj h GDp]; rfl
  simp only [k39_a, WK, vop, evAll, evOpt, evParts, vbuiltin, vun, vextract, Nat.reduceLT, Nat.reduceEqDiff, ↓reduceIte, reduceCtorEq, Nat.reduceAdd, Int.reduceLT, Int.reduceNeg, valloc_std, noSB, vhot, List.getD_cons_zero, List.getD_cons_succ, ofNilP, eql_optr TWp, wFA p 4 (by omega), lS σ hp]
  by_cases hs : j.sick = 0
  rotate_left
  · have hs' : ¬ ((j.sick : Nat) : Int) = 0 := by omega
    have eA : pruneW below j d = ((0, j.sick), j, d) := by unfold pruneW; rw [if_pos hs]
    simp only [k39_a, WK, vop, evAll, evOpt, evParts, vbuiltin, vun, vextract, Nat.reduceLT, Nat.reduceEqDiff, ↓reduceIte, reduceCtorEq, Nat.reduceAdd, Int.reduceLT, Int.reduceNeg, valloc_std, noSB, vhot, hs', decide_false, Bool.not_false, wFA p 4 (by omega), lS σ hp]
    exact hP _ _ (by rw [eA]; exact ⟨fs, h, KS.refl _ _, fun y hy => .inl hy, hpf, hp, rfl⟩)
  have hs' : ((j.sick : Nat) : Int) = 0 := by omega
  obtain ⟨q7, s7, c7, v7, o7, rfl, n7, K7, I7⟩ := names_sees h hok
  obtain ⟨L, hL⟩ : ∃ L, L = namesD d := ⟨_, rfl⟩
  have hL16 := namesD_len hok
  rw [← hL] at n7 hL16
  have eP : pruneW below j d = (let x := pruneL below (startsD L) 0 d; if x.1.2 ≠ 0 then (x.1, { j with sick := x.1.2 }, x.2) else (x.1, j, x.2)) := by unfold pruneW; rw [if_neg (by omega), ← hL]
  have R7 : RowS s7 1 v7 (L.map V.str) L.length := row_strs n7
  simp only [k39_a, WK, vop, evAll, evOpt, evParts, vbuiltin, vun, vextract, Nat.reduceLT, Nat.reduceEqDiff, ↓reduceIte, reduceCtorEq, Nat.reduceAdd, Int.reduceLT, Int.reduceNeg, valloc_std, noSB, vhot, hs', eq_self, decide_true, Bool.not_true, wFA p 0 (by omega), lD σ hp]
  refine KD.ret c7 ?_
  simp only [k39_a, WK, vop, evAll, evOpt, evParts, vbuiltin, vun, vextract, Nat.reduceLT, Nat.reduceEqDiff, ↓reduceIte, reduceCtorEq, Nat.reduceAdd, Int.reduceLT, Int.reduceNeg, valloc_std, noSB, vhot, R7.len TSS, nilEP]
  refine Ev.loopF (fun (i : Nat) e u => e 30 = .int .i64 (i : Nat) ∧ i ≤ L.length ∧ OwnI s7.toks.length u (e 6) (startsD (L.take i)) ∧ KS [] s7 u) (fun i => L.length - i) 0 ?_ ?_
  · refine ⟨by simp [upd_some], Nat.zero_le _, ?_, KS.refl _ _⟩
    simp only [upd_some, List.take_zero]
    exact OwnR.nil
  rintro i e u ⟨h30, hi, hO, hK⟩ hf
  have g0 : e 0 = .optr p 0 := (hf 0 (by decide)).trans (by simp [upd_some])
  have g1 : e 1 = .int .i64 below := (hf 1 (by decide)).trans (by simp [upd_some])
  have g28 : e 28 = v7 := (hf 28 (by decide)).trans (by simp [upd_some])
  have g29 : e 29 = .int .i64 (L.length : Nat) := (hf 29 (by decide)).trans (by simp [upd_some])
  clear hf
  have hrow := rowOf_free n7 (fun x _ hx => by simp at hx) hK
  by_cases hlt : i < L.length
  · have hlt' : (i : Int) < (L.length : Nat) := by omega
    have hwi : IntKind.i64.wrap ((i : Int) + 1) = ((i + 1 : Nat) : Int) := by rw [wrap_i64 (by omega) (by omega)]; omega
    have RU : RowS u 1 v7 (L.map V.str) L.length := row_strs hrow
    obtain ⟨pa, ha, hla⟩ := RU.strAt hlt
    have hla := hla u (KS.refl _ _)
    obtain ⟨q8, s8, c8, rfl, K8⟩ := wnumber_sees (σ := u) L[i]
    have htake : L.take (i + 1) = L.take i ++ [L[i]] := List.take_succ_eq_append_getElem hlt
    have hlen : (startsD (L.take i)).length ≤ 16 := by
      have := startsD_len2 (L.take i)
      rw [List.length_take] at this
      omega
    simp only [k39_a, WK, vop, evAll, evOpt, evParts, vbuiltin, vun, vextract, Nat.reduceLT, Nat.reduceEqDiff, ↓reduceIte, reduceCtorEq, Nat.reduceAdd, Int.reduceLT, Int.reduceNeg, valloc_std, noSB, vhot, h30, g28, g29, hlt', decide_true, ha, hla]
    refine KD.ret c8 ?_
    by_cases hz : 0 < numW L[i]
    · have hz' : (0 : Int) < ((numW L[i] : Nat) : Int) := by omega
      have hK8 : KS [] s7 s8 := hK.trans' K8
      obtain ⟨w', u', a1, a2, a3⟩ := (hO.keep K8.tk).app hK8.keep (numW L[i]) (by omega)
      simp only [k39_a, WK, vop, evAll, evOpt, evParts, vbuiltin, vun, vextract, Nat.reduceLT, Nat.reduceEqDiff, ↓reduceIte, reduceCtorEq, Nat.reduceAdd, Int.reduceLT, Int.reduceNeg, valloc_std, noSB, vhot, h30, hz', decide_true, mkInt1, a1, hwi]
      refine ⟨i + 1, ⟨by simp [upd_some], by omega, ?_, a3.ks []⟩, by omega⟩
      rw [htake, startsD_snoc, if_pos hz]
      simpa [upd_some] using a2
    · have hz' : ¬ (0 : Int) < ((numW L[i] : Nat) : Int) := by omega
      simp only [k39_a, WK, vop, evAll, evOpt, evParts, vbuiltin, vun, vextract, Nat.reduceLT, Nat.reduceEqDiff, ↓reduceIte, reduceCtorEq, Nat.reduceAdd, Int.reduceLT, Int.reduceNeg, valloc_std, noSB, vhot, h30, hz', decide_false, hwi]
      refine ⟨i + 1, ⟨by simp [upd_some], by omega, ?_, hK.trans' K8⟩, by omega⟩
      rw [htake, startsD_snoc, if_neg hz, List.append_nil]
      simpa [upd_some] using hO.keep K8.tk
  · have hlt' : ¬ (i : Int) < (L.length : Nat) := by omega
    have htake : L.take i = L := List.take_of_length_le (by omega)
    rw [htake] at hO
    obtain ⟨ST, hST⟩ : ∃ ST, ST = startsD L := ⟨_, rfl⟩
    have hle := startsD_le L
    have hlen := startsD_len2 L
    rw [← hST] at hO hle hlen eP
    obtain ⟨w, hww⟩ : ∃ w, w = e 6 := ⟨_, rfl⟩
    have hI : IntsV w (ST.map fun n : Nat => (n : Int)) := by rw [hww]; exact hO.ints hle
    have hlI := hI.len IT
    simp only [k39_a, WK, vop, evAll, evOpt, evParts, vbuiltin, vun, vextract, Nat.reduceLT, Nat.reduceEqDiff, ↓reduceIte, reduceCtorEq, Nat.reduceAdd, Int.reduceLT, Int.reduceNeg, valloc_std, noSB, vhot, h30, g29, hlt', decide_false]
    have hK7 : KS [] σ u := K7.trans' hK
    refine Ev.loopF (fun (i : Nat) e2 s => e2 11 = .int .i64 (i : Nat) ∧ e2 10 = .int .i64 (i : Nat) ∧ i ≤ ST.length ∧ ∃ (dd : Dk) (fu : List Ent), DiskAt s r dd rm fu ∧ dd.Ok ∧ dd.writes ≤ 1000000000 + i ∧ pruneL below ST 0 d = pruneL below (ST.drop i) i dd ∧ KS (foot r rm fs) σ s ∧ (∀ y ∈ foot r rm fu, y ∈ foot r rm fs ∨ σ.objs.length ≤ y) ∧ p ∉ foot r rm fu ∧ s.objs[p]? = some (.cells (j.cells r))) (fun i => ST.length - i) 0 ?_ ?_
    · exact ⟨by simp [upd_some], by simp [upd_some], Nat.zero_le _, d, fs, h.pushes hK7, hok, by omega, by rw [List.drop_zero], hK7.nils, fun y hy => .inl hy, hpf, hK7.ko _ _ (by simp) hp⟩
    rintro i2 e2 s ⟨h11, h10, hi2, dd, fu, D, ok, hwr, hpr, K, I, hpf2, Ps⟩ hf
    have k0 : e2 0 = .optr p 0 := (hf 0 (by decide)).trans (by simp [upd_some, g0])
    have k1 : e2 1 = .int .i64 below := (hf 1 (by decide)).trans (by simp [upd_some, g1])
    have k6 : e2 6 = w := (hf 6 (by decide)).trans (by simp [upd_some, hww])
    clear hf
    have hwi : IntKind.i64.wrap ((i2 : Int) + 1) = ((i2 + 1 : Nat) : Int) := by rw [wrap_i64 (by omega) (by omega)]; omega
    have hlm : (ST.map fun n : Nat => (n : Int)).length = ST.length := List.length_map ..
    have stop : pruneL below (ST.drop i2) i2 dd = ((i2, 0), dd) → P (.ret (.tuple [.int .i64 (i2 : Nat), .int .i64 0])) s := by
      intro hst
      rw [hpr, hst] at eP
      simp only at eP
      rw [if_neg (by simp)] at eP
      refine hP _ _ ?_
      rw [eP]
      exact ⟨fu, D, K.over (fun x hx => List.mem_cons_of_mem _ hx), I, hpf2, Ps, rfl⟩
    by_cases h2 : i2 + 1 < ST.length
    · have h2' : ((i2 + 1 : Nat) : Int) < ((ST.map fun n : Nat => (n : Int)).length : Nat) := by omega
      have ha1 := hI.addr IT (k := .i64) (n := ((i2 + 1 : Nat) : Int)) (by omega) (by omega)
      have ha0 := hI.addr IT (k := .i64) (n := ((i2 : Nat) : Int)) (by omega) (by omega)
      have hl1 : vload Tryd.prog s.objs 3 (.eptr ((ST.map fun n : Nat => (n : Int)).map i64V) ((i2 + 1 : Nat) : Int).toNat) = some (.int .i64 (ST[i2 + 1] : Nat)) := by
        rw [IntsV.load IT (by rw [hlm]; omega : ((i2 + 1 : Nat) : Int).toNat < _)]
        simp
      have hl0 : vload Tryd.prog s.objs 3 (.eptr ((ST.map fun n : Nat => (n : Int)).map i64V) ((i2 : Nat) : Int).toNat) = some (.int .i64 (ST[i2] : Nat)) := by
        rw [IntsV.load IT (by rw [hlm]; omega : ((i2 : Nat) : Int).toNat < _)]
        simp
      have hdrop : ST.drop i2 = ST[i2] :: ST[i2 + 1] :: ST.drop (i2 + 2) := by rw [List.drop_eq_getElem_cons (by omega), List.drop_eq_getElem_cons h2]
      have hdrop1 : ST.drop (i2 + 1) = ST[i2 + 1] :: ST.drop (i2 + 2) := List.drop_eq_getElem_cons h2
      by_cases hb : ((ST[i2 + 1] : Nat) : Int) ≤ below
      · obtain ⟨q9, s9, c9, rfl, fs9, D9, K9, I9⟩ := remove_sees (n := nameP 106 1 (ST[i2] : Nat)) D ok (by omega)
        obtain ⟨ok9, hw9⟩ := remove_ok (n := nameP 106 1 (ST[i2] : Nat)) ok
        have hla := (List.getElem?_eq_some_iff.1 hp).1
        have Ps9 := K9.ko _ _ hpf2 Ps
        have K9' : KS (foot r rm fs) σ s9 := K.trans K9 (fun x hx => I x hx)
        have I9' : ∀ y ∈ foot r rm fs9, y ∈ foot r rm fs ∨ σ.objs.length ≤ y := fun y hy => by
          rcases I9 y hy with h | h
          · exact I y h
          · have := K.le; exact .inr (by omega)
        have hpf9 : p ∉ foot r rm fs9 := fun hx => by
          rcases I9 _ hx with h | h
          · exact hpf2 h
          · have := K.le; omega
        simp only [k39_a, WK, vop, evAll, evOpt, evParts, vbuiltin, vun, vextract, Nat.reduceLT, Nat.reduceEqDiff, ↓reduceIte, reduceCtorEq, Nat.reduceAdd, Int.reduceLT, Int.reduceNeg, valloc_std, noSB, vhot, h11, h10, k0, k1, k6, hwi, hlI, h2', decide_true, ha1, ha0, hl1, hl0, hb, wFA p 0 (by omega), lD s Ps]
        refine KD.ret (wname_does (ST[i2] : Nat)) ?_
        simp only [k39_a, WK, vop, evAll, evOpt, evParts, vbuiltin, vun, vextract, Nat.reduceLT, Nat.reduceEqDiff, ↓reduceIte, reduceCtorEq, Nat.reduceAdd, Int.reduceLT, Int.reduceNeg, valloc_std, noSB, vhot]
        refine KD.ret c9 ?_
        by_cases hz : (removeD (nameP 106 1 (ST[i2] : Nat)) dd).1 = 0
        · have hz' : (((removeD (nameP 106 1 (ST[i2] : Nat)) dd).1 : Nat) : Int) = 0 := by omega
          simp only [k39_a, WK, vop, evAll, evOpt, evParts, vbuiltin, vun, vextract, Nat.reduceLT, Nat.reduceEqDiff, ↓reduceIte, reduceCtorEq, Nat.reduceAdd, Int.reduceLT, Int.reduceNeg, valloc_std, noSB, vhot, h11, h10, hz', eq_self, decide_true, Bool.not_true, hwi, lD s Ps]
          refine ⟨i2 + 1, ⟨by simp [upd_some], by simp [upd_some], by omega, (removeD (nameP 106 1 (ST[i2] : Nat)) dd).2, fs9, D9, ok9, by omega, ?_, K9', I9', hpf9, Ps9⟩, by omega⟩
          rw [hpr, hdrop, pruneL, if_pos hb, if_neg (by omega), hdrop1]
        · have hz' : ¬ (((removeD (nameP 106 1 (ST[i2] : Nat)) dd).1 : Nat) : Int) = 0 := by omega
          obtain ⟨t1, ht1⟩ : ∃ t1 : St, t1 = ⟨s9.objs.set p (.cells (wcells r j.per j.wf j.next (removeD (nameP 106 1 (ST[i2] : Nat)) dd).1)), s9.toks⟩ := ⟨_, rfl⟩
          have y1 : vstore Tryd.prog s9 24 (.optr p 4) (.int .i64 ((removeD (nameP 106 1 (ST[i2] : Nat)) dd).1 : Nat)) = some t1 := by rw [vstore_obj Ps9 SEr rfl (by simp [Jn.cells, wcells]), ht1]; rfl
          have z1 : t1.objs[p]? = some (.cells (wcells r j.per j.wf j.next (removeD (nameP 106 1 (ST[i2] : Nat)) dd).1)) := by rw [ht1]; exact obj_set Ps9
          have x1 : KS [p] s9 t1 := by rw [ht1]; exact KS.set (.inl (by simp)) _
          simp only [k39_a, WK, vop, evAll, evOpt, evParts, vbuiltin, vun, vextract, Nat.reduceLT, Nat.reduceEqDiff, ↓reduceIte, reduceCtorEq, Nat.reduceAdd, Int.reduceLT, Int.reduceNeg, valloc_std, noSB, vhot, k0, hz', decide_false, Bool.not_false, wFA p 4 (by omega), y1, lD s Ps]
          refine hP _ _ ?_
          rw [hpr, hdrop, pruneL, if_pos hb, if_pos hz] at eP
          simp only at eP
          rw [if_pos hz] at eP
          rw [eP]
          exact ⟨fs9, D9.keep x1 (fun x hx hm => by simp at hm; subst hm; exact hpf9 hx), (K9'.over (fun x hx => List.mem_cons_of_mem _ hx)).trans x1 (fun x hx => by simp at hx; subst hx; exact .inl (by simp)), I9', hpf9, z1, rfl⟩
      · simp only [k39_a, WK, vop, evAll, evOpt, evParts, vbuiltin, vun, vextract, Nat.reduceLT, Nat.reduceEqDiff, ↓reduceIte, reduceCtorEq, Nat.reduceAdd, Int.reduceLT, Int.reduceNeg, valloc_std, noSB, vhot, h11, h10, k0, k1, k6, hwi, hlI, h2', decide_true, ha1, hl1, hb, decide_false]
        exact stop (by rw [hdrop, pruneL, if_neg hb])
    · have h2' : ¬ ((i2 + 1 : Nat) : Int) < ((ST.map fun n : Nat => (n : Int)).length : Nat) := by omega
      simp only [k39_a, WK, vop, evAll, evOpt, evParts, vbuiltin, vun, vextract, Nat.reduceLT, Nat.reduceEqDiff, ↓reduceIte, reduceCtorEq, Nat.reduceAdd, Int.reduceLT, Int.reduceNeg, valloc_std, noSB, vhot, h11, h10, k6, hwi, hlI, h2', decide_false]
      refine stop ?_
      have hl : (ST.drop i2).length ≤ 1 := by rw [List.length_drop]; omega
      match hd : ST.drop i2 with
      | [] => rfl
      | [a] => rfl
      | a :: b :: l => rw [hd] at hl; simp at hl
end Go.Proofs.YtnegdinonfjdfaaDoor.Q

/- What a Save does to a disk, with the power going anywhere: plainly. -/
set_option linter.unusedVariables false
set_option linter.unusedSimpArgs false
set_option maxRecDepth 100000
namespace Go.Proofs.YtnegdinonfjdfaaDoor.Q
open Go Go.RowKit Go.Proofs
/-! ### Saving keeps a disk right -/
/-! ### Names in their order -/
theorem digK_lt : ∀ (k a b : Nat), a < b → b < 10 ^ k → digK k a < digK k b
  | 0, a, b, h, hb => by simp at hb; omega
  | k + 1, a, b, h, hb => by
    have hmod : ∀ (k n : Nat), digK k n = digK k (n % 10 ^ k) := by
      intro k
      induction k with
      | zero => intro n; rfl
      | succ k ih =>
        intro n
        rw [digK, digK, ih (n / 10), ih (n % 10 ^ (k + 1) / 10)]
        have e1 : n % 10 ^ (k + 1) / 10 = n / 10 % 10 ^ k := by
          rw [Nat.pow_succ, Nat.mul_comm, Nat.mod_mul_right_div_self]
        have e2 : n % 10 ^ (k + 1) % 10 = n % 10 := Nat.mod_mod_of_dvd n ⟨10 ^ k, by rw [Nat.pow_succ, Nat.mul_comm]⟩
        rw [e1, e2, Nat.mod_mod]
    rw [digK_front, digK_front]
    rw [Nat.pow_succ] at hb
    have hp : 0 < 10 ^ k := Nat.pow_pos (by decide)
    have qa : a / 10 ^ k < 10 := by rw [Nat.div_lt_iff_lt_mul hp]; omega
    have qb : b / 10 ^ k < 10 := by rw [Nat.div_lt_iff_lt_mul hp]; omega
    have hq : a / 10 ^ k ≤ b / 10 ^ k := Nat.div_le_div_right (by omega)
    rw [Nat.mod_eq_of_lt qa, Nat.mod_eq_of_lt qb, List.cons_lt_cons_iff]
    rcases Nat.lt_or_ge (a / 10 ^ k) (b / 10 ^ k) with h1 | h1
    · left
      rw [UInt8.lt_iff_toNat_lt, UInt8.toNat_ofNat', UInt8.toNat_ofNat']
      generalize a / 10 ^ k = u at *
      generalize b / 10 ^ k = v at *
      omega
    · right
      have he : a / 10 ^ k = b / 10 ^ k := by omega
      refine ⟨by rw [he], ?_⟩
      rw [hmod k a, hmod k b]
      refine digK_lt k _ _ ?_ (Nat.mod_lt _ hp)
      have ha := Nat.div_add_mod a (10 ^ k)
      have hb2 := Nat.div_add_mod b (10 ^ k)
      rw [he] at ha
      omega
def nmS (a : Nat) : List UInt8 := 115 :: digK 9 a
theorem ne_of_lt' {a b : List UInt8} (h : a < b) : a ≠ b := fun e => lt_irrefl' b (by rw [e] at h; exact h)
/-! ### Lists of files -/
theorem putF_last {x : Fl} {l : List Fl} (h : ∀ f ∈ l, f.name < x.name) : putF x l = l ++ [x] := by
  unfold putF
  rw [List.filter_eq_self.2 (fun f hf => by simpa using h f hf), List.filter_eq_nil_iff.2 (fun f hf => by
    simp only [decide_eq_true_eq]
    exact fun h2 => lt_irrefl' _ (lt_trans' h2 (h f hf)))]
theorem dropF_head {n : List UInt8} {y : Fl} {l : List Fl} (he : y.name = n) (h : ∀ f ∈ l, f.name ≠ n) : dropF n (y :: l) = l := by
  unfold dropF
  rw [List.filter_cons_of_neg (by simp [he]), List.filter_eq_self.2 (fun f hf => by simpa using h f hf)]
theorem getF_head {n : List UInt8} {y : Fl} {l : List Fl} (he : y.name = n) : getF (y :: l) n = some y := by
  unfold getF
  rw [List.find?_cons_of_pos (by simp [he])]
theorem getF_no {n : List UInt8} {l : List Fl} (h : ∀ f ∈ l, f.name ≠ n) : getF l n = none := by
  unfold getF
  rw [List.find?_eq_none]
  intro f hf
  simpa using h f hf
/-! ### One call, with the power going or not -/
/-- F0: what the power's going leaves; F1: what is there else. -/
def Did (d : Dk) (F0 F1 : List Fl) (r : Nat × Dk) : Prop :=
  (r.1 = 0 ∧ r.2.files = F1 ∧ r.2.on = true ∧ r.2.room = d.room ∧ r.2.keep = d.keep ∧ (d.armed = 0 → r.2.armed = 0)) ∨ (d.armed ≠ 0 ∧ r.1 = 20 ∧ r.2.on = false ∧ r.2.files = F0.map (offF d.keep) ∧ r.2.room = d.room)
theorem raw_two (d : Dk) : ((rawD d).1 = false ∧ (d.armed = 0 → (rawD d).2.armed = 0)) ∨ (d.armed ≠ 0 ∧ (rawD d).1 = true) := by
  unfold rawD
  split
  · exact .inl ⟨rfl, fun h => h⟩
  · rename_i h
    by_cases h1 : d.armed = 1
    · exact .inr ⟨h, by simp [h1]⟩
    · exact .inl ⟨by simp [h1], fun h0 => absurd h0 h⟩
theorem off_on {k : Int} {d : Dk} (h : d.on = true) : (offD k d).on = false ∧ (offD k d).files = d.files.map (offF k) ∧ (offD k d).room = d.room := by
  unfold offD
  rw [if_pos h]
  exact ⟨rfl, rfl, rfl⟩
theorem there_some {d : Dk} {n : List UInt8} {f : Fl} (hn : namedD n = true) (ho : d.on = true) (hg : getF d.files n = some f) : thereD d n = 0 := by
  unfold thereD
  rw [if_neg (by rw [readyD_yes hn ho]; simp), hg]
  rfl
theorem did_sync {d : Dk} {n : List UInt8} {f : Fl} (ho : d.on = true) (hn : namedD n = true) (hg : getF d.files n = some f) : Did d d.files (putF ⟨n, f.safe ++ f.wait, []⟩ d.files) (syncD n d) := by
  unfold syncD
  rw [if_neg (by rw [there_some hn ho hg]; simp), hg]
  simp only [Option.getD_some]
  obtain ⟨r1, r2, r3, r4, r5⟩ := raw_files d
  rcases raw_two d with ⟨h1, h2⟩ | ⟨h1, h2⟩
  · rw [if_neg (by rw [h1]; simp)]
    exact .inl ⟨rfl, rfl, r4.trans ho, r3, r2, h2⟩
  · rw [if_pos h2]
    obtain ⟨o1, o2, o3⟩ := off_on (k := d.keep) (d := (rawD d).2) (r4.trans ho)
    exact .inr ⟨h1, rfl, o1, by rw [o2, r1], o3.trans r3⟩
theorem did_remove {d : Dk} {n : List UInt8} {f : Fl} (ho : d.on = true) (hn : namedD n = true) (hg : getF d.files n = some f) : Did d d.files (dropF n d.files) (removeD n d) := by
  unfold removeD
  rw [if_neg (by rw [there_some hn ho hg]; simp)]
  obtain ⟨r1, r2, r3, r4, r5⟩ := raw_files d
  rcases raw_two d with ⟨h1, h2⟩ | ⟨h1, h2⟩
  · rw [if_neg (by rw [h1]; simp)]
    exact .inl ⟨rfl, rfl, r4.trans ho, r3, r2, h2⟩
  · rw [if_pos h2]
    obtain ⟨o1, o2, o3⟩ := off_on (k := d.keep) (d := (rawD d).2) (r4.trans ho)
    exact .inr ⟨h1, rfl, o1, by rw [o2, r1], o3.trans r3⟩
end Go.Proofs.YtnegdinonfjdfaaDoor.Q

/- Journals plainly: frames one behind the other, segments as files, opening, appending, pruning. -/
set_option linter.unusedVariables false
set_option linter.unusedSimpArgs false
set_option maxRecDepth 100000
namespace Go.Proofs.YtnegdinonfjdfaaDoor.Q
open Go Go.RowKit Go.Proofs
/-! ### Names -/
def nmJ (a : Nat) : List UInt8 := 106 :: digK 9 a
theorem nmJ_lt {a b : Nat} (h : a < b) (hb : b < 1000000000) : nmJ a < nmJ b := by
  unfold nmJ
  rw [List.cons_lt_cons_iff]
  exact .inr ⟨rfl, digK_lt 9 a b h hb⟩
theorem nmJ_name {n : Nat} (h1 : 1 ≤ n) (h : n < 1000000000) : nameP 106 1 (n : Int) = nmJ n := by
  unfold nameP nmJ
  rw [if_neg (by omega), Int.toNat_natCast]
theorem nmJ_num {n : Nat} (h : n < 1000000000) : numW (nmJ n) = n := by
  unfold numW nmJ
  rw [num_name h]
  rfl
theorem nmJ_named (n : Nat) : namedD (nmJ n) = true := by
  unfold namedD nmJ
  simp [digK_len]
/-! ### Frames one behind the other -/
def framesB (l : List (List UInt8)) : List UInt8 := (l.map frameB).flatten
theorem framesB_cons (r : List UInt8) (l : List (List UInt8)) : framesB (r :: l) = frameB r ++ framesB l := rfl
theorem framesB_snoc (r : List UInt8) (l : List (List UInt8)) : framesB (l ++ [r]) = framesB l ++ frameB r := by simp [framesB]
theorem framesB_len : ∀ l : List (List UInt8), l.length ≤ (framesB l).length
  | [] => Nat.le_refl _
  | r :: l => by
    have := framesB_len l
    rw [framesB_cons, List.length_append, frameB_len, List.length_cons]
    omega
/-- The beginning of a frame, not the whole. -/
def Stub (t : List UInt8) : Prop := ∃ r : List UInt8, r.length ≤ 65536 ∧ (∃ u, t ++ u = frameB r) ∧ t.length < 8 + r.length
theorem Stub.nil : Stub [] := ⟨[], by simp, ⟨frameB [], rfl⟩, by simp⟩
theorem take_pre {a t u : List UInt8} {k : Nat} (h : t ++ u = a) (hk : k ≤ t.length) : t.take k = a.take k := by
  rw [← h, List.take_append_of_le_length hk]
theorem frame_four (r : List UInt8) : (frameB r).take 4 = fourB (BitVec.ofNat 32 r.length) := by
  unfold frameB
  rw [List.append_assoc, List.take_append_of_le_length (by rw [fourB_len]; omega)]
  exact List.take_of_length_le (by rw [fourB_len]; omega)
theorem drop_at (p q : List UInt8) (k : Nat) : (p ++ q).drop (p.length + k) = q.drop k := by
  rw [List.drop_append, List.drop_of_length_le (by omega)]
  simp
theorem recAt_stub {p t : List UInt8} (h : Stub t) : recAt (p ++ t) p.length = none := by
  obtain ⟨r, hr, ⟨u, hu⟩, hl⟩ := h
  unfold recAt
  by_cases h8 : (p ++ t).length < p.length + 8
  · rw [if_pos h8]
  · rw [if_neg h8]
    rw [List.length_append] at h8
    have hw : w4 (p ++ t) p.length = BitVec.ofNat 32 r.length := by
      apply w4_of
      have := drop_at p t 0
      simp only [Nat.add_zero, List.drop_zero] at this
      rw [this, take_pre hu (by omega), frame_four]
    rw [hw, if_pos]
    right
    rw [List.length_append, BitVec.toNat_ofNat]
    omega
theorem recAt_frame {p q r : List UInt8} (hr : r.length ≤ 65536) : recAt (p ++ (frameB r ++ q)) p.length = some r.length := by
  have hl := frameB_len r
  have h0 := drop_at p (frameB r ++ q) 0
  have h4 := drop_at p (frameB r ++ q) 4
  have h8 := drop_at p (frameB r ++ q) 8
  simp only [Nat.add_zero, List.drop_zero] at h0
  have hw : w4 (p ++ (frameB r ++ q)) p.length = BitVec.ofNat 32 r.length := by
    apply w4_of
    rw [h0, List.take_append_of_le_length (by omega), frame_four]
  have hd4 : (frameB r).drop 4 = fourB (crcSum r) ++ r := by
    unfold frameB
    rw [List.append_assoc, List.drop_append_of_le_length (by rw [fourB_len]; omega), List.drop_of_length_le (by rw [fourB_len]; omega)]
    rfl
  have hd8 : (frameB r).drop 8 = r := by
    unfold frameB
    rw [List.drop_append_of_le_length (by rw [List.length_append, fourB_len, fourB_len]; omega), List.drop_of_length_le (by rw [List.length_append, fourB_len, fourB_len]; omega)]
    rfl
  have hw4 : w4 (p ++ (frameB r ++ q)) (p.length + 4) = crcSum r := by
    apply w4_of
    rw [h4, List.drop_append_of_le_length (by omega), hd4, List.append_assoc, List.take_append_of_le_length (by rw [fourB_len]; omega)]
    exact List.take_of_length_le (by rw [fourB_len]; omega)
  have hn : (BitVec.ofNat 32 r.length).toNat = r.length := by rw [BitVec.toNat_ofNat]; omega
  unfold recAt
  rw [if_neg (by simp only [List.length_append]; omega), hw, hn, if_neg (by simp only [List.length_append]; omega), h8, List.drop_append_of_le_length (by omega), hd8, List.take_append_of_le_length (by omega), List.take_of_length_le (by omega), hw4, if_pos rfl]
theorem recsK_frames {t : List UInt8} (ht : Stub t) : ∀ (l : List (List UInt8)) (p : List UInt8) (k : Nat), (∀ r ∈ l, r.length ≤ 65536) → l.length < k → recsK (p ++ (framesB l ++ t)) k p.length = (l, p.length + (framesB l).length)
  | [], p, k + 1, _, _ => by
    rw [recsK]
    have e : p ++ (framesB [] ++ t) = p ++ t := rfl
    rw [e, recAt_stub ht]
    rfl
  | r :: l, p, k + 1, hl, hk => by
    have hr := hl r (by simp)
    have e : p ++ (framesB (r :: l) ++ t) = p ++ (frameB r ++ (framesB l ++ t)) := by rw [framesB_cons, List.append_assoc]
    have e2 : p ++ (framesB (r :: l) ++ t) = (p ++ frameB r) ++ (framesB l ++ t) := by rw [framesB_cons]; simp
    have ih := recsK_frames ht l (p ++ frameB r) k (fun x hx => hl x (List.mem_cons_of_mem _ hx)) (by simp at hk; omega)
    have hlen : (p ++ frameB r).length = p.length + 8 + r.length := by rw [List.length_append, frameB_len]; omega
    have hd8 : (frameB r).drop 8 = r := by
      unfold frameB
      rw [List.drop_append_of_le_length (by rw [List.length_append, fourB_len, fourB_len]; omega), List.drop_of_length_le (by rw [List.length_append, fourB_len, fourB_len]; omega)]
      rfl
    have hfl := frameB_len r
    have hx : ((p ++ (framesB (r :: l) ++ t)).drop (p.length + 8)).take r.length = r := by
      rw [e, drop_at, List.drop_append_of_le_length (by omega), hd8, List.take_append_of_le_length (by omega), List.take_of_length_le (by omega)]
    have hrec : recAt (p ++ (framesB (r :: l) ++ t)) p.length = some r.length := by rw [e]; exact recAt_frame hr
    rw [← e2, hlen] at ih
    rw [recsK, hrec]
    simp only
    rw [hx, ih, framesB_cons, List.length_append, frameB_len]
    simp only [Prod.mk.injEq, true_and]
    omega
theorem recsB_frames {t : List UInt8} (ht : Stub t) (l : List (List UInt8)) (hl : ∀ r ∈ l, r.length ≤ 65536) : recsB (framesB l ++ t) = (l, (framesB l).length) := by
  have := recsK_frames ht l [] ((framesB l ++ t).length + 1) hl (by have := framesB_len l; rw [List.length_append]; omega)
  unfold recsB
  simpa using this
/-! ### Segments as files -/
abbrev Seg := Nat × List (List UInt8)
abbrev FJ := Seg × List UInt8
def fileX (x : FJ) : Fl := ⟨nmJ x.1.1, framesB x.1.2 ++ x.2, []⟩
def clr (x : FJ) : FJ := (x.1, [])
theorem fileX_clr (x : FJ) : (fileX (clr x)).name = (fileX x).name := rfl
structure GoodX (x : FJ) : Prop where
  lo : 1 ≤ x.1.1
  hi : x.1.1 < 1000000000
  tail : Stub x.2
  small : ∀ r ∈ x.1.2, r.length ≤ 65536
theorem GoodX.clr {x : FJ} (h : GoodX x) : GoodX (clr x) := ⟨h.lo, h.hi, Stub.nil, h.small⟩
abbrev Rise (l : List Fl) : Prop := l.Pairwise fun f g => f.name < g.name
theorem rise_mid {A B : List Fl} {y x : Fl} (h : Rise (A ++ y :: B)) (he : x.name = y.name) : Rise (A ++ x :: B) := by
  unfold Rise at h ⊢
  rw [List.pairwise_append, List.pairwise_cons] at h ⊢
  obtain ⟨h1, ⟨h2, h3⟩, h4⟩ := h
  refine ⟨h1, ⟨fun g hg => by rw [he]; exact h2 g hg, h3⟩, fun f hf g hg => ?_⟩
  rcases List.mem_cons.1 hg with rfl | hg
  · rw [he]; exact h4 f hf y (by simp)
  · exact h4 f hf g (List.mem_cons_of_mem _ hg)
theorem putF_mid {A B : List Fl} {y x : Fl} (h : Rise (A ++ y :: B)) (he : x.name = y.name) : putF x (A ++ y :: B) = A ++ x :: B := by
  unfold Rise at h
  rw [List.pairwise_append, List.pairwise_cons] at h
  obtain ⟨h1, ⟨h2, h3⟩, h4⟩ := h
  have a1 : ∀ f ∈ A, f.name < x.name := fun f hf => by rw [he]; exact h4 f hf y (by simp)
  have b1 : ∀ g ∈ B, x.name < g.name := fun g hg => by rw [he]; exact h2 g hg
  have h0 : ¬ x.name < x.name := lt_irrefl' _
  unfold putF
  rw [List.filter_append, List.filter_append, List.filter_cons_of_neg (by simp [← he, h0]), List.filter_cons_of_neg (by simp [← he, h0])]
  rw [List.filter_eq_self.2 (fun f hf => by simpa using a1 f hf), List.filter_eq_nil_iff.2 (fun g hg => by
    simp only [decide_eq_true_eq]
    exact fun h2 => lt_irrefl' _ (lt_trans' h2 (b1 g hg))), List.filter_eq_nil_iff.2 (fun f hf => by
    simp only [decide_eq_true_eq]
    exact fun h2 => lt_irrefl' _ (lt_trans' h2 (a1 f hf))), List.filter_eq_self.2 (fun g hg => by simpa using b1 g hg)]
  simp
theorem getF_mid {A B : List Fl} {y : Fl} (h : Rise (A ++ y :: B)) : getF (A ++ y :: B) y.name = some y := by
  apply getF_mem _ (by simp)
  rw [List.nodup_iff_pairwise_ne, List.pairwise_map]
  exact h.imp fun {f g} hlt (he : f.name = g.name) => lt_irrefl' f.name (by rw [← he] at hlt; exact hlt)
theorem off_still {k : Int} {l : List Fl} (h : ∀ f ∈ l, f.wait = []) : l.map (offF k) = l := by
  conv => rhs; rw [← List.map_id l]
  apply List.map_congr_left
  intro f hf
  obtain ⟨n, s, w⟩ := f
  have := h _ hf
  simp only at this
  subst this
  simp [offF]
theorem did_trunc {d : Dk} {n : List UInt8} {f : Fl} {k : Nat} (ho : d.on = true) (hn : namedD n = true) (hg : getF d.files n = some f) (hk : k ≤ f.len) : Did d d.files (putF ⟨n, f.safe.take k, f.wait.take (k - f.safe.length)⟩ d.files) (truncD n (k : Nat) d) := by
  unfold truncD
  rw [if_neg (by rw [there_some hn ho hg]; simp), hg]
  simp only [Option.getD_some]
  rw [if_neg (by rintro (h | h); omega; omega)]
  obtain ⟨r1, r2, r3, r4, r5⟩ := raw_files d
  rcases raw_two d with ⟨h1, h2⟩ | ⟨h1, h2⟩
  · rw [if_neg (by rw [h1]; simp)]
    exact .inl ⟨rfl, by simp, r4.trans ho, r3, r2, h2⟩
  · rw [if_pos h2]
    obtain ⟨o1, o2, o3⟩ := off_on (k := d.keep) (d := (rawD d).2) (r4.trans ho)
    exact .inr ⟨h1, rfl, o1, by rw [o2, r1], o3.trans r3⟩
/-- What a call may do: all is well; or the power goes. -/
structure Fine (d d' : Dk) (F : List Fl) : Prop where
  fl : d'.files = F
  on : d'.on = true
  room : d'.room = d.room
  keep : d'.keep = d.keep
  arm : d.armed = 0 → d'.armed = 0
structure Gone (d d' : Dk) : Prop where
  arm : d.armed ≠ 0
  off : d'.on = false
  room : d'.room = d.room
theorem seg_core {d : Dk} {A B : List Fl} {x : FJ} (hok : d.Ok) (ho : d.on = true) (hf : d.files = A ++ fileX x :: B) (hw : ∀ f ∈ d.files, f.wait = []) (hx : GoodX x) :
    ((segD (nmJ x.1.1) d).1 = (0, x.1.2) ∧ Fine d (segD (nmJ x.1.1) d).2 (A ++ fileX (clr x) :: B)) ∨ (Gone d (segD (nmJ x.1.1) d).2 ∧ (segD (nmJ x.1.1) d).1.1 = 20 ∧ ((segD (nmJ x.1.1) d).2.files = A ++ fileX x :: B ∨ (segD (nmJ x.1.1) d).2.files = A ++ fileX (clr x) :: B)) := by
  have hR : Rise (A ++ fileX x :: B) := by rw [← hf]; exact hok.rise
  have hg : getF d.files (nmJ x.1.1) = some (fileX x) := by rw [hf]; exact getF_mid hR
  have hnm := nmJ_named x.1.1
  have hread : readD (nmJ x.1.1) d = (0, framesB x.1.2 ++ x.2) := by
    unfold readD
    rw [if_neg (by rw [there_some hnm ho hg]; simp), hg]
    simp [fileX]
  have hrec := recsB_frames hx.tail x.1.2 hx.small
  -- taking the tail off
  obtain ⟨t, et⟩ : ∃ t : Nat × Dk, t = (if (recsB (readD (nmJ x.1.1) d).2).2 < (readD (nmJ x.1.1) d).2.length then truncD (nmJ x.1.1) ((recsB (readD (nmJ x.1.1) d).2).2 : Nat) d else (0, d)) := ⟨_, rfl⟩
  have hseg : segD (nmJ x.1.1) d = if t.1 ≠ 0 then ((t.1, []), t.2) else if (syncD (nmJ x.1.1) t.2).1 ≠ 0 then (((syncD (nmJ x.1.1) t.2).1, []), (syncD (nmJ x.1.1) t.2).2) else ((0, x.1.2), (syncD (nmJ x.1.1) t.2).2) := by
    unfold segD
    rw [if_neg (by rw [hread]; simp)]
    simp only
    rw [← et, hread]
    simp only
    rw [hrec]
  have ht : (t.1 = 0 ∧ Fine d t.2 (A ++ fileX (clr x) :: B) ∧ t.2.Ok) ∨ (Gone d t.2 ∧ t.1 = 20 ∧ t.2.files = A ++ fileX x :: B) := by
    rw [hread] at et
    simp only at et
    rw [hrec] at et
    simp only at et
    split at et
    · rename_i hlt
      have hD := did_trunc (k := (framesB x.1.2).length) ho hnm hg (by simp [fileX, Fl.len])
      have hok2 := (trunc_ok (n := nmJ x.1.1) (k := ((framesB x.1.2).length : Nat)) hok).1
      rw [← et] at hD hok2
      rcases hD with ⟨h1, h2, h3, h4, h5, h6⟩ | ⟨h1, h2, h3, h4, h5⟩
      · refine .inl ⟨h1, ⟨?_, h3, h4, h5, h6⟩, hok2⟩
        rw [h2, hf]
        refine (putF_mid hR (by rfl)).trans ?_
        simp [fileX, clr]
      · exact .inr ⟨⟨h1, h3, h5⟩, h2, by rw [h4, off_still hw, hf]⟩
    · rename_i hlt
      have h0 : x.2 = [] := by
        rw [List.length_append] at hlt
        exact List.length_eq_zero_iff.1 (by omega)
      have hcx : clr x = x := by
        obtain ⟨⟨a, b⟩, c⟩ := x
        simp only at h0
        subst h0
        rfl
      rw [et, hcx]
      exact .inl ⟨rfl, ⟨hf, ho, rfl, rfl, fun h => h⟩, hok⟩
  rcases ht with ⟨h1, h2, hok2⟩ | ⟨h1, h2, h3⟩
  · have hR2 := rise_mid hR (fileX_clr x)
    have hg2 : getF t.2.files (nmJ x.1.1) = some (fileX (clr x)) := by rw [h2.fl]; exact getF_mid hR2
    have hD := did_sync h2.on hnm hg2
    have hput : putF ⟨nmJ x.1.1, (fileX (clr x)).safe ++ (fileX (clr x)).wait, []⟩ t.2.files = A ++ fileX (clr x) :: B := by
      rw [h2.fl]
      refine (putF_mid hR2 (by rfl)).trans ?_
      simp [fileX, clr]
    have hw2 : ∀ f ∈ t.2.files, f.wait = [] := by
      intro f hf2
      rw [h2.fl] at hf2
      rcases List.mem_append.1 hf2 with h | h
      · exact hw f (by rw [hf]; simp [h])
      · rcases List.mem_cons.1 h with rfl | h
        · rfl
        · exact hw f (by rw [hf]; simp [h])
    obtain ⟨y, ey⟩ : ∃ y, y = syncD (nmJ x.1.1) t.2 := ⟨_, rfl⟩
    rw [← ey] at hD hseg
    rcases hD with ⟨g1, g2, g3, g4, g5, g6⟩ | ⟨g1, g2, g3, g4, g5⟩
    · left
      have e : segD (nmJ x.1.1) d = ((0, x.1.2), y.2) := by rw [hseg, if_neg (by omega), if_neg (by omega)]
      rw [e]
      exact ⟨rfl, by rw [← hput]; exact g2, g3, g4.trans h2.room, g5.trans h2.keep, fun h => g6 (h2.arm h)⟩
    · right
      have e : segD (nmJ x.1.1) d = ((y.1, []), y.2) := by rw [hseg, if_neg (by omega), if_pos (by omega)]
      rw [e]
      exact ⟨⟨fun h => g1 (h2.arm h), g3, g5.trans h2.room⟩, g2, .inr (by rw [g4, off_still hw2, h2.fl])⟩
  · right
    have e : segD (nmJ x.1.1) d = ((t.1, []), t.2) := by rw [hseg, if_pos (by omega)]
    rw [e]
    exact ⟨h1, h2, .inl h3⟩
/-! ### Opening -/
/-- Each begins where the one ahead of it ends. -/
def Chn : Nat → List FJ → Prop
  | _, [] => True
  | a, x :: B => x.1.1 = a ∧ Chn (a + x.1.2.length) B
def flat (B : List FJ) : List (List UInt8) := (B.map fun x => x.1.2).flatten
theorem flat_cons (x : FJ) (B : List FJ) : flat (x :: B) = x.1.2 ++ flat B := rfl
theorem flat_app (A B : List FJ) : flat (A ++ B) = flat A ++ flat B := by simp [flat]
/-- The same segments, some of them with nothing behind. -/
def Cl (B C : List FJ) : Prop := C.map Prod.fst = B.map Prod.fst ∧ ∀ x ∈ C, x.2 = [] ∨ x ∈ B
theorem Cl.refl (B : List FJ) : Cl B B := ⟨rfl, fun x hx => .inr hx⟩
theorem Cl.cons {B C : List FJ} {x y : FJ} (h : Cl B C) (he : y = x ∨ y = clr x) : Cl (x :: B) (y :: C) := by
  refine ⟨?_, fun z hz => ?_⟩
  · simp only [List.map_cons, h.1]
    rcases he with rfl | rfl <;> rfl
  · rcases List.mem_cons.1 hz with rfl | hz
    · rcases he with rfl | rfl
      · exact .inr (by simp)
      · exact .inl rfl
    · rcases h.2 z hz with h | h
      · exact .inl h
      · exact .inr (List.mem_cons_of_mem _ h)
theorem Cl.all (B : List FJ) : Cl B (B.map clr) := by
  refine ⟨by rw [List.map_map]; rfl, fun x hx => .inl ?_⟩
  obtain ⟨y, hy, rfl⟩ := List.mem_map.1 hx
  rfl
theorem Cl.good {B C : List FJ} (h : Cl B C) (hB : ∀ x ∈ B, GoodX x) : ∀ x ∈ C, GoodX x := by
  intro x hx
  have h1 : x.1 ∈ B.map Prod.fst := by rw [← h.1]; exact List.mem_map_of_mem hx
  obtain ⟨y, hy, he⟩ := List.mem_map.1 h1
  have gy := hB y hy
  rcases h.2 x hx with h2 | h2
  · exact ⟨by rw [← he]; exact gy.lo, by rw [← he]; exact gy.hi, by rw [h2]; exact Stub.nil, by rw [← he]; exact gy.small⟩
  · exact hB x h2
def thru (s : OpS) (B : List FJ) : OpS := B.foldl (fun s x => s.more x.1.1 x.1.2) s
theorem thru_recs : ∀ (B : List FJ) (s : OpS), (thru s B).recs = s.recs ++ flat B
  | [], s => by simp [thru, flat]
  | x :: B, s => by
    have := thru_recs B (s.more x.1.1 x.1.2)
    unfold thru at this ⊢
    rw [List.foldl_cons, this, flat_cons]
    simp [OpS.more]
theorem thru_first : ∀ (B : List FJ) (s : OpS), s.first ≠ 0 → (thru s B).first = s.first
  | [], s, _ => rfl
  | x :: B, s, h => by
    have e : (s.more x.1.1 x.1.2).first = s.first := by simp [OpS.more, h]
    have := thru_first B (s.more x.1.1 x.1.2) (by rw [e]; exact h)
    unfold thru at this ⊢
    rw [List.foldl_cons, this, e]
theorem thru_from (x : FJ) (B : List FJ) (h : 1 ≤ x.1.1) : (thru op0 (x :: B)).from = x.1.1 := by
  have e : (op0.more x.1.1 x.1.2).first = x.1.1 := by simp [OpS.more, op0]
  have e2 : (thru op0 (x :: B)).first = x.1.1 := by
    have := thru_first B (op0.more x.1.1 x.1.2) (by omega)
    unfold thru at this ⊢
    rw [List.foldl_cons, this, e]
  unfold OpS.from
  rw [e2, if_neg (by omega)]
theorem Fine.trans {d d1 d2 : Dk} {F G : List Fl} (h : Fine d d1 F) (h2 : Fine d1 d2 G) : Fine d d2 G := ⟨h2.fl, h2.on, h2.room.trans h.room, h2.keep.trans h.keep, fun a => h2.arm (h.arm a)⟩
theorem waits {A : List Fl} {B : List FJ} (hA : ∀ f ∈ A, f.wait = []) : ∀ f ∈ A ++ B.map fileX, f.wait = [] := by
  intro f hf
  rcases List.mem_append.1 hf with h | h
  · exact hA f h
  · obtain ⟨x, _, rfl⟩ := List.mem_map.1 h
    rfl
theorem open_core : ∀ (B : List FJ) (A : List Fl) (a : Nat) (s : OpS) (d : Dk), d.Ok → d.on = true → d.files = A ++ B.map fileX → (∀ f ∈ A, f.wait = []) → (∀ x ∈ B, GoodX x) → s.brk = false → Chn a B → (s.first = 0 ∨ s.next = a) →
    ((openL (B.map fun x => nmJ x.1.1) s d).1 = (0, thru s B) ∧ Fine d (openL (B.map fun x => nmJ x.1.1) s d).2 (A ++ (B.map clr).map fileX)) ∨ (Gone d (openL (B.map fun x => nmJ x.1.1) s d).2 ∧ (openL (B.map fun x => nmJ x.1.1) s d).1.1 = 20 ∧ ∃ C, Cl B C ∧ (openL (B.map fun x => nmJ x.1.1) s d).2.files = A ++ C.map fileX)
  | [], A, a, s, d, hok, ho, hf, hw, hB, hb, hc, hs => .inl ⟨rfl, by rw [List.map_nil, List.map_nil]; exact ⟨hf, ho, rfl, rfl, fun h => h⟩⟩
  | x :: B, A, a, s, d, hok, ho, hf, hw, hB, hb, hc, hs => by
    have hx := hB x (by simp)
    have hn := nmJ_num hx.hi
    have hlo := hx.lo
    have hsk : ¬ s.skips (numW (nmJ x.1.1)) := by
      rw [hn]
      rintro ⟨h1, h2 | h2⟩
      · rw [hb] at h2; cases h2
      · rcases hs with h | h
        · omega
        · exact h2 (by rw [h]; exact hc.1)
    have hs1 := seg_core hok ho (by rw [hf, List.map_cons]) (by rw [hf]; exact waits hw) hx
    have hok1 := (seg_ok (n := nmJ x.1.1) hok).1
    obtain ⟨y, ey⟩ : ∃ y, y = segD (nmJ x.1.1) d := ⟨_, rfl⟩
    have hL : openL ((x :: B).map fun x => nmJ x.1.1) s d = if y.1.1 ≠ 0 then ((y.1.1, s), y.2) else openL (B.map fun x => nmJ x.1.1) (s.more x.1.1 y.1.2) y.2 := by
      rw [List.map_cons, openL, if_neg (by rw [hn]; omega), if_neg hsk, hn, ← ey]
    rw [← ey] at hs1 hok1
    rcases hs1 with ⟨h1, h2⟩ | ⟨h1, h2, h3⟩
    · have e0 : y.1.1 = 0 := by rw [h1]
      have e1 : y.1.2 = x.1.2 := by rw [h1]
      rw [if_neg (by omega), e1] at hL
      have ih := open_core B (A ++ [fileX (clr x)]) (a + x.1.2.length) (s.more x.1.1 x.1.2) y.2 hok1 h2.on (by rw [h2.fl]; simp) (fun f hf => by
        rcases List.mem_append.1 hf with h | h
        · exact hw f h
        · rw [List.mem_singleton.1 h]; rfl) (fun z hz => hB z (List.mem_cons_of_mem _ hz)) hb hc.2 (.inr (by simp [OpS.more, hc.1]))
      rw [← hL] at ih
      rcases ih with ⟨g1, g2⟩ | ⟨g1, g2, C, g3, g4⟩
      · left
        refine ⟨g1, ?_⟩
        have := h2.trans g2
        simpa using this
      · right
        refine ⟨⟨fun h => g1.arm (h2.arm h), g1.off, g1.room.trans h2.room⟩, g2, clr x :: C, g3.cons (.inr rfl), ?_⟩
        rw [g4]
        simp
    · right
      rw [if_pos (by omega)] at hL
      rw [hL]
      refine ⟨h1, h2, ?_⟩
      rcases h3 with h3 | h3
      · exact ⟨x :: B, Cl.refl _, h3⟩
      · exact ⟨clr x :: B, (Cl.refl B).cons (.inr rfl), h3⟩
/-- A journal's files. -/
structure Lies (d : Dk) (B : List FJ) : Prop where
  ok : d.Ok
  fl : d.files = B.map fileX
  good : ∀ x ∈ B, GoodX x
theorem Lies.names {d : Dk} {B : List FJ} (h : Lies d B) (ho : d.on = true) : namesD d = B.map fun x => nmJ x.1.1 := by
  unfold namesD
  rw [if_pos ho, h.fl, List.map_map]
  rfl
theorem Lies.same {d d2 : Dk} {B : List FJ} (h : Lies d B) (hok : d2.Ok) (hf : d2.files = d.files) : Lies d2 B := ⟨hok, hf.trans h.fl, h.good⟩
theorem open_okJ : ∀ (l : List (List UInt8)) (s : OpS) (d : Dk), d.Ok → (openL l s d).2.Ok ∧ (openL l s d).2.writes ≤ d.writes + 2 * l.length
  | [], s, d, h => ⟨h, by simp [openL]⟩
  | x :: l, s, d, h => by
    rw [openL, List.length_cons]
    have hr := remove_ok (n := x) h
    have hs := seg_ok (n := x) h
    split
    · have := open_okJ l s d h
      exact ⟨this.1, by omega⟩
    split
    · split
      · exact ⟨hr.1, by simp only; omega⟩
      · have := open_okJ l { s with brk := true } _ hr.1
        exact ⟨this.1, by omega⟩
    · split
      · exact ⟨hs.1, by simp only; omega⟩
      · have := open_okJ l (s.more (numW x) (segD x d).1.2) _ hs.1
        exact ⟨this.1, by omega⟩
theorem openD_ok {per : Int} {d : Dk} (h : d.Ok) : (openD per d).2.Ok ∧ (openD per d).2.writes ≤ d.writes + 32 := by
  have h16 := namesD_len h
  have := open_okJ (namesD d) op0 d h
  unfold openD
  split
  · exact ⟨h, by simp only; omega⟩
  split
  · exact ⟨h, by simp only; omega⟩
  · exact ⟨this.1, by omega⟩
/-- Opening a journal whose files stand in their order. -/
theorem Lies.open {d : Dk} {B : List FJ} {a : Nat} {per : Int} (h : Lies d B) (ho : d.on = true) (hc : Chn a B) (hp : 1 ≤ per) :
    ((openD per d).1 = (0, thru op0 B) ∧ Fine d (openD per d).2 ((B.map clr).map fileX) ∧ Lies (openD per d).2 (B.map clr)) ∨ (Gone d (openD per d).2 ∧ (openD per d).1.1 = 20 ∧ ∃ C, Cl B C ∧ Lies (openD per d).2 C) := by
  have hD : openD per d = openL (B.map fun x => nmJ x.1.1) op0 d := by
    unfold openD
    rw [if_neg (by omega), if_neg (by rw [ho]; simp), h.names ho]
  have hok := (openD_ok (per := per) h.ok).1
  have hx := open_core B [] a op0 d h.ok ho (by rw [h.fl]; rfl) (fun f hf => by cases hf) h.good rfl hc (.inl rfl)
  rw [← hD] at hx
  rcases hx with ⟨h1, h2⟩ | ⟨h1, h2, C, h3, h4⟩
  · rw [List.nil_append] at h2
    exact .inl ⟨h1, h2, hok, h2.fl, (Cl.all B).good h.good⟩
  · exact .inr ⟨h1, h2, C, h3, hok, by rw [h4, List.nil_append], h3.good h.good⟩
/-! ### Appending -/
def keepS (S : List Seg) : List FJ := S.map fun s => (s, [])
/-- The last segment stands there only if it has a record. -/
def lastJ (n : Nat) (l : List (List UInt8)) : List FJ := if l = [] then [] else [((n, l), [])]
def flJ (S : List Seg) (n : Nat) (l : List (List UInt8)) : List FJ := keepS S ++ lastJ n l
theorem flat_last (n : Nat) (l : List (List UInt8)) : flat (lastJ n l) = l := by
  unfold lastJ
  split
  · rename_i h; rw [h]; rfl
  · simp [flat]
theorem chn_app : ∀ (A B : List FJ) (a : Nat), Chn a (A ++ B) ↔ Chn a A ∧ Chn (a + (flat A).length) B
  | [], B, a => by simp [Chn, flat]
  | x :: A, B, a => by
    rw [List.cons_append, Chn, Chn, chn_app A B, flat_cons, List.length_append, and_assoc, Nat.add_assoc]
/-- An open journal at rest: full segments, the last one. -/
structure CalmJ (d : Dk) (per : Int) (S : List Seg) (n : Nat) (l : List (List UInt8)) : Prop where
  lies : Lies d (flJ S n l)
  on : d.on = true
  chn : Chn 1 (keepS S)
  nx : n = 1 + (flat (keepS S)).length
  full : ∀ s ∈ S, (s.2.length : Int) = per
  most : (l.length : Int) ≤ per
  p1 : 1 ≤ per
  small : ∀ r ∈ l, r.length ≤ 65536
def recJ (S : List Seg) (l : List (List UInt8)) : List (List UInt8) := flat (keepS S) ++ l
theorem CalmJ.flatIs {d : Dk} {per : Int} {S : List Seg} {n : Nat} {l : List (List UInt8)} (h : CalmJ d per S n l) : flat (flJ S n l) = recJ S l := by
  unfold flJ recJ
  rw [flat_app, flat_last]
theorem CalmJ.chain {d : Dk} {per : Int} {S : List Seg} {n : Nat} {l : List (List UInt8)} (h : CalmJ d per S n l) : Chn 1 (flJ S n l) := by
  unfold flJ
  rw [chn_app]
  refine ⟨h.chn, ?_⟩
  rw [← h.nx]
  unfold lastJ
  split
  · trivial
  · exact ⟨rfl, trivial⟩
theorem chn_lt : ∀ (S : List Seg) (a : Nat), Chn a (keepS S) → (∀ s ∈ S, 1 ≤ s.2.length) → ∀ s ∈ S, a ≤ s.1 ∧ s.1 + s.2.length ≤ a + (flat (keepS S)).length
  | [], _, _, _, s, hs => by cases hs
  | x :: S, a, hc, h1, s, hs => by
    have hc : Chn a ((x, []) :: keepS S) := hc
    have ef : flat (keepS (x :: S)) = x.2 ++ flat (keepS S) := rfl
    rw [ef, List.length_append]
    have hx : x.1 = a := hc.1
    rcases List.mem_cons.1 hs with rfl | hs
    · omega
    · have := chn_lt S _ hc.2 (fun s hs => h1 s (List.mem_cons_of_mem _ hs)) s hs
      simp only at this
      omega
/-- The same journal, the segment that takes the next record being the last. -/
structure Turn (d : Dk) (per : Int) (S : List Seg) (n : Nat) (l : List (List UInt8)) (S1 : List Seg) (n1 : Nat) (l1 : List (List UInt8)) : Prop where
  calm : CalmJ d per S1 n1 l1
  room : (l1.length : Int) < per
  same : recJ S1 l1 = recJ S l
  nx : n1 + l1.length = n + l.length
def turnJ (per : Int) (S : List Seg) (n : Nat) (l : List (List UInt8)) : List Seg × Nat × List (List UInt8) := if per ≤ (l.length : Int) then (S ++ [(n, l)], n + l.length, []) else (S, n, l)
theorem CalmJ.turn {d : Dk} {per : Int} {S : List Seg} {n : Nat} {l : List (List UInt8)} (h : CalmJ d per S n l) : Turn d per S n l (turnJ per S n l).1 (turnJ per S n l).2.1 (turnJ per S n l).2.2 := by
  have hm := h.most
  have hp := h.p1
  unfold turnJ
  split
  · rename_i hl
    have hne : l ≠ [] := by rintro rfl; simp at hl; omega
    have ek : keepS (S ++ [(n, l)]) = keepS S ++ [((n, l), [])] := by simp [keepS]
    have e1 : flJ (S ++ [(n, l)]) (n + l.length) [] = flJ S n l := by
      unfold flJ lastJ
      rw [if_pos rfl, if_neg hne, ek, List.append_nil]
    have e2 : flat (keepS (S ++ [(n, l)])) = flat (keepS S) ++ l := by rw [ek, flat_app]; simp [flat]
    refine ⟨⟨by simp only; rw [e1]; exact h.lies, h.on, ?_, ?_, ?_, by simp; omega, hp, by simp⟩, by simp; omega, ?_, by simp⟩
    · simp only
      rw [ek, chn_app]
      exact ⟨h.chn, by rw [← h.nx]; exact ⟨rfl, trivial⟩⟩
    · simp only
      rw [e2, List.length_append, h.nx]; omega
    · intro s hs
      simp only at hs
      rcases List.mem_append.1 hs with hs | hs
      · exact h.full s hs
      · rw [List.mem_singleton.1 hs]; simp only; omega
    · unfold recJ
      simp only
      rw [e2, List.append_nil]
  · rename_i hl
    exact ⟨h, by simp only; omega, rfl, rfl⟩
theorem names_lt {d : Dk} {per : Int} {S : List Seg} {n : Nat} {l : List (List UInt8)} (h : CalmJ d per S n l) (hn : n < 1000000000) : ∀ f ∈ (keepS S).map fileX, f.name < nmJ n := by
  intro f hf
  rw [List.mem_map] at hf
  obtain ⟨x, hx, rfl⟩ := hf
  obtain ⟨s, hs, rfl⟩ := List.mem_map.1 hx
  have hp := h.p1
  have := chn_lt S 1 h.chn (fun s hs => by have := h.full s hs; omega) s hs
  have h2 := h.full s hs
  have h3 := h.nx
  exact nmJ_lt (by simp only; omega) hn
def putJ (n e : List UInt8) (d : Dk) : Nat × Dk := if (appendD n e d).1 = 0 then syncD n (appendD n e d).2 else appendD n e d
theorem appW_is {b : List UInt8} {j : Jn} {d : Dk} (hb : b.length ≤ 65536) (hs : j.sick = 0) (hlo : 1 ≤ j.to) (hhi : j.to < 1000000000) (y : Nat × Dk) (hy : y = putJ (nmJ j.to) (frameB b) d) :
    appW b j d = if (appendD (nmJ j.to) (frameB b) d).1 = 3 ∨ (appendD (nmJ j.to) (frameB b) d).1 = 22 then ((0, 22), j, (appendD (nmJ j.to) (frameB b) d).2) else
      if y.1 ≠ 0 then ((0, y.1), { j with sick := y.1 }, y.2) else ((j.next, 0), { j with wf := j.to, next := j.next + 1 }, y.2) := by
  have e : nameP 106 1 (j.to : Nat) = nmJ j.to := nmJ_name hlo hhi
  subst hy
  unfold appW putJ
  rw [if_neg (by omega), if_neg (by omega), e, if_neg (by simp [nmJ])]
def szR (l : List (List UInt8)) : Nat := (l.map fun r => 8 + r.length).sum
theorem szR_app (a b : List (List UInt8)) : szR (a ++ b) = szR a + szR b := by simp [szR]
theorem framesB_size : ∀ l : List (List UInt8), (framesB l).length = szR l
  | [] => rfl
  | r :: l => by
    have := framesB_size l
    rw [framesB_cons, List.length_append, frameB_len, this]
    simp [szR]
theorem sizeD_app (a b : List Fl) : sizeD (a ++ b) = sizeD a + sizeD b := by simp [sizeD]
theorem size_keep : ∀ S : List Seg, sizeD ((keepS S).map fileX) = szR (flat (keepS S))
  | [] => rfl
  | s :: S => by
    have ih := size_keep S
    have e1 : sizeD ((keepS (s :: S)).map fileX) = (fileX (s, [])).len + sizeD ((keepS S).map fileX) := by simp [sizeD, keepS]
    have e2 : flat (keepS (s :: S)) = s.2 ++ flat (keepS S) := rfl
    rw [e1, e2, ih, szR_app]
    simp [fileX, Fl.len, framesB_size]
theorem size_flJ (S : List Seg) (n : Nat) (l : List (List UInt8)) : sizeD ((flJ S n l).map fileX) = szR (recJ S l) := by
  unfold flJ recJ
  rw [List.map_append, sizeD_app, size_keep, szR_app]
  unfold lastJ
  split
  · rename_i h; subst h; rfl
  · simp [sizeD, fileX, Fl.len, framesB_size]
/-- The last segment, with more bytes. -/
def lastF (S : List Seg) (n : Nat) (l : List (List UInt8)) (w : List UInt8) : List Fl := (keepS S).map fileX ++ [⟨nmJ n, framesB l, w⟩]
theorem CalmJ.get {d : Dk} {per : Int} {S : List Seg} {n : Nat} {l : List (List UInt8)} (h : CalmJ d per S n l) (hn : n < 1000000000) : (getF d.files (nmJ n)).getD ⟨nmJ n, [], []⟩ = ⟨nmJ n, framesB l, []⟩ ∧ ((getF d.files (nmJ n)).isNone = true → l = []) := by
  have hlt := names_lt h hn
  by_cases hl : l = []
  · subst hl
    have hf : d.files = (keepS S).map fileX := by rw [h.lies.fl]; simp [flJ, lastJ]
    have hg : getF d.files (nmJ n) = none := by
      rw [hf]
      exact getF_no fun f hf => ne_of_lt' (hlt f hf)
    rw [hg]
    exact ⟨rfl, fun _ => rfl⟩
  · have hf : d.files = (keepS S).map fileX ++ fileX ((n, l), []) :: [] := by rw [h.lies.fl]; simp [flJ, lastJ, hl]
    have hR : Rise ((keepS S).map fileX ++ fileX ((n, l), []) :: []) := by rw [← hf]; exact h.lies.ok.rise
    have hg : getF d.files (nmJ n) = some (fileX ((n, l), [])) := by rw [hf]; exact getF_mid hR
    rw [hg]
    exact ⟨by simp [fileX], fun h => by simp at h⟩
theorem CalmJ.put {d : Dk} {per : Int} {S : List Seg} {n : Nat} {l : List (List UInt8)} (h : CalmJ d per S n l) (hn : n < 1000000000) {x : Fl} (hx : x.name = nmJ n) : putF x d.files = (keepS S).map fileX ++ [x] := by
  have hlt := names_lt h hn
  by_cases hl : l = []
  · subst hl
    have hf : d.files = (keepS S).map fileX := by rw [h.lies.fl]; simp [flJ, lastJ]
    rw [hf]
    exact putF_last fun f hf => by rw [hx]; exact hlt f hf
  · have hf : d.files = (keepS S).map fileX ++ fileX ((n, l), []) :: [] := by rw [h.lies.fl]; simp [flJ, lastJ, hl]
    have hR : Rise ((keepS S).map fileX ++ fileX ((n, l), []) :: []) := by rw [← hf]; exact h.lies.ok.rise
    rw [hf]
    exact putF_mid hR hx
theorem CalmJ.append {d : Dk} {per : Int} {S : List Seg} {n : Nat} {l : List (List UInt8)} {b : List UInt8} (h : CalmJ d per S n l) (hn : n < 1000000000) (hs : szR (recJ S l) + (8 + b.length) ≤ 1048576) (hfew : l = [] → d.files.length < 16) :
    (d.room < ((szR (recJ S l) + (8 + b.length) : Nat) : Int) ∧ appendD (nmJ n) (frameB b) d = (22, d)) ∨ (((szR (recJ S l) + (8 + b.length) : Nat) : Int) ≤ d.room ∧ Did d (lastF S n l (frameB b)) (lastF S n l (frameB b)) (appendD (nmJ n) (frameB b) d)) := by
  obtain ⟨hg, hnone⟩ := h.get hn
  have hput : putF ⟨nmJ n, framesB l, frameB b⟩ d.files = lastF S n l (frameB b) := h.put hn rfl
  have hsz : sizeD d.files = szR (recJ S l) := by rw [h.lies.fl, size_flJ]
  have hfl := frameB_len b
  have hll : (framesB l).length ≤ szR (recJ S l) := by
    rw [framesB_size]
    unfold recJ
    rw [szR_app]; omega
  obtain ⟨g, eg⟩ : ∃ g, g = getF d.files (nmJ n) := ⟨_, rfl⟩
  rw [← eg] at hg hnone
  have hready : ¬ readyD d (nmJ n) ≠ 0 := by rw [readyD_yes (nmJ_named n) h.on]; simp
  have happ : appendD (nmJ n) (frameB b) d = if d.room < ((szR (recJ S l) + (8 + b.length) : Nat) : Int) then (22, d) else if (rawD { d with files := lastF S n l (frameB b) }).1 = true then (20, offD d.keep (rawD { d with files := lastF S n l (frameB b) }).2) else (0, (rawD { d with files := lastF S n l (frameB b) }).2) := by
    unfold appendD
    rw [if_neg hready, ← eg]
    simp only
    rw [hg]
    simp only [List.nil_append]
    rw [if_neg (by simp only [Fl.len, List.length_nil]; omega), hput, hsz, hfl]
    by_cases hr : d.room < ((szR (recJ S l) + (8 + b.length) : Nat) : Int)
    · rw [if_pos (.inr hr), if_pos hr]
    · rw [if_neg (by
        rintro (h | h)
        · have := hfew (hnone h.1)
          omega
        · exact hr h), if_neg hr]
  by_cases hr : d.room < ((szR (recJ S l) + (8 + b.length) : Nat) : Int)
  · rw [if_pos hr] at happ
    exact .inl ⟨hr, happ⟩
  · right
    refine ⟨by omega, ?_⟩
    rw [if_neg hr] at happ
    obtain ⟨r1, r2, r3, r4, r5⟩ := raw_files { d with files := lastF S n l (frameB b) }
    rw [happ]
    rcases raw_two { d with files := lastF S n l (frameB b) } with ⟨h1, h2⟩ | ⟨h1, h2⟩
    · rw [if_neg (by rw [h1]; simp)]
      exact .inl ⟨rfl, r1, r4.trans h.on, r3, r2, h2⟩
    · rw [if_pos h2]
      obtain ⟨o1, o2, o3⟩ := off_on (k := d.keep) (d := (rawD { d with files := lastF S n l (frameB b) }).2) (r4.trans h.on)
      exact .inr ⟨h1, rfl, o1, by rw [o2, r1], o3.trans r3⟩
def jnJ (per : Int) (n : Nat) (l : List (List UInt8)) : Jn := ⟨per, n, n + l.length, 0⟩
theorem stub_take (b : List UInt8) (k : Nat) (hb : b.length ≤ 65536) : Stub ((frameB b).take k) ∨ (frameB b).take k = frameB b := by
  by_cases h : k < (frameB b).length
  · left
    refine ⟨b, hb, ⟨(frameB b).drop k, List.take_append_drop _ _⟩, ?_⟩
    rw [List.length_take]
    rw [frameB_len] at h ⊢
    omega
  · exact .inr (List.take_of_length_le (by omega))
theorem wait_keep (S : List Seg) : ∀ f ∈ (keepS S).map fileX, f.wait = [] := by
  intro f hf
  obtain ⟨x, _, rfl⟩ := List.mem_map.1 hf
  rfl
theorem off_lastF (S : List Seg) (n : Nat) (l : List (List UInt8)) (w : List UInt8) (k : Int) : (lastF S n l w).map (offF k) = (keepS S ++ [((n, l), w.take k.toNat)]).map fileX := by
  unfold lastF
  rw [List.map_append, List.map_append, off_still (wait_keep S)]
  rfl
theorem lies_goodS {d : Dk} {S : List Seg} {n : Nat} {l : List (List UInt8)} (h : Lies d (flJ S n l)) : ∀ x ∈ keepS S, GoodX x := fun x hx => h.good x (by unfold flJ; simp [hx])
/-- Behind the power's going while a record was being written. -/
theorem CalmJ.lost {d d2 : Dk} {per : Int} {S : List Seg} {n : Nat} {l : List (List UInt8)} {b : List UInt8} {k : Int} (h : CalmJ d per S n l) (hn : n < 1000000000) (hb : b.length ≤ 65536) (hok : d2.Ok) (hf : d2.files = (lastF S n l (frameB b)).map (offF k)) :
    ∃ B, Lies d2 B ∧ Chn 1 B ∧ (flat B = recJ S l ∨ flat B = recJ S l ++ [b]) := by
  have hS := lies_goodS h.lies
  have h1 : 1 ≤ n := by rw [h.nx]; omega
  rw [off_lastF] at hf
  rcases stub_take b k.toNat hb with hs | hs
  · refine ⟨_, ⟨hok, hf, ?_⟩, ?_, .inl ?_⟩
    · intro x hx
      rcases List.mem_append.1 hx with hx | hx
      · exact hS x hx
      · rw [List.mem_singleton.1 hx]
        exact ⟨h1, hn, hs, h.small⟩
    · rw [chn_app]
      exact ⟨h.chn, by rw [← h.nx]; exact ⟨rfl, trivial⟩⟩
    · rw [flat_app]; simp [flat, recJ]
  · have e : (keepS S ++ [((n, l), (frameB b).take k.toNat)]).map fileX = (keepS S ++ [((n, l ++ [b]), [])]).map fileX := by
      rw [hs, List.map_append, List.map_append]
      simp [fileX, framesB_snoc]
    rw [e] at hf
    refine ⟨_, ⟨hok, hf, ?_⟩, ?_, .inr ?_⟩
    · intro x hx
      rcases List.mem_append.1 hx with hx | hx
      · exact hS x hx
      · rw [List.mem_singleton.1 hx]
        refine ⟨h1, hn, Stub.nil, fun r hr => ?_⟩
        rcases List.mem_append.1 hr with hr | hr
        · exact h.small r hr
        · rw [List.mem_singleton.1 hr]; exact hb
    · rw [chn_app]
      exact ⟨h.chn, by rw [← h.nx]; exact ⟨rfl, trivial⟩⟩
    · rw [flat_app]; simp [flat, recJ]
/-- A record is written into the last segment. -/
theorem CalmJ.write {d : Dk} {per : Int} {S : List Seg} {n : Nat} {l : List (List UInt8)} {b : List UInt8} (h : CalmJ d per S n l) (hn : n < 1000000000) (hb : b.length ≤ 65536) (hl : (l.length : Int) < per) (hs : szR (recJ S l) + (8 + b.length) ≤ 1048576) (hfew : l = [] → d.files.length < 16) (hr : ((szR (recJ S l) + (8 + b.length) : Nat) : Int) ≤ d.room) :
    ((putJ (nmJ n) (frameB b) d).1 = 0 ∧ CalmJ (putJ (nmJ n) (frameB b) d).2 per S n (l ++ [b]) ∧ Fine d (putJ (nmJ n) (frameB b) d).2 ((flJ S n (l ++ [b])).map fileX)) ∨
    (Gone d (putJ (nmJ n) (frameB b) d).2 ∧ (putJ (nmJ n) (frameB b) d).1 = 20 ∧ ∃ B, Lies (putJ (nmJ n) (frameB b) d).2 B ∧ Chn 1 B ∧ (flat B = recJ S l ∨ flat B = recJ S l ++ [b])) := by
  have hA := h.append (b := b) hn hs hfew
  have hokA := (append_ok (n := nmJ n) (b := frameB b) h.lies.ok).1
  obtain ⟨y, ey⟩ : ∃ y, y = appendD (nmJ n) (frameB b) d := ⟨_, rfl⟩
  have hput : putJ (nmJ n) (frameB b) d = if y.1 = 0 then syncD (nmJ n) y.2 else y := by unfold putJ; rw [← ey]
  rw [← ey] at hA hokA
  rcases hA with ⟨hlt, _⟩ | ⟨_, hA⟩
  · omega
  rcases hA with ⟨g1, g2, g3, g4, g5, g6⟩ | ⟨g1, g2, g3, g4, g5⟩
  · rw [if_pos g1] at hput
    have hR : Rise ((keepS S).map fileX ++ (⟨nmJ n, framesB l, frameB b⟩ : Fl) :: []) := by
      have := hokA.rise
      rw [g2] at this
      exact this
    have hgf : getF y.2.files (nmJ n) = some ⟨nmJ n, framesB l, frameB b⟩ := by rw [g2]; exact getF_mid hR
    have hD := did_sync g3 (nmJ_named n) hgf
    have hok2 := (sync_ok (n := nmJ n) hokA).1
    have e1 : putF ⟨nmJ n, framesB l ++ frameB b, []⟩ y.2.files = (flJ S n (l ++ [b])).map fileX := by
      rw [g2]
      refine (putF_mid hR (by rfl)).trans ?_
      unfold flJ lastJ
      rw [if_neg (by simp), List.map_append]
      simp [fileX, framesB_snoc]
    rw [hput]
    simp only at hD
    rw [e1] at hD
    rcases hD with ⟨k1, k2, k3, k4, k5, k6⟩ | ⟨k1, k2, k3, k4, k5⟩
    · left
      refine ⟨k1, ⟨⟨hok2, k2, ?_⟩, k3, h.chn, h.nx, h.full, by rw [List.length_append]; simp; omega, h.p1, fun r hr => ?_⟩, k2, k3, k4.trans g4, k5.trans g5, fun a => k6 (g6 a)⟩
      · intro x hx
        rcases List.mem_append.1 hx with hx | hx
        · exact lies_goodS h.lies x hx
        · unfold lastJ at hx
          rw [if_neg (by simp)] at hx
          rw [List.mem_singleton.1 hx]
          refine ⟨by rw [h.nx]; simp only; omega, hn, Stub.nil, fun r hr => ?_⟩
          rcases List.mem_append.1 hr with hr | hr
          · exact h.small r hr
          · rw [List.mem_singleton.1 hr]; exact hb
      · rcases List.mem_append.1 hr with hr | hr
        · exact h.small r hr
        · rw [List.mem_singleton.1 hr]; exact hb
    · right
      refine ⟨⟨fun a => k1 (g6 a), k3, k5.trans g4⟩, k2, h.lost hn hb hok2 (k := y.2.keep) ?_⟩
      rw [k4, g2]
  · right
    rw [if_neg (by omega)] at hput
    rw [hput]
    exact ⟨⟨g1, g3, g5⟩, g2, h.lost hn hb hokA g4⟩
theorem appW_ok {b : List UInt8} {j : Jn} {d : Dk} (h : d.Ok) : (appW b j d).2.2.Ok ∧ (appW b j d).2.2.writes ≤ d.writes + 2 := by
  have ha := append_ok (n := nameP 106 1 (j.to : Nat)) (b := frameB b) h
  have hs := sync_ok (n := nameP 106 1 (j.to : Nat)) ha.1
  obtain ⟨y, ey⟩ : ∃ y : Nat × Dk, y = (if (appendD (nameP 106 1 (j.to : Nat)) (frameB b) d).1 = 0 then syncD (nameP 106 1 (j.to : Nat)) (appendD (nameP 106 1 (j.to : Nat)) (frameB b) d).2 else appendD (nameP 106 1 (j.to : Nat)) (frameB b) d) := ⟨_, rfl⟩
  have hy : y.2.Ok ∧ y.2.writes ≤ d.writes + 2 := by
    rw [ey]
    split
    · exact ⟨hs.1, by omega⟩
    · exact ⟨ha.1, by omega⟩
  unfold appW
  split
  · exact ⟨h, by simp only; omega⟩
  split
  · exact ⟨h, by simp only; omega⟩
  split
  · exact ⟨h, by simp only; omega⟩
  simp only
  split
  · exact ⟨ha.1, by simp only; omega⟩
  rw [← ey]
  split
  · exact hy
  · exact hy
/-- A record is handed to an open journal at rest. -/
theorem CalmJ.app {d : Dk} {per : Int} {S : List Seg} {n : Nat} {l : List (List UInt8)} {b : List UInt8} (h : CalmJ d per S n l) (hn : n + l.length < 1000000000) (hb : b.length ≤ 65536) (hs : szR (recJ S l) + (8 + b.length) ≤ 1048576) (hfew : (turnJ per S n l).2.2 = [] → d.files.length < 16) :
    (d.room < ((szR (recJ S l) + (8 + b.length) : Nat) : Int) ∧ appW b (jnJ per n l) d = ((0, 22), jnJ per n l, d)) ∨
    (((szR (recJ S l) + (8 + b.length) : Nat) : Int) ≤ d.room ∧ ∃ d2, appW b (jnJ per n l) d = ((n + l.length, 0), jnJ per (turnJ per S n l).2.1 ((turnJ per S n l).2.2 ++ [b]), d2) ∧ CalmJ d2 per (turnJ per S n l).1 (turnJ per S n l).2.1 ((turnJ per S n l).2.2 ++ [b]) ∧ recJ (turnJ per S n l).1 ((turnJ per S n l).2.2 ++ [b]) = recJ S l ++ [b] ∧ d2.room = d.room ∧ d2.keep = d.keep ∧ (d.armed = 0 → d2.armed = 0)) ∨
    (Gone d (appW b (jnJ per n l) d).2.2 ∧ (appW b (jnJ per n l) d).1 = (0, 20) ∧ ∃ B, Lies (appW b (jnJ per n l) d).2.2 B ∧ Chn 1 B ∧ (flat B = recJ S l ∨ flat B = recJ S l ++ [b])) := by
  obtain ⟨T, eT⟩ : ∃ T, T = turnJ per S n l := ⟨_, rfl⟩
  have ht := h.turn
  rw [← eT] at ht hfew ⊢
  obtain ⟨S1, n1, l1⟩ := T
  simp only at ht hfew ⊢
  obtain ⟨hc, hroom, hsame, hnx⟩ := ht
  have hto : (jnJ per n l).to = n1 := by
    unfold turnJ at eT
    unfold Jn.to jnJ
    simp only
    by_cases hp : per ≤ (l.length : Int)
    · rw [if_pos hp] at eT
      rw [if_pos (by omega)]
      simp only [Prod.mk.injEq] at eT
      exact eT.2.1.symm
    · rw [if_neg hp] at eT
      rw [if_neg (by omega)]
      simp only [Prod.mk.injEq] at eT
      exact eT.2.1.symm
  have h1 : 1 ≤ n1 := by rw [hc.nx]; omega
  have hn1 : n1 < 1000000000 := by omega
  obtain ⟨y, ey⟩ : ∃ y, y = putJ (nmJ n1) (frameB b) d := ⟨_, rfl⟩
  have hW := appW_is (b := b) (j := jnJ per n l) (d := d) hb rfl (by rw [hto]; exact h1) (by rw [hto]; exact hn1) y (by rw [hto]; exact ey)
  rw [hto] at hW
  have hA := hc.append (b := b) hn1 (by rw [hsame]; exact hs) hfew
  rw [hsame] at hA
  by_cases hr : d.room < ((szR (recJ S l) + (8 + b.length) : Nat) : Int)
  · left
    rcases hA with ⟨_, hA⟩ | ⟨hA, _⟩
    · refine ⟨hr, ?_⟩
      rw [hW, hA]
      simp
    · omega
  have hne : ¬ ((appendD (nmJ n1) (frameB b) d).1 = 3 ∨ (appendD (nmJ n1) (frameB b) d).1 = 22) := by
    rcases hA with ⟨hA, _⟩ | ⟨_, hA⟩
    · exact absurd hA hr
    · rcases hA with ⟨g1, _⟩ | ⟨_, g2, _⟩ <;> omega
  rw [if_neg hne] at hW
  have hw := hc.write hn1 hb hroom (by rw [hsame]; exact hs) hfew (by rw [hsame]; omega)
  rw [← ey, hsame] at hw
  right
  rcases hw with ⟨g1, g2, g3⟩ | ⟨g1, g2, g3⟩
  · left
    refine ⟨by omega, y.2, ?_, g2, ?_, g3.room, g3.keep, g3.arm⟩
    · rw [hW, if_neg (by omega)]
      unfold jnJ
      simp only [List.length_append, List.length_cons, List.length_nil, Prod.mk.injEq, Jn.mk.injEq, true_and, and_true]
      omega
    · unfold recJ at hsame ⊢
      rw [← List.append_assoc, hsame]
  · right
    rw [if_pos (by omega)] at hW
    rw [hW]
    exact ⟨g1, by rw [g2], g3⟩
/-! ### Pruning -/
theorem pruneL_ok {below : Int} : ∀ (l : List Nat) (g : Nat) (d : Dk), d.Ok → (pruneL below l g d).2.Ok ∧ (pruneL below l g d).2.writes ≤ d.writes + l.length
  | [], g, d, h => ⟨h, by simp [pruneL]⟩
  | [a], g, d, h => ⟨h, by simp [pruneL]⟩
  | a :: b :: l, g, d, h => by
    rw [pruneL]
    have hr := remove_ok (n := nameP 106 1 (a : Nat)) h
    split
    · split
      · exact ⟨hr.1, by simp only [List.length_cons]; omega⟩
      · have := pruneL_ok (below := below) (b :: l) (g + 1) _ hr.1
        exact ⟨this.1, by simp only [List.length_cons] at this ⊢; omega⟩
    · exact ⟨h, by simp only [List.length_cons]; omega⟩
theorem startsD_len {d : Dk} (h : d.Ok) : (startsD (namesD d)).length ≤ 16 := by
  have := namesD_len h
  have h2 := List.length_filter_le (fun n => decide (0 < n)) ((namesD d).map numW)
  unfold startsD
  rw [List.length_map] at h2
  omega
theorem pruneW_ok {below : Int} {j : Jn} {d : Dk} (h : d.Ok) : (pruneW below j d).2.2.Ok ∧ (pruneW below j d).2.2.writes ≤ d.writes + 16 := by
  have hl := startsD_len h
  have hp := pruneL_ok (below := below) (startsD (namesD d)) 0 d h
  unfold pruneW
  split
  · exact ⟨h, by simp only; omega⟩
  simp only
  split
  · exact ⟨hp.1, by simp only; omega⟩
  · exact ⟨hp.1, by simp only; omega⟩
def cutN (below : Int) : List Seg → Nat
  | a :: b :: l => if (b.1 : Int) ≤ below then cutN below (b :: l) + 1 else 0
  | _ => 0
theorem keep_names {d : Dk} {B : List Seg} (ho : d.on = true) (hf : d.files = (keepS B).map fileX) : namesD d = B.map fun s => nmJ s.1 := by
  unfold namesD
  rw [if_pos ho, hf, List.map_map, keepS, List.map_map]
  rfl
theorem starts_is {B : List Seg} (hB : ∀ s ∈ B, 1 ≤ s.1 ∧ s.1 < 1000000000) : startsD (B.map fun s => nmJ s.1) = B.map Prod.fst := by
  unfold startsD
  have e : (B.map fun s => nmJ s.1).map numW = B.map Prod.fst := by
    rw [List.map_map]
    exact List.map_congr_left fun s hs => nmJ_num (hB s hs).2
  rw [e, List.filter_eq_self]
  intro n hn
  obtain ⟨s, hs, rfl⟩ := List.mem_map.1 hn
  have := hB s hs
  simp; omega
theorem prune_core {below : Int} : ∀ (B : List Seg) (g : Nat) (d : Dk), d.Ok → d.on = true → d.armed = 0 → d.files = (keepS B).map fileX → (∀ s ∈ B, 1 ≤ s.1 ∧ s.1 < 1000000000) →
    ∃ d2, pruneL below (B.map Prod.fst) g d = ((g + cutN below B, 0), d2) ∧ d2.files = (keepS (B.drop (cutN below B))).map fileX ∧ d2.on = true ∧ d2.armed = 0 ∧ d2.Ok
  | [], g, d, hok, ho, ha, hf, hB => ⟨d, rfl, hf, ho, ha, hok⟩
  | [a], g, d, hok, ho, ha, hf, hB => ⟨d, rfl, hf, ho, ha, hok⟩
  | a :: b :: l, g, d, hok, ho, ha, hf, hB => by
    rw [List.map_cons, List.map_cons, pruneL, cutN]
    by_cases hb : (b.1 : Int) ≤ below
    · rw [if_pos hb, if_pos hb]
      have hA := hB a (by simp)
      have e : nameP 106 1 (a.1 : Nat) = nmJ a.1 := nmJ_name hA.1 hA.2
      have hf2 : d.files = fileX (a, []) :: (keepS (b :: l)).map fileX := by rw [hf]; rfl
      have hR : Rise (fileX (a, []) :: (keepS (b :: l)).map fileX) := by rw [← hf2]; exact hok.rise
      have hg : getF d.files (nmJ a.1) = some (fileX (a, [])) := by rw [hf2]; exact getF_head rfl
      have hD := did_remove ho (nmJ_named a.1) hg
      have hdrop : dropF (nmJ a.1) d.files = (keepS (b :: l)).map fileX := by
        rw [hf2]
        refine dropF_head rfl fun f hf => ?_
        have := (List.pairwise_cons.1 hR).1 f hf
        exact (ne_of_lt' this).symm
      have hok2 := (remove_ok (n := nmJ a.1) hok).1
      rw [e]
      rcases hD with ⟨h1, h2, h3, h4, h5, h6⟩ | ⟨h1, _⟩
      · rw [if_neg (by omega)]
        obtain ⟨d2, k1, k2, k3, k4, k5⟩ := prune_core (b :: l) (g + 1) (removeD (nmJ a.1) d).2 hok2 h3 (h6 ha) (by rw [h2, hdrop]) (fun s hs => hB s (List.mem_cons_of_mem _ hs))
        refine ⟨d2, ?_, ?_, k3, k4, k5⟩
        · rw [List.map_cons] at k1
          have e9 : g + 1 + cutN below (b :: l) = g + (cutN below (b :: l) + 1) := by omega
          rw [k1, e9]
        · rw [k2]; rfl
      · exact absurd ha h1
    · rw [if_neg hb, if_neg hb]
      exact ⟨d, rfl, hf, ho, ha, hok⟩
/-- All but the last are full. -/
def FullB (per : Int) : List Seg → Prop
  | a :: b :: l => (a.2.length : Int) = per ∧ FullB per (b :: l)
  | _ => True
theorem cut_facts {below per : Int} : ∀ (B : List Seg) (a : Nat), B ≠ [] → Chn a (keepS B) → FullB per B → (∀ s ∈ B, (s.2.length : Int) ≤ per) → ∃ s R, B.drop (cutN below B) = s :: R ∧ (s.1 : Int) = a + cutN below B * per ∧ (cutN below B = 0 ∨ (s.1 : Int) ≤ below) ∧ (R ≠ [] → below < s.1 + per) ∧ (flat (keepS B)).drop (s.1 - a) = flat (keepS (s :: R)) ∧ a ≤ s.1 ∧ Chn s.1 (keepS (s :: R)) ∧ a + (flat (keepS B)).length = s.1 + (flat (keepS (s :: R))).length
  | [], a, h, _, _, _ => absurd rfl h
  | [x], a, _, hc, _, _ => by
    have hx : x.1 = a := hc.1
    refine ⟨x, [], rfl, by rw [hx]; simp [cutN], .inl rfl, fun h => absurd rfl h, ?_, by omega, ?_, by omega⟩
    · rw [hx, Nat.sub_self, List.drop_zero]
    · rw [hx]; exact hc
  | x :: y :: l, a, _, hc, hF, hm => by
    have hx : x.1 = a := hc.1
    have hy : y.1 = a + x.2.length := hc.2.1
    have ef : flat (keepS (x :: y :: l)) = x.2 ++ flat (keepS (y :: l)) := rfl
    rw [cutN]
    by_cases hb : (y.1 : Int) ≤ below
    · rw [if_pos hb]
      obtain ⟨s, R, h1, h2, h3, h4, h5, h6, h7, h8⟩ := cut_facts (below := below) (per := per) (y :: l) (a + x.2.length) (by simp) hc.2 hF.2 (fun s hs => hm s (List.mem_cons_of_mem _ hs))
      have hlen := hF.1
      refine ⟨s, R, by rw [← h1]; rfl, ?_, ?_, h4, ?_, by omega, h7, ?_⟩
      · have e9 : ((cutN below (y :: l) + 1 : Nat) : Int) = (cutN below (y :: l) : Int) + 1 := by omega
        rw [h2, e9, Int.add_mul, Int.one_mul]
        omega
      · right
        rcases h3 with h3 | h3
        · rw [h3] at h2
          simp at h2
          omega
        · exact h3
      · rw [ef, ← h5, List.drop_append, List.drop_of_length_le (by omega), List.nil_append]
        congr 1; omega
      · rw [ef, List.length_append]; omega
    · rw [if_neg hb]
      have hlen := hF.1
      refine ⟨x, y :: l, rfl, by rw [hx]; simp, .inl rfl, fun _ => by omega, ?_, by omega, by rw [hx]; exact hc, by omega⟩
      rw [hx, Nat.sub_self, List.drop_zero]
/-- The segments of a journal at rest, as one list. -/
def allS (S : List Seg) (n : Nat) (l : List (List UInt8)) : List Seg := S ++ (if l = [] then [] else [(n, l)])
theorem allS_keep (S : List Seg) (n : Nat) (l : List (List UInt8)) : keepS (allS S n l) = flJ S n l := by
  unfold allS flJ lastJ keepS
  split <;> simp
theorem fullB_app {per : Int} : ∀ (S : List Seg) (x : Seg), (∀ s ∈ S, (s.2.length : Int) = per) → FullB per (S ++ [x])
  | [], x, _ => trivial
  | [a], x, h => ⟨h a (by simp), trivial⟩
  | a :: b :: l, x, h => ⟨h a (by simp), fullB_app (b :: l) x (fun s hs => h s (List.mem_cons_of_mem _ hs))⟩
theorem fullB_all {per : Int} : ∀ (S : List Seg), (∀ s ∈ S, (s.2.length : Int) = per) → FullB per S
  | [], _ => trivial
  | [a], h => trivial
  | a :: b :: l, h => ⟨h a (by simp), fullB_all (b :: l) (fun s hs => h s (List.mem_cons_of_mem _ hs))⟩
theorem CalmJ.fullB {d : Dk} {per : Int} {S : List Seg} {n : Nat} {l : List (List UInt8)} (h : CalmJ d per S n l) : FullB per (allS S n l) := by
  unfold allS
  split
  · rw [List.append_nil]; exact fullB_all S h.full
  · exact fullB_app S _ h.full
theorem CalmJ.prune {d : Dk} {per below : Int} {S : List Seg} {n : Nat} {l : List (List UInt8)} (h : CalmJ d per S n l) (ha : d.armed = 0) (hn : n + l.length < 1000000000) :
    ∃ d2 g, pruneW below (jnJ per n l) d = ((g, 0), jnJ per n l, d2) ∧ d2.on = true ∧ d2.armed = 0 ∧ ∃ B, Lies d2 (keepS B) ∧ ((B = [] ∧ g = 0 ∧ recJ S l = []) ∨ ∃ s R, B = s :: R ∧ Chn s.1 (keepS B) ∧ (s.1 : Int) = 1 + g * per ∧ (g = 0 ∨ (s.1 : Int) ≤ below) ∧ (below < ((recJ S l).length : Nat) → below < s.1 + per) ∧ flat (keepS B) = (recJ S l).drop (s.1 - 1) ∧ s.1 ≤ (recJ S l).length + 1) := by
  have hf : d.files = (keepS (allS S n l)).map fileX := by rw [allS_keep]; exact h.lies.fl
  have hg : ∀ x ∈ keepS (allS S n l), GoodX x := by rw [allS_keep]; exact h.lies.good
  have hB : ∀ s ∈ allS S n l, 1 ≤ s.1 ∧ s.1 < 1000000000 := fun s hs => by
    have := hg (s, []) (List.mem_map_of_mem (f := fun s : Seg => ((s, []) : FJ)) hs)
    exact ⟨this.lo, this.hi⟩
  have hc : Chn 1 (keepS (allS S n l)) := by rw [allS_keep]; exact h.chain
  have hfl : flat (keepS (allS S n l)) = recJ S l := by rw [allS_keep]; exact h.flatIs
  have hm : ∀ s ∈ allS S n l, (s.2.length : Int) ≤ per := fun s hs => by
    unfold allS at hs
    rcases List.mem_append.1 hs with hs | hs
    · have := h.full s hs; omega
    · split at hs
      · cases hs
      · rw [List.mem_singleton.1 hs]; exact h.most
  obtain ⟨d2, k1, k2, k3, k4, k5⟩ := prune_core (below := below) (allS S n l) 0 d h.lies.ok h.on ha hf hB
  have hst : startsD (namesD d) = (allS S n l).map Prod.fst := by rw [keep_names h.on hf, starts_is hB]
  refine ⟨d2, cutN below (allS S n l), ?_, k3, k4, (allS S n l).drop (cutN below (allS S n l)), ⟨k5, k2, fun x hx => ?_⟩, ?_⟩
  · have e0 : (jnJ per n l).sick = 0 := rfl
    unfold pruneW
    rw [if_neg (by omega), hst, k1]
    simp
  · obtain ⟨s, hs, rfl⟩ := List.mem_map.1 hx
    exact hg (s, []) (List.mem_map_of_mem (f := fun s : Seg => ((s, []) : FJ)) (List.mem_of_mem_drop hs))
  · by_cases hne : allS S n l = []
    · left
      rw [hne] at hfl ⊢
      exact ⟨rfl, rfl, by rw [← hfl]; rfl⟩
    · right
      obtain ⟨s, R, h1, h2, h3, h4, h5, h6, h7, h8⟩ := cut_facts (below := below) (per := per) (allS S n l) 1 hne hc h.fullB hm
      rw [hfl] at h5 h8
      refine ⟨s, R, h1, by rw [h1]; exact h7, h2, h3, fun hlt => ?_, by rw [h1, h5], by omega⟩
      by_cases hR : R = []
      · subst hR
        have e : flat (keepS [s]) = s.2 := by simp [keepS, flat]
        rw [e] at h8
        have hs : s ∈ allS S n l := List.mem_of_mem_drop (by rw [h1]; simp : s ∈ (allS S n l).drop (cutN below (allS S n l)))
        have := hm s hs
        omega
      · exact h4 hR
end Go.Proofs.YtnegdinonfjdfaaDoor.Q

/- WalSegments. -/
set_option linter.unusedVariables false
set_option linter.unusedSimpArgs false
set_option maxRecDepth 100000
namespace Go.Proofs.YtnegdinonfjdfaaDoor.Q
open Go Go.RowKit Go.Proofs
/-! ### Plainly -/
theorem and_63 (z : Int) : ∃ k : Nat, k < 64 ∧ bitOp .and .i64 z 63 = some ((k : Nat) : Int) := by
  have h1 : (BitVec.ofInt 64 z &&& BitVec.ofInt 64 63).toNat < 64 := by
    rw [BitVec.toNat_and]
    exact Nat.lt_of_le_of_lt Nat.and_le_right (by decide)
  refine ⟨_, h1, ?_⟩
  show some (IntKind.i64.wrap (((BitVec.ofInt 64 z &&& BitVec.ofInt 64 63).toNat : Nat) : Int)) = _
  rw [wrap_i64 (by omega) (by omega)]
def recsOf (i : Nat) : List (List UInt8) := (List.range i).map fun q => [UInt8.ofNat (q + 1)]
theorem recsOf_len (i : Nat) : (recsOf i).length = i := by simp [recsOf]
theorem recsOf_succ (i : Nat) : recsOf (i + 1) = recsOf i ++ [[UInt8.ofNat (i + 1)]] := by simp [recsOf, List.range_succ]
theorem recsOf_size : ∀ i : Nat, szR (recsOf i) = 9 * i
  | 0 => rfl
  | i + 1 => by
    rw [recsOf_succ, szR_app, recsOf_size i]
    simp [szR]; omega
theorem flat_full {per : Int} : ∀ S : List Seg, (∀ s ∈ S, (s.2.length : Int) = per) → ((flat (keepS S)).length : Int) = S.length * per
  | [], _ => by simp [keepS, flat]
  | s :: S, h => by
    have ih := flat_full S (fun x hx => h x (List.mem_cons_of_mem _ hx))
    have e : flat (keepS (s :: S)) = s.2 ++ flat (keepS S) := rfl
    have h1 := h s (by simp)
    have e2 : (((s :: S).length : Nat) : Int) = (S.length : Int) + 1 := by simp
    rw [e, List.length_append, Int.natCast_add, ih, h1, e2, Int.add_mul, Int.one_mul]
    omega
/-- There is a place for one more segment. -/
theorem CalmJ.few {d : Dk} {per : Int} {S : List Seg} {n : Nat} {l : List (List UInt8)} (h : CalmJ d per S n l) (hc : ((recJ S l).length : Int) < 15 * per) : (turnJ per S n l).2.2 = [] → d.files.length < 16 := by
  intro ht
  have h0 := flat_full S h.full
  have hp := h.p1
  have hlen : ((recJ S l).length : Int) = S.length * per + l.length := by unfold recJ; rw [List.length_append, Int.natCast_add, h0]
  have hfl : d.files.length = S.length + (if l = [] then 0 else 1) := by
    rw [h.lies.fl, List.length_map]
    unfold flJ lastJ keepS
    split <;> simp
  have hS : ∀ k : Nat, (S.length : Int) * per + k < 15 * per → S.length < 15 := by
    intro k hk
    apply Classical.byContradiction
    intro hn
    have h15 : (15 : Int) ≤ S.length := by omega
    have : (15 : Int) * per ≤ S.length * per := Int.mul_le_mul_of_nonneg_right h15 (by omega)
    omega
  have := hS l.length (by omega)
  rw [hfl]
  split <;> omega
theorem conv35 (i : Nat) : vconv Tryd.prog 3 5 (.int .i64 (i : Nat)) = some (byteV (UInt8.ofNat i)) := by
  have h : IntKind.u8.wrap ((i : Nat) : Int) = (((UInt8.ofNat i).toNat : Nat) : Int) := by
    rw [UInt8.toNat_ofNat']
    unfold IntKind.wrap
    simp [IntKind.bits, IntKind.signed, IntKind.max, IntKind.min]
  simp only [vconv, T3, T5, h, byteV]
theorem mkB1 (b : UInt8) : vbuildSlice Tryd.prog 22 1 [(0, byteV b)] = some (.slice .exact 1 ([b].map byteV) 1) := by
  have r : List.range 1 = [0] := by decide
  simp [vbuildSlice, T22, S5, BT.z, vcells, vfill, zeroCellsV, setAll, byteV, r]
theorem thru_one (B : List FJ) (a : Nat) (hB : ∀ x ∈ B, 1 ≤ x.1.1) (hc : Chn a B) : (thru op0 B).from = if B = [] then 1 else a := by
  match B, hc with
  | [], _ => rfl
  | x :: B, hc =>
    rw [thru_from x B (hB x (by simp)), if_neg (by simp)]
    exact hc.1
theorem thru_op (B : List FJ) : (thru op0 B).recs = flat B := by rw [thru_recs]; rfl
theorem seqC_seq {P : Program} {pr : Prim} {N : Nat} {a b : CC} {Q : VX → (Nat → V) → St → Prop} : seqC P pr N (.seq a b) Q = seqC P pr N a (seqC P pr N b Q) := by
  funext x e σ
  cases x
  · rw [seqC_normal, seqC_normal, Ev_seq']
  · rw [seqC_exit, seqC_exit, seqC_exit]
  · rw [seqC_ret, seqC_ret, seqC_ret]
  · rw [seqC_pan, seqC_pan, seqC_pan]
theorem walsegments_true : LawTrue Tryd.prog prims 10 [3, 3, 3] := by
  intro args hA hb
  match args, hA with
  | [vc, vp, vb], ⟨hx, hx2, hx3, _⟩ =>
    obtain ⟨cz, rfl, hcz⟩ : ∃ n : Int, vc = .int .i64 n ∧ InI64 n := int_arg T3 hx
    obtain ⟨per, rfl, hper⟩ : ∃ n : Int, vp = .int .i64 n ∧ InI64 n := int_arg T3 hx2
    obtain ⟨below, rfl, hbel⟩ : ∃ n : Int, vb = .int .i64 n ∧ InI64 n := int_arg T3 hx3
    have key : ∃ r σ', Does Tryd.prog prims 10 [.int .i64 cz, .int .i64 per, .int .i64 below] st0 r σ' ∧ r = .ret (.bool true) := by
      apply k10_is.does (by simp)
      obtain ⟨s1, hwk⟩ := wwakes_does
      obtain ⟨ct, hct, hand⟩ := and_63 cz
      have oT : ofVal (Value.bool true) = some (.bool true) := rfl
      obtain ⟨K, hK⟩ : ∃ K, K = seqC Tryd.prog prims 160 ((.seq (.region k10_r6) (.seq (.region k10_r7) (.seq (.seq (.region k10_r8) (.cond (.tmp 47) (.seq (.region k10_r9) .ret) .skip)) (.seq (.seq (.region k10_r10) (.block 0 (.loop k10_l0))) (.seq (.region k10_r16) (.seq (.seq (.region k10_r17) (.cond (.tmp 75) (.seq (.region k10_r18) .ret) .skip)) (.seq (.region k10_r19) (.seq (.seq (.region k10_r20) (.cond (.tmp 112) (.seq (.region k10_r21) .ret) .skip)) (.seq (.seq (.region k10_r22) (.cond (.tmp 138) (.seq (.region k10_r23) .ret) .skip)) (.seq (.seq (.region k10_r24) (.block 2 (.loop k10_l1))) (.seq (.region k10_r30) .ret))))))))))) : CC) (fnK Tryd.prog 160 [ResultVar.tmp 6] fun q σ' => q = .ret (.bool true)) := ⟨_, rfl⟩
      simp only [seqC_seq] at hK
      simp only [k10_a, WK, vop, evAll, evOpt, evParts, vbuiltin, vun, vextract, Nat.reduceLT, Nat.reduceEqDiff, ↓reduceIte, reduceCtorEq, Nat.reduceAdd, Int.reduceLT, Int.reduceNeg, valloc_std, noSB, vhot, List.getD_cons_zero, List.getD_cons_succ]
      refine KD.ret hwk ?_
      simp only [seqC_seq]
      rw [← hK]
      by_cases h1 : per < 1
      · simp only [k10_a, WK, vop, evAll, evOpt, evParts, vbuiltin, vun, vextract, Nat.reduceLT, Nat.reduceEqDiff, ↓reduceIte, reduceCtorEq, Nat.reduceAdd, Int.reduceLT, Int.reduceNeg, valloc_std, noSB, vhot, List.getD_cons_zero, List.getD_cons_succ, Bool.not_true, hand, h1, decide_true]
        rw [hK]
        simp only [k10_a, WK, vop, evAll, evOpt, evParts, vbuiltin, vun, vextract, Nat.reduceLT, Nat.reduceEqDiff, ↓reduceIte, reduceCtorEq, Nat.reduceAdd, Int.reduceLT, Int.reduceNeg, valloc_std, noSB, vhot, List.getD_cons_zero, List.getD_cons_succ]
      obtain ⟨c15, hc15⟩ : ∃ c15, c15 = IntKind.i64.wrap (15 * per) := ⟨_, rfl⟩
      by_cases hm : c15 < (ct : Int) ∧ per < 64
      · simp only [k10_a, WK, vop, evAll, evOpt, evParts, vbuiltin, vun, vextract, Nat.reduceLT, Nat.reduceEqDiff, ↓reduceIte, reduceCtorEq, Nat.reduceAdd, Int.reduceLT, Int.reduceNeg, valloc_std, noSB, vhot, List.getD_cons_zero, List.getD_cons_succ, Bool.not_true, hand, h1, decide_true, decide_false, ← hc15, hm.1, hm.2]
        rw [hK]
        simp only [k10_a, WK, vop, evAll, evOpt, evParts, vbuiltin, vun, vextract, Nat.reduceLT, Nat.reduceEqDiff, ↓reduceIte, reduceCtorEq, Nat.reduceAdd, Int.reduceLT, Int.reduceNeg, valloc_std, noSB, vhot, List.getD_cons_zero, List.getD_cons_succ]
      have hcap : (ct : Int) ≤ 15 * per := by
        by_cases h64 : per < 64
        · rw [wrap_i64 (by omega) (by omega)] at hc15
          omega
        · omega
      obtain ⟨s2, r, rm, c2, D2, K2, I2⟩ := newdisk_does s1 1048576
      have okn : (newD 1048576).Ok := newD_ok (by unfold InI64; omega)
      have hopen0 : openD per (newD 1048576) = ((0, op0), newD 1048576) := by
        unfold openD
        rw [if_neg h1]
        rfl
      obtain ⟨q3, s3, c3, fs3, D3, K3, I3, hres⟩ := open_sees per hper D2 okn (by simp [newD])
      rw [hopen0] at D3 hres
      rcases hres with ⟨h, _⟩ | ⟨_, p, w3, ps3, rfl, hw3, hps3, hpr3, hp3, hpl, hpf⟩
      · exact absurd rfl h
      have hp3 : s3.objs[p]? = some (.cells ((jnJ per 1 []).cells r)) := hp3
      have C3 : CalmJ (newD 1048576) per [] 1 [] := ⟨⟨okn, rfl, (fun x hx => by cases hx)⟩, rfl, trivial, rfl, (fun s hs => by cases hs), (by simp; omega), (by omega), (fun r hr => by cases hr)⟩
      have tail : ∀ (e : Nat → V), e 0 = .int .i64 (ct : Nat) → e 1 = .int .i64 per → e 2 = .int .i64 below → K .normal e s1 := by
        intro e g0 g1 g2
        rw [hK]
        simp only [k10_a, WK, vop, evAll, evOpt, evParts, vbuiltin, vun, vextract, Nat.reduceLT, Nat.reduceEqDiff, ↓reduceIte, reduceCtorEq, Nat.reduceAdd, Int.reduceLT, Int.reduceNeg, valloc_std, noSB, vhot, List.getD_cons_zero, List.getD_cons_succ]
        refine KD.ret c2 ?_
        simp only [k10_a, WK, vop, evAll, evOpt, evParts, vbuiltin, vun, vextract, Nat.reduceLT, Nat.reduceEqDiff, ↓reduceIte, reduceCtorEq, Nat.reduceAdd, Int.reduceLT, Int.reduceNeg, valloc_std, noSB, vhot, List.getD_cons_zero, List.getD_cons_succ, g1]
        refine KD.ret c3 ?_
        simp only [k10_a, WK, vop, evAll, evOpt, evParts, vbuiltin, vun, vextract, Nat.reduceLT, Nat.reduceEqDiff, ↓reduceIte, reduceCtorEq, Nat.reduceAdd, Int.reduceLT, Int.reduceNeg, valloc_std, noSB, vhot, List.getD_cons_zero, List.getD_cons_succ, eq_self, decide_true, Bool.not_true]
        refine Ev.loopF (fun (i : Nat) e s => e 12 = .int .i64 ((i + 1 : Nat) : Int) ∧ i ≤ ct ∧ ∃ (d : Dk) (fu : List Ent) (S : List Seg) (n : Nat) (l : List (List UInt8)), DiskAt s r d rm fu ∧ CalmJ d per S n l ∧ d.armed = 0 ∧ d.room = 1048576 ∧ d.writes ≤ 3 * i ∧ recJ S l = recsOf i ∧ s.objs[p]? = some (.cells ((jnJ per n l).cells r)) ∧ p ∉ foot r rm fu) (fun i => ct - i) 0 ?_ ?_
        · exact ⟨by simp [upd_some], Nat.zero_le _, newD 1048576, fs3, [], 1, [], D3, C3, rfl, rfl, by simp [newD], rfl, hp3, hpf⟩
        rintro i e4 s ⟨h12, hi, d, fu, S, n, l, D, C, hna, hnr, hnw, hrec, hps, hpfu⟩ hf
        have k0 : e4 0 = .int .i64 (ct : Nat) := (hf 0 (by decide)).trans (by simp [upd_some, g0])
        have k1 : e4 1 = .int .i64 per := (hf 1 (by decide)).trans (by simp [upd_some, g1])
        have k2 : e4 2 = .int .i64 below := (hf 2 (by decide)).trans (by simp [upd_some, g2])
        have k7 : e4 7 = .optr r 0 := (hf 7 (by decide)).trans (by simp [upd_some])
        have k8 : e4 8 = .optr p 0 := (hf 8 (by decide)).trans (by simp [upd_some])
        clear hf
        have hlen : (recJ S l).length = i := by rw [hrec, recsOf_len]
        have hnx : n + l.length = i + 1 := by
          have := C.nx
          unfold recJ at hlen
          rw [List.length_append] at hlen
          omega
        by_cases hlt : i < ct
        · have hle' : ((i + 1 : Nat) : Int) ≤ (ct : Nat) := by omega
          have hwi : IntKind.i64.wrap (((i + 1 : Nat) : Int) + 1) = ((i + 1 + 1 : Nat) : Int) := by rw [wrap_i64 (by omega) (by omega)]; omega
          have hbt : BtsV (.slice .exact 1 ([UInt8.ofNat (i + 1)].map byteV) 1) [UInt8.ofNat (i + 1)] := .inr ⟨.exact, rfl⟩
          obtain ⟨q5, s5, c5, fs5, D5, K5, I5, hpf5, hp5, rfl⟩ := wapp_sees (j := jnJ per n l) D C.lies.ok (by omega) hps hpfu hbt (by simp) (by simp [jnJ]) (by simp only [jnJ]; omega)
          have happ := C.app (b := [UInt8.ofNat (i + 1)]) (by omega) (by simp) (by rw [hrec, recsOf_size]; simp; omega) (C.few (by rw [hlen]; omega))
          have hnoarm : ¬ Gone d (appW [UInt8.ofNat (i + 1)] (jnJ per n l) d).2.2 := fun h => h.arm hna
          rcases happ with ⟨h, _⟩ | ⟨_, d2, hA, C2, hr2, hroom2, hkeep2, harm2⟩ | ⟨h, _⟩
          · rw [hrec, recsOf_size, hnr] at h
            simp at h; omega
          · have hw2 := (appW_ok (b := [UInt8.ofNat (i + 1)]) (j := jnJ per n l) C.lies.ok).2
            rw [hA] at D5 hp5 c5 hw2
            simp only at D5 hp5 c5 hw2
            rw [hnx] at c5
            have c5 : Does Tryd.prog prims 38 [.optr p 0, .slice .exact 1 ([UInt8.ofNat (i + 1)].map byteV) 1] s (.ret (.tuple [.int .i64 ((i + 1 : Nat) : Int), .int .i64 0])) s5 := c5
            simp only [k10_a, WK, vop, evAll, evOpt, evParts, vbuiltin, vun, vextract, Nat.reduceLT, Nat.reduceEqDiff, ↓reduceIte, reduceCtorEq, Nat.reduceAdd, Int.reduceLT, Int.reduceNeg, valloc_std, noSB, vhot, List.getD_cons_zero, List.getD_cons_succ, h12, k0, k8, hle', decide_true, conv35, mkB1]
            refine KD.ret c5 ?_
            simp only [k10_a, WK, vop, evAll, evOpt, evParts, vbuiltin, vun, vextract, Nat.reduceLT, Nat.reduceEqDiff, ↓reduceIte, reduceCtorEq, Nat.reduceAdd, Int.reduceLT, Int.reduceNeg, valloc_std, noSB, vhot, List.getD_cons_zero, List.getD_cons_succ, h12, eq_self, decide_true, Bool.not_true, hwi]
            exact ⟨i + 1, ⟨by simp [upd_some], by omega, d2, fs5, _, _, _, D5, C2, harm2 hna, hroom2.trans hnr, by omega, by rw [hr2, hrec, recsOf_succ], hp5, hpf5⟩, by omega⟩
          · exact absurd h hnoarm
        have hic : i = ct := by omega
        subst hic
        have hle' : ¬ ((i + 1 : Nat) : Int) ≤ (i : Nat) := by omega
        obtain ⟨q5, s5, c5, fs5, D5, K5, I5, hpf5, hp5, rfl⟩ := wprune_sees (j := jnJ per n l) below D C.lies.ok (by omega) hps hpfu
        obtain ⟨d2, g, hP, hon2, harm2, B, hL2, hB⟩ := C.prune (below := below) hna (by omega)
        have hw2 := (pruneW_ok (below := below) (j := jnJ per n l) C.lies.ok).2
        rw [hP] at D5 hp5 c5 hw2
        simp only at D5 hp5 c5 hw2
        have c5 : Does Tryd.prog prims 39 [.optr p 0, .int .i64 below] s (.ret (.tuple [.int .i64 (g : Nat), .int .i64 0])) s5 := c5
        obtain ⟨q6, s6, c6, fs6, D6, K6, I6, hres6⟩ := open_sees per hper D5 hL2.ok (by omega)
        obtain ⟨fr, hfr, hchn⟩ : ∃ fr : Nat, (thru op0 (keepS B)).from = fr ∧ Chn fr (keepS B) := by
          rcases hB with ⟨rfl, _, _⟩ | ⟨s, R, hs, h2, _⟩
          · exact ⟨1, rfl, trivial⟩
          · refine ⟨s.1, ?_, h2⟩
            rw [thru_one _ s.1 (fun x hx => (hL2.good x hx).lo) h2, hs]
            rfl
        have hO : (openD per d2).1 = (0, thru op0 (keepS B)) := by
          rcases hL2.open hon2 hchn (by omega : (1 : Int) ≤ per) with ⟨h, _⟩ | ⟨h, _⟩
          · exact h
          · exact absurd harm2 h.arm
        rw [hO] at hres6
        rcases hres6 with ⟨h, _⟩ | ⟨_, p6, w6, ps6, rfl, hw6, hps6, hpr6, _⟩
        · exact absurd rfl h
        simp only at hpr6 c6
        rw [hfr] at c6
        rw [thru_op] at hpr6
        -- the numbers
        have hrl : ps6.length = (flat (keepS B)).length := by rw [← hpr6, List.length_map]
        have hnum : (i = 0 ∧ g = 0 ∧ fr = 1 ∧ ps6.length = 0) ∨ (0 < i ∧ (fr : Int) = 1 + g * per ∧ (g = 0 ∨ (fr : Int) ≤ below) ∧ (below < (i : Int) → below < fr + per) ∧ flat (keepS B) = (recsOf i).drop (fr - 1) ∧ fr ≤ i + 1 ∧ 1 ≤ fr ∧ ps6.length + fr = i + 1) := by
          rw [hrec, recsOf_len] at hB
          rcases hB with ⟨hB0, hg0, hr0⟩ | ⟨s, R, hs, h2, h3, h4, h5, h6, h7⟩
          · left
            have : i = 0 := by have := recsOf_len i; rw [hr0] at this; simpa using this.symm
            subst hB0
            exact ⟨this, hg0, by rw [← hfr]; rfl, by rw [hrl]; rfl⟩
          · have hfs : fr = s.1 := by
              rw [← hfr, thru_one _ s.1 (fun x hx => (hL2.good x hx).lo) h2, hs]
              rfl
            have hs1 : 1 ≤ s.1 := (hL2.good (s, []) (by rw [hs]; simp [keepS])).lo
            by_cases hi0 : i = 0
            · left
              have hg0 : g = 0 := by
                apply Classical.byContradiction
                intro hg
                have h1 : (1 : Int) * per ≤ g * per := Int.mul_le_mul_of_nonneg_right (by omega) (by omega)
                omega
              subst hg0
              simp at h3
              refine ⟨hi0, rfl, by omega, ?_⟩
              rw [hrl, h6, List.length_drop, recsOf_len]; omega
            · right
              rw [hfs]
              refine ⟨by omega, h3, h4, h5, h6, h7, hs1, ?_⟩
              rw [hrl, h6, List.length_drop, recsOf_len]; omega
        have hlw := hw6.len
        obtain ⟨J3, hJ3⟩ : ∃ K, K = seqC Tryd.prog prims 160 ((.seq (.seq (.region k10_r24) (.block 2 (.loop k10_l1))) (.seq (.region k10_r30) .ret)) : CC) (fnK Tryd.prog 160 [ResultVar.tmp 6] fun q σ' => q = .ret (.bool true)) := ⟨_, rfl⟩
        obtain ⟨J2, hJ2⟩ : ∃ K, K = seqC Tryd.prog prims 160 ((.seq (.seq (.region k10_r22) (.cond (.tmp 138) (.seq (.region k10_r23) .ret) .skip)) (.seq (.seq (.region k10_r24) (.block 2 (.loop k10_l1))) (.seq (.region k10_r30) .ret))) : CC) (fnK Tryd.prog 160 [ResultVar.tmp 6] fun q σ' => q = .ret (.bool true)) := ⟨_, rfl⟩
        simp only [seqC_seq] at hJ2 hJ3
        have tail3 : ∀ (e : Nat → V), e 17 = w6 → e 18 = .int .i64 (fr : Nat) → J3 .normal e s6 := by
          intro e5 m17 m18
          rw [hJ3]
          simp only [k10_a, WK, vop, evAll, evOpt, evParts, vbuiltin, vun, vextract, Nat.reduceLT, Nat.reduceEqDiff, ↓reduceIte, reduceCtorEq, Nat.reduceAdd, Int.reduceLT, Int.reduceNeg, valloc_std, noSB, vhot, List.getD_cons_zero, List.getD_cons_succ, m17, hlw]
          refine Ev.loopF (fun (k : Nat) e s => e 141 = .int .i64 (k : Nat) ∧ k ≤ ps6.length ∧ s = s6) (fun k => ps6.length - k) 0 ?_ ?_
          · exact ⟨by simp [upd_some], Nat.zero_le _, rfl⟩
          rintro k e6 s ⟨h141, hk, rfl⟩ hf
          have m139 : e6 139 = w6 := (hf 139 (by decide)).trans (by simp [upd_some])
          have m140 : e6 140 = .int .i64 (ps6.length : Nat) := (hf 140 (by decide)).trans (by simp [upd_some])
          have m18 : e6 18 = .int .i64 (fr : Nat) := (hf 18 (by decide)).trans (by simp [upd_some, m18])
          clear hf
          by_cases hkl : k < ps6.length
          · have hkl' : (k : Int) < (ps6.length : Nat) := by omega
            rcases hnum with ⟨_, _, _, h0⟩ | ⟨hi0, n1, n2, n3, n4, n5, n6, n7⟩
            · omega
            have hwk : IntKind.i64.wrap ((k : Int) + 1) = ((k + 1 : Nat) : Int) := by rw [wrap_i64 (by omega) (by omega)]; omega
            have hwf : IntKind.i64.wrap (((fr : Nat) : Int) + (k : Int)) = ((fr + k : Nat) : Int) := by rw [wrap_i64 (by omega) (by omega)]; omega
            have hbk := hps6 ps6[k] (List.getElem_mem hkl)
            have hval : ps6[k].2 = [UInt8.ofNat (fr + k)] := by
              have e1 : ps6[k].2 = (ps6.map Prod.snd)[k]'(by simpa using hkl) := by simp
              have e2 : (ps6.map Prod.snd)[k]? = some [UInt8.ofNat (fr + k)] := by
                rw [hpr6, n4, List.getElem?_drop]
                unfold recsOf
                rw [List.getElem?_map, List.getElem?_range (by omega)]
                simp only [Option.map_some]
                congr 3; omega
              rw [e1]
              have e3 := List.getElem?_eq_getElem (l := ps6.map Prod.snd) (i := k) (by simpa using hkl)
              rw [e3] at e2
              exact Option.some.inj e2
            rw [hval] at hbk
            have hlb := hbk.len T22
            have hat := hbk.at' (i := 0) (by simp)
            have hat : vindexAddr Tryd.prog 22 ps6[k].1 (.int .i64 0) = some (.eptr ([UInt8.ofNat (fr + k)].map byteV) 0) := hat
            have hld : vload Tryd.prog s.objs 5 (.eptr ([UInt8.ofNat (fr + k)].map byteV) 0) = some (byteV (UInt8.ofNat (fr + k))) := by kernel_rfl
            have hlb : vlen Tryd.prog 22 ps6[k].1 = some (.int .i64 1) := hlb
            simp only [k10_a, WK, vop, evAll, evOpt, evParts, vbuiltin, vun, vextract, Nat.reduceLT, Nat.reduceEqDiff, ↓reduceIte, reduceCtorEq, Nat.reduceAdd, Int.reduceLT, Int.reduceNeg, valloc_std, noSB, vhot, List.getD_cons_zero, List.getD_cons_succ, h141, m139, m140, m18, hkl', decide_true, hw6.addr hkl, PtsV.load hkl, hlb, eq_self, Bool.not_true, hat, hld, hwf, conv35, byteV, hwk]
            exact ⟨k + 1, ⟨rfl, by omega⟩, by omega⟩
          · have hkl' : ¬ (k : Int) < (ps6.length : Nat) := by omega
            simp only [k10_a, WK, vop, evAll, evOpt, evParts, vbuiltin, vun, vextract, Nat.reduceLT, Nat.reduceEqDiff, ↓reduceIte, reduceCtorEq, Nat.reduceAdd, Int.reduceLT, Int.reduceNeg, valloc_std, noSB, vhot, List.getD_cons_zero, List.getD_cons_succ, h141, m140, hkl', decide_false]
        have tail2 : ∀ (e : Nat → V), e 0 = .int .i64 (i : Nat) → e 1 = .int .i64 per → e 2 = .int .i64 below → e 15 = .int .i64 (g : Nat) → e 17 = w6 → e 18 = .int .i64 (fr : Nat) → J2 .normal e s6 := by
          intro e5 m0 m1 m2 m15 m17 m18
          rw [hJ2, ← hJ3]
          rcases hnum with ⟨hi0, _, _, _⟩ | ⟨hi0, n1, n2, n3, n4, n5, n6, n7⟩
          · have hi' : ¬ (0 : Int) < (i : Nat) := by omega
            simp only [k10_a, WK, vop, evAll, evOpt, evParts, vbuiltin, vun, vextract, Nat.reduceLT, Nat.reduceEqDiff, ↓reduceIte, reduceCtorEq, Nat.reduceAdd, Int.reduceLT, Int.reduceNeg, valloc_std, noSB, vhot, List.getD_cons_zero, List.getD_cons_succ, m0, hi', decide_false]
            exact tail3 _ (by simp [upd_some, m17]) (by simp [upd_some, m18])
          · have hi' : (0 : Int) < (i : Nat) := by omega
            have hw1 : IntKind.i64.wrap (((fr : Nat) : Int) - 1) = ((fr : Nat) : Int) - 1 := wrap_i64 (by omega) (by omega)
            have hw2 : IntKind.i64.wrap (((g : Nat) : Int) * per) = ((fr : Nat) : Int) - 1 := by rw [wrap_i64 (by omega) (by omega)]; omega
            by_cases hb1 : below < ((i : Nat) : Int)
            · by_cases hb2 : (1 : Int) ≤ below
              · have hw3 : IntKind.i64.wrap (below - ((fr : Nat) : Int)) = below - ((fr : Nat) : Int) := wrap_i64 (by omega) (by omega)
                have n3 := n3 hb1
                have hb3 : ¬ per ≤ below - ((fr : Nat) : Int) := by omega
                simp only [k10_a, WK, vop, evAll, evOpt, evParts, vbuiltin, vun, vextract, Nat.reduceLT, Nat.reduceEqDiff, ↓reduceIte, reduceCtorEq, Nat.reduceAdd, Int.reduceLT, Int.reduceNeg, valloc_std, noSB, vhot, List.getD_cons_zero, List.getD_cons_succ, m0, m1, m2, m15, m18, hi', hw1, hw2, hw3, hb1, hb2, hb3, ge_iff_le, gt_iff_lt, eq_self, decide_true, decide_false, Bool.not_true]
                exact tail3 _ (by simp [upd_some, m17]) (by simp [upd_some, m18])
              · simp only [k10_a, WK, vop, evAll, evOpt, evParts, vbuiltin, vun, vextract, Nat.reduceLT, Nat.reduceEqDiff, ↓reduceIte, reduceCtorEq, Nat.reduceAdd, Int.reduceLT, Int.reduceNeg, valloc_std, noSB, vhot, List.getD_cons_zero, List.getD_cons_succ, m0, m1, m2, m15, m18, hi', hw1, hw2, hb1, hb2, ge_iff_le, gt_iff_lt, eq_self, decide_true, decide_false, Bool.not_true]
                exact tail3 _ (by simp [upd_some, m17]) (by simp [upd_some, m18])
            · simp only [k10_a, WK, vop, evAll, evOpt, evParts, vbuiltin, vun, vextract, Nat.reduceLT, Nat.reduceEqDiff, ↓reduceIte, reduceCtorEq, Nat.reduceAdd, Int.reduceLT, Int.reduceNeg, valloc_std, noSB, vhot, List.getD_cons_zero, List.getD_cons_succ, m0, m1, m2, m15, m18, hi', hw1, hw2, hb1, eq_self, decide_true, decide_false, Bool.not_true]
              exact tail3 _ (by simp [upd_some, m17]) (by simp [upd_some, m18])
        simp only [k10_a, WK, vop, evAll, evOpt, evParts, vbuiltin, vun, vextract, Nat.reduceLT, Nat.reduceEqDiff, ↓reduceIte, reduceCtorEq, Nat.reduceAdd, Int.reduceLT, Int.reduceNeg, valloc_std, noSB, vhot, List.getD_cons_zero, List.getD_cons_succ, h12, k0, k1, k2, k7, k8, hle', decide_false]
        refine KD.ret c5 ?_
        simp only [k10_a, WK, vop, evAll, evOpt, evParts, vbuiltin, vun, vextract, Nat.reduceLT, Nat.reduceEqDiff, ↓reduceIte, reduceCtorEq, Nat.reduceAdd, Int.reduceLT, Int.reduceNeg, valloc_std, noSB, vhot, List.getD_cons_zero, List.getD_cons_succ, k7, k1, eq_self, decide_true, Bool.not_true]
        refine KD.ret c6 ?_
        rw [← hJ2]
        have hwa : IntKind.i64.wrap (((i : Nat) : Int) - ((fr : Nat) : Int)) = ((i : Nat) : Int) - ((fr : Nat) : Int) := wrap_i64 (by omega) (by omega)
        have hwb : IntKind.i64.wrap (((i : Nat) : Int) - ((fr : Nat) : Int) + 1) = (ps6.length : Nat) := by rw [wrap_i64 (by omega) (by omega)]; omega
        rcases hnum with ⟨hi0, hg0, hf1, h0⟩ | ⟨hi0, n1, n2, n3, n4, n5, n6, n7⟩
        · have hi' : ¬ (0 : Int) < (i : Nat) := by omega
          have hg' : ((g : Nat) : Int) = 0 := by omega
          have hf' : ((fr : Nat) : Int) = 1 := by omega
          have hwa1 : IntKind.i64.wrap (((i : Nat) : Int) - 1) = ((i : Nat) : Int) - 1 := wrap_i64 (by omega) (by omega)
          have hwb1 : IntKind.i64.wrap (((i : Nat) : Int) - 1 + 1) = (ps6.length : Nat) := by rw [wrap_i64 (by omega) (by omega)]; omega
          simp only [k10_a, WK, vop, evAll, evOpt, evParts, vbuiltin, vun, vextract, Nat.reduceLT, Nat.reduceEqDiff, ↓reduceIte, reduceCtorEq, Nat.reduceAdd, Int.reduceLT, Int.reduceNeg, valloc_std, noSB, vhot, List.getD_cons_zero, List.getD_cons_succ, k0, k2, hlw, hwa1, hwb1, hi', hg', hf', gt_iff_lt, eq_self, decide_true, decide_false, Bool.not_true]
          exact tail2 _ (by simp [upd_some, k0]) (by simp [upd_some, k1]) (by simp [upd_some, k2]) (by simp [upd_some, hg0]) (by simp [upd_some]) (by simp [upd_some, hf1])
        · have hi' : (0 : Int) < (i : Nat) := by omega
          have hvm : vmm true (.int .i64 below) (.int .i64 1) = some (.int .i64 (max below 1)) := by
            have e9 : (if (1 : Int) > below then (1 : Int) else below) = max below 1 := by split <;> omega
            unfold vmm
            rw [← e9]
            rfl
          have hmx : ¬ max below 1 < ((fr : Nat) : Int) := by
            rcases n2 with h | h
            · subst h; simp at n1; omega
            · omega
          by_cases hg : ((g : Nat) : Int) = 0
          · have hf' : ((fr : Nat) : Int) = 1 := by rw [hg] at n1; omega
            have hwa1 : IntKind.i64.wrap (((i : Nat) : Int) - 1) = ((i : Nat) : Int) - 1 := wrap_i64 (by omega) (by omega)
            have hwb1 : IntKind.i64.wrap (((i : Nat) : Int) - 1 + 1) = (ps6.length : Nat) := by rw [wrap_i64 (by omega) (by omega)]; omega
            rw [hf'] at hmx
            simp only [k10_a, WK, vop, evAll, evOpt, evParts, vbuiltin, vun, vextract, Nat.reduceLT, Nat.reduceEqDiff, ↓reduceIte, reduceCtorEq, Nat.reduceAdd, Int.reduceLT, Int.reduceNeg, valloc_std, noSB, vhot, List.getD_cons_zero, List.getD_cons_succ, k0, k2, hlw, hwa1, hwb1, hi', hvm, hmx, hg, hf', gt_iff_lt, eq_self, decide_true, decide_false, Bool.not_true]
            exact tail2 _ (by simp [upd_some, k0]) (by simp [upd_some, k1]) (by simp [upd_some, k2]) (by simp [upd_some, hg]) (by simp [upd_some]) (by simp [upd_some, hf'])
          · simp only [k10_a, WK, vop, evAll, evOpt, evParts, vbuiltin, vun, vextract, Nat.reduceLT, Nat.reduceEqDiff, ↓reduceIte, reduceCtorEq, Nat.reduceAdd, Int.reduceLT, Int.reduceNeg, valloc_std, noSB, vhot, List.getD_cons_zero, List.getD_cons_succ, k0, k2, hlw, hwa, hwb, hi', hvm, hmx, hg, gt_iff_lt, eq_self, decide_true, decide_false, Bool.not_true]
            exact tail2 _ (by simp [upd_some, k0]) (by simp [upd_some, k1]) (by simp [upd_some, k2]) (by simp [upd_some]) (by simp [upd_some]) (by simp [upd_some])
      by_cases hx1 : c15 < (ct : Int)
      · have h64 : ¬ per < 64 := fun h => hm ⟨hx1, h⟩
        simp only [k10_a, WK, vop, evAll, evOpt, evParts, vbuiltin, vun, vextract, Nat.reduceLT, Nat.reduceEqDiff, ↓reduceIte, reduceCtorEq, Nat.reduceAdd, Int.reduceLT, Int.reduceNeg, valloc_std, noSB, vhot, List.getD_cons_zero, List.getD_cons_succ, Bool.not_true, hand, h1, decide_true, decide_false, ← hc15, hx1, h64]
        exact tail _ (by simp [upd_some]) (by simp [upd_some]) (by simp [upd_some])
      · simp only [k10_a, WK, vop, evAll, evOpt, evParts, vbuiltin, vun, vextract, Nat.reduceLT, Nat.reduceEqDiff, ↓reduceIte, reduceCtorEq, Nat.reduceAdd, Int.reduceLT, Int.reduceNeg, valloc_std, noSB, vhot, List.getD_cons_zero, List.getD_cons_succ, Bool.not_true, hand, h1, decide_true, decide_false, ← hc15, hx1]
        exact tail _ (by simp [upd_some]) (by simp [upd_some]) (by simp [upd_some])
    obtain ⟨r, σ', ⟨m, h⟩, rfl⟩ := key
    exact ⟨m, σ', h⟩
end Go.Proofs.YtnegdinonfjdfaaDoor.Q

/- What the rows' lists of variables give, and a world that meets them. -/
set_option linter.unusedVariables false
set_option linter.unusedSimpArgs false
set_option maxRecDepth 100000
namespace Go.Proofs.YtnegdinonfjdfaaDoor.Q
open Go Go.RowKit Go.Proofs Go.ChangeShapes Go.WideShapes Go.ChangeAt
noncomputable abbrev listL : List (String × DataW Unit) := Rows.snapBytesUptoRow.laid
theorem only_half : (listL.filter fun x => x.1 == "quern/crc.half") = [("quern/crc.half", Lib.tabData .u32 (half.map fun n : Nat => (n : Int)))] := by kernel_rfl
theorem only_pow : (listL.filter fun x => x.1 == "internal/strconv.uint64pow10") = [("internal/strconv.uint64pow10", Lib.tabData .u64 Lib.pow10Tab)] := by kernel_rfl
theorem only_err : (listL.filter fun x => x.1 == "strconv.ErrSyntax") = [("strconv.ErrSyntax", .iface "*errors.errorString" (.ptr (.agg [.lit (.string [105, 110, 118, 97, 108, 105, 100, 32, 115, 121, 110, 116, 97, 120])])))] := by kernel_rfl
theorem starErr : "*" ++ "errors.errorString" = "*errors.errorString" := by decide
theorem rowErr (u : TypeId) (h : Tryd.prog.typeName? 3 u = some "*errors.errorString") : u = 151 :=
  typeName_ptr_named (nm := "errors.errorString") (by rw [starErr]; kernel_rfl) (by kernel_rfl) (by decide) u (by rw [starErr]; exact h)
theorem lays_of {W : World} (h : laidMetH Tryd.prog listL W) : Lays W.heap.size W := by
  have h1 := h.filter fun x => x.1 == "quern/crc.half"
  have h2 := h.filter fun x => x.1 == "internal/strconv.uint64pow10"
  have h3 := h.filter fun x => x.1 == "strconv.ErrSyntax"
  rw [only_half] at h1
  rw [only_pow] at h2
  rw [only_err] at h3
  have t1 : Lib.TabIs Tryd.prog W "quern/crc.half" .u32 (half.map fun n : Nat => (n : Int)) := Lib.tabIs_of_head (rest := []) (g := 0) (by kernel_rfl) (by kernel_rfl) pTA pTU (by kernel_rfl) (by kernel_rfl) h1
  have t2 : Lib.TabIs Tryd.prog W "internal/strconv.uint64pow10" .u64 Lib.pow10Tab := Lib.tabIs_of_head (rest := []) (g := 1) (by kernel_rfl) (by kernel_rfl) Tryd.underlying134 Tryd.underlying64 (by kernel_rfl) (by kernel_rfl) h2
  obtain ⟨a, s, hv, _⟩ := laid_sentinel (r := []) (g := 2) h3 (by kernel_rfl) (by kernel_rfl) Tryd.underlying97 rowErr Tryd.underlying151 Tryd.underlying153 rfl rfl Tryd.underlying9 (by kernel_rfl) (by kernel_rfl)
  have hg2 : Tryd.prog.globalNamed "strconv.ErrSyntax" = some 2 := by kernel_rfl
  have hc2 : W.cell? ⟨2, 0, none⟩ = some (.iface 151 (.pointer (some a))) := by
    have := World.var?_cell hg2 hv 0
    simpa using this
  refine ⟨?_, fun i hi => ?_, t2, _, hc2, .inr ⟨_, _, rfl⟩⟩
  · have := World.block_lt_of_cell? _ _ hc2
    simp only at this
    omega
  · have hg : Tryd.prog.globalNamed "quern/crc.half" = some 0 := by kernel_rfl
    have := t1.cell hg i hi
    have e : ∀ j : Fin 16, (half.map fun n : Nat => (n : Int)).getD j.val 0 = ((half.getD j.val 0 : Nat) : Int) := by decide
    rw [e ⟨i, hi⟩] at this
    exact this
section
variable {H : Type} {enc : TypeId × Value → H} {P : Program}
theorem law_callsW {pr : Prim} {W : World} (hp : PrimOk P pr W.heap.size W) (hl : laidOutB P = true) {S : List TypeId} (hS : plainS P S = true) {F : FuncId} {ts : List TypeId} (hts : ∀ t, t ∈ ts → t ∈ S) (h20 : ts.length ≤ 20) (hT : LawTrue P pr F ts) {r : Reach} {b : Nat} {args : Array Value} {ds : List (DataW H)} {ps : List MemPlace}
    (hval : ∀ (j : Nat) t v, ts[j]? = some t → args.toList[j]? = some v → Value.okWide P W r b t v) (hA : DataW.TrodAll enc P W 0 (fun _ => true) true ts args.toList ds ps) (hk : Rows.uptoBulkAll ds ≤ 1048576) :
    Calls P F args W fun e W' => e = .returned (.bool true) ∧ Below W.heap.size W W' := by
  obtain ⟨xs, h1, h2, h3⟩ := args_V hl hS hts hval hA
  obtain ⟨n, σ', hn⟩ := hT xs h2 (by omega)
  have := vcall_sound hp hn (gh0 W) W args.toList (rel0 W) h1
  rw [Array.toArray_toList] at this
  refine this.mono fun e W' ⟨g', hE, hR, u, he, hV⟩ => ?_
  simp only [VR] at hV
  subst hV
  exact ⟨he, hR.below⟩
end
/-! ### A world that meets them -/
def cellsD : DataW Unit → Array Value
  | .agg l => (l.map fun | .lit (.int k z) => Value.int k z | _ => undef).toArray
  | _ => #[]
noncomputable def low : Nat := (World.holding Tryd.prog default ⟨#[], #[], []⟩).heap.size
def textR : ByteArray := ⟨#[118, 97, 108, 117, 101, 32, 111, 117, 116, 32, 111, 102, 32, 114, 97, 110, 103, 101]⟩
def textS : ByteArray := ⟨#[105, 110, 118, 97, 108, 105, 100, 32, 115, 121, 110, 116, 97, 120]⟩
noncomputable def laidWorld (os : Os) : World :=
  let w0 := World.holding Tryd.prog os ⟨#[.cells #[.string textR] 153, .cells #[.string textS] 153], #[], []⟩
  let put (h : Array Obj) (g : Nat) (cs : Array Value) : Array Obj := h.modify g fun
    | .cells _ t frozen => .cells cs t frozen
    | o => o
  let h1 := put w0.heap 0 (cellsD Rows.laid_quern_crc_half)
  let h2 := put h1 1 (cellsD Rows.laid_internal_strconv_uint64pow10)
  let h3 := put h2 2 #[.iface 151 (.pointer (some ⟨low + 1, 0, none⟩))]
  let h4 := put h3 3 #[.iface 151 (.pointer (some ⟨low, 0, none⟩))]
  let h5 := put h4 4 (cellsD Rows.laid_math_bits_deBruijn32tab)
  let h6 := put h5 5 (cellsD Rows.laid_math_bits_deBruijn64tab)
  { w0 with heap := h6 }
theorem laid_met (os : Os) (args : Array Value) : laidMet Tryd.prog listL ((laidWorld os).forCall (fun _ _ => 0) ⟨#[], args, []⟩).memory :=
  laidMet_of_run' 8 (by kernel_rfl) (by kernel_rfl)
end Go.Proofs.YtnegdinonfjdfaaDoor.Q

