/- DiskRefuses: whatever the input of bulk at most 1048576: the law answers true, and the input reads as it did. -/
import Derived.Test.YtnbmfhnfmhgaaaaMb7
/- DiskRefuses: for every input of bulk at most 1048576 the law answers true. -/
set_option linter.unusedVariables false
set_option linter.unusedSimpArgs false
set_option maxRecDepth 100000
namespace Go.Proofs.Ytnbmfhnfmhgaaaa.Q
open Go Go.RowKit Go.Proofs
/-! ### Plainly: a call that is refused without a raw write changes nothing -/
theorem append_same {n b : List UInt8} {d : Dk} (h : (appendD n b d).1 ≠ 0) (hw : (appendD n b d).2.writes = d.writes) : (appendD n b d).2 = d := by
  revert h hw
  unfold appendD
  split
  · intro _ _; rfl
  simp only
  split
  · intro _ _; rfl
  split
  · intro _ _; rfl
  split
  · intro _ h; rw [off_writes, raw_w] at h; simp only at h; omega
  · intro h; exact absurd rfl h
theorem sync_same {n : List UInt8} {d : Dk} (h : (syncD n d).1 ≠ 0) (hw : (syncD n d).2.writes = d.writes) : (syncD n d).2 = d := by
  revert h hw
  unfold syncD
  split
  · intro _ _; rfl
  split
  · intro _ h; rw [off_writes, raw_w] at h; omega
  · intro h; exact absurd rfl h
theorem trunc_same {n : List UInt8} {k : Int} {d : Dk} (h : (truncD n k d).1 ≠ 0) (hw : (truncD n k d).2.writes = d.writes) : (truncD n k d).2 = d := by
  revert h hw
  unfold truncD
  split
  · intro _ _; rfl
  simp only
  split
  · intro _ _; rfl
  split
  · intro _ h; rw [off_writes, raw_w] at h; omega
  · intro h; exact absurd rfl h
theorem rename_same {n m : List UInt8} {d : Dk} (h : (renameD n m d).1 ≠ 0) (hw : (renameD n m d).2.writes = d.writes) : (renameD n m d).2 = d := by
  revert h hw
  unfold renameD
  split
  · intro _ _; rfl
  split
  · intro _ _; rfl
  split
  · intro _ h; rw [off_writes, raw_w] at h; omega
  · intro h; exact absurd rfl h
theorem remove_same {n : List UInt8} {d : Dk} (h : (removeD n d).1 ≠ 0) (hw : (removeD n d).2.writes = d.writes) : (removeD n d).2 = d := by
  revert h hw
  unfold removeD
  split
  · intro _ _; rfl
  split
  · intro _ h; rw [off_writes, raw_w] at h; omega
  · intro h; exact absurd rfl h
theorem step_same {o : Opn} {d : Dk} (h : (stepD o d).1.2 ≠ 0) (hw : (stepD o d).2.writes = d.writes) : (stepD o d).2 = d := by
  revert h hw
  unfold stepD
  split
  · exact append_same
  split
  · exact sync_same
  split
  · exact trunc_same
  split
  · exact rename_same
  split
  · exact remove_same
  repeat' split
  all_goals (intro h _; first | rfl | exact absurd rfl h)
/-! ### No disk -/
theorem nil_arm (σ : St) : Does Try.prog prims 24 [.nilp, .int .i64 1, .int .i64 1] σ (.ret (.tuple [])) σ := ⟨60, by kernel_rfl⟩
theorem nil_off (σ : St) : Does Try.prog prims 15 [.nilp, .int .i64 1] σ (.ret (.tuple [])) σ := ⟨60, by kernel_rfl⟩
theorem nil_on (σ : St) : Does Try.prog prims 17 [.nilp] σ (.ret (.tuple [])) σ := ⟨60, by kernel_rfl⟩
theorem nil_room (σ : St) : Does Try.prog prims 25 [.nilp, .int .i64 1] σ (.ret (.tuple [])) σ := ⟨60, by kernel_rfl⟩
theorem nil_read (σ : St) : Does Try.prog prims 12 [.nilp, .str [97]] σ (.ret (.tuple [.nils, .int .i64 2])) σ := ⟨60, by kernel_rfl⟩
theorem nil_append (σ : St) : Does Try.prog prims 10 [.nilp, .str [97], .nils] σ (.ret (.int .i64 2)) σ := ⟨60, by kernel_rfl⟩
theorem nil_sync (σ : St) : Does Try.prog prims 13 [.nilp, .str [97]] σ (.ret (.int .i64 2)) σ := ⟨60, by kernel_rfl⟩
theorem nil_trunc (σ : St) : Does Try.prog prims 26 [.nilp, .str [97], .int .i64 0] σ (.ret (.int .i64 2)) σ := ⟨60, by kernel_rfl⟩
theorem nil_rename (σ : St) : Does Try.prog prims 27 [.nilp, .str [97], .str [98]] σ (.ret (.int .i64 2)) σ := ⟨60, by kernel_rfl⟩
theorem nil_remove (σ : St) : Does Try.prog prims 28 [.nilp, .str [97]] σ (.ret (.int .i64 2)) σ := ⟨60, by kernel_rfl⟩
theorem nil_down (σ : St) : Does Try.prog prims 16 [.nilp] σ (.ret (.bool false)) σ := ⟨60, by kernel_rfl⟩
theorem nil_writes (σ : St) : Does Try.prog prims 23 [.nilp] σ (.ret (.int .i64 0)) σ := ⟨60, by kernel_rfl⟩
theorem nil_names (σ : St) : Does Try.prog prims 11 [.nilp] σ (.ret .nils) σ := ⟨60, by kernel_rfl⟩
/-! ### The walk -/
theorem BBR : RowT Try.prog 22 28 1 24 := ⟨TBB, SBs, ⟨_, (by kernel_rfl : zeroT Try.prog 28 = some .nils), rfl⟩, by kernel_rfl, by omega⟩
theorem mkRows1 (a : V) (h1 : one a = true) : vbuildSlice Try.prog 22 1 [(0, a)] = some (.slice .exact 1 [a] 1) := by
  have hz : zeroT Try.prog 28 = some .nils := by kernel_rfl
  have e : List.range 1 = [0] := by decide
  have hn : vcells V.nils = [V.nils] := rfl
  simp [vbuildSlice, TBB, SBB, hz, hn, zeroCellsV, vfill, setAll, e, vcells_one h1, h1]
theorem neqB' (t : TypeId) (ht : t = 4) (a b : Operand) (x y : Bool) : vbin Try.prog .neq t a b (.bool x) (.bool y) = some (.bool (!(x == y))) := by
  subst ht
  cases x <;> cases y <;> kernel_rfl
theorem hvnB : vlen Try.prog 28 .nils = some (.int .i64 0) := by kernel_rfl
theorem hvnS : vlen Try.prog 31 .nils = some (.int .i64 0) := by kernel_rfl
/-- What was read lies beside the disk. -/
def Was (σ : St) (F : List Nat) (l : List (List UInt8)) (vs : List V) : Prop := vs.length = l.length ∧ ∀ (i : Nat) (h : i < vs.length) (h' : i < l.length), ∃ q, rowOf σ.objs vs[i] = some (q, l[i].map byteV) ∧ ∀ x ∈ q.toList, x ∉ F
theorem Was.frame {σ σ' : St} {F : List Nat} {l : List (List UInt8)} {vs : List V} (h : Was σ F l vs) (hk : KS F σ σ') : Was σ' F l vs := by
  refine ⟨h.1, fun i hi h' => ?_⟩
  obtain ⟨q, h1, h2⟩ := h.2 i hi h'
  exact ⟨q, rowOf_frame h1 fun x hx o ho => hk.ko _ _ (h2 x hx) ho, h2⟩
theorem Was.objs {σ σ' : St} {F : List Nat} {l : List (List UInt8)} {vs : List V} (h : Was σ F l vs) (hk : σ'.objs = σ.objs) : Was σ' F l vs := by
  unfold Was
  rw [hk]
  exact h
theorem Was.snoc {σ : St} {F : List Nat} {l : List (List UInt8)} {vs : List V} (h : Was σ F l vs) {v : V} {b : List UInt8} {q : Option Nat} (hv : rowOf σ.objs v = some (q, b.map byteV)) (hq : ∀ x ∈ q.toList, x ∉ F) : Was σ F (l ++ [b]) (vs ++ [v]) := by
  refine ⟨by simp [h.1], fun i hi h' => ?_⟩
  by_cases hl : i < vs.length
  · have hl2 : i < l.length := by rw [← h.1]; exact hl
    rw [List.getElem_append_left hl, List.getElem_append_left hl2]
    exact h.2 i hl hl2
  · have e1 : i = vs.length := by simp at hi; omega
    have e2 : i = l.length := by rw [← h.1]; exact e1
    have g1 : (vs ++ [v])[i] = v := by simp [e1]
    have g2 : (l ++ [b])[i] = b := by simp [e2]
    rw [g1, g2]
    exact ⟨q, hv, hq⟩
abbrev reads (d : Dk) (l : List (List UInt8)) : List (List UInt8) := l.map fun n => (readD n d).2
theorem diskrefuses_true : LawTrue Try.prog prims 7 [3, 41] := by
  intro args hA hb
  match args, hA with
  | [v, w], ⟨hx, hx2, _⟩ =>
    obtain ⟨n, rfl, hn⟩ : ∃ n : Int, v = .int .i64 n ∧ InI64 n := int_arg T3 hx
    simp only [vbulks] at hb
    obtain ⟨l, hw, ho, hlen⟩ := ops_arg hx2 (by omega)
    have key : ∃ r σ', Does Try.prog prims 7 [.int .i64 n, w] st0 r σ' ∧ r = .ret (.bool true) := by
      apply k7_is.does (by simp)
      obtain ⟨s1, hwk⟩ := wakes_does
      obtain ⟨p2, s2, h2, b, rfl, K2, hb2⟩ := long_sees (σ := s1) hw ho (by omega)
      simp only [k7_a, WK, vop, evAll, evOpt, evParts, vbuiltin, vun, vextract, Nat.reduceLT, Nat.reduceEqDiff, ↓reduceIte, reduceCtorEq, Nat.reduceAdd, Int.reduceLT, Int.reduceNeg, valloc_std, noSB, vhot, List.getD_cons_zero, List.getD_cons_succ]
      refine KD.ret hwk ?_
      simp only [k7_a, WK, vop, evAll, evOpt, evParts, vbuiltin, vun, vextract, Nat.reduceLT, Nat.reduceEqDiff, ↓reduceIte, reduceCtorEq, Nat.reduceAdd, Int.reduceLT, Int.reduceNeg, valloc_std, noSB, vhot, List.getD_cons_zero, List.getD_cons_succ, Bool.not_true]
      refine KD.ret h2 ?_
      cases b with
      | true => simp only [k7_a, WK, vop, evAll, evOpt, evParts, vbuiltin, vun, vextract, Nat.reduceLT, Nat.reduceEqDiff, ↓reduceIte, reduceCtorEq, Nat.reduceAdd, Int.reduceLT, Int.reduceNeg, valloc_std, noSB, vhot]
      | false =>
        have hl := hb2 rfl
        obtain ⟨s3, r, rm, h3, D3, K3, I3⟩ := newdisk_does s2 n
        simp only [k7_a, WK, vop, evAll, evOpt, evParts, vbuiltin, vun, vextract, Nat.reduceLT, Nat.reduceEqDiff, ↓reduceIte, reduceCtorEq, Nat.reduceAdd, Int.reduceLT, Int.reduceNeg, valloc_std, noSB, vhot, List.getD_cons_zero, List.getD_cons_succ]
        refine KD.ret h3 ?_
        simp only [k7_a, WK, vop, evAll, evOpt, evParts, vbuiltin, vun, vextract, Nat.reduceLT, Nat.reduceEqDiff, ↓reduceIte, reduceCtorEq, Nat.reduceAdd, Int.reduceLT, Int.reduceNeg, valloc_std, noSB, vhot, List.getD_cons_zero, List.getD_cons_succ, ofNilP, eql_optr pTD, hw.len]
        refine Ev.loopF (fun (i : Nat) e s => e 36 = .int .i64 (i : Nat) ∧ i ≤ l.length ∧ ∃ d fs, DiskAt s r d rm fs ∧ d.Ok ∧ d.writes ≤ i) (fun i => l.length - i) 0 ?_ ?_
        · exact ⟨by simp [upd_some], Nat.zero_le _, newD n, [], D3, newD_ok hn, Nat.le_refl _⟩
        rintro i e s ⟨h36, hi, d, fs, D, hok, hwr⟩ hf
        have g5 : e 5 = .optr r 0 := (hf 5 (by decide)).trans (by simp [upd_some])
        have g34 : e 34 = w := (hf 34 (by decide)).trans (by simp [upd_some])
        have g35 : e 35 = .int .i64 (l.length : Nat) := (hf 35 (by decide)).trans (by simp [upd_some])
        clear hf
        by_cases hlt : i < l.length
        · have hlt' : (i : Int) < (l.length : Nat) := by omega
          have hwi : IntKind.i64.wrap ((i : Int) + 1) = ((i + 1 : Nat) : Int) := by rw [show ((i : Int) + 1) = ((i + 1 : Nat) : Int) from by omega]; exact wrap_nat (by omega)
          obtain ⟨o, hoe⟩ : ∃ o, o = l[i] := ⟨_, rfl⟩
          have hO := ho l[i] (List.getElem_mem hlt)
          have hld := fun (s : St) => OpsV.load (objs := s.objs) hlt
          rw [← hoe] at hO
          simp only [← hoe] at hld
          obtain ⟨t1, ht1⟩ : ∃ t1 : St, t1 = ⟨s.objs ++ [.cells o.cells], s.toks⟩ := ⟨_, rfl⟩
          have hst := opNew (σ := s) hO.b
          rw [← ht1] at hst
          have Kt1 : KS [] s t1 := by rw [ht1]; exact KS.push _ _ _
          have L1 : t1.objs.length = s.objs.length + 1 := by rw [ht1]; simp
          have ob1 : t1.objs[s.objs.length]? = some (.cells o.cells) := by rw [ht1]; exact push_new _ _
          have hz : vcells (V.agg [.int .i64 0, .str [], .str [], .int .i64 0, .int .i64 0, .nils]) = [.int .i64 0, .str [], .str [], .int .i64 0, .int .i64 0, .nils] := rfl
          have Dt1 := D.pushes Kt1
          obtain ⟨p3, t2, h3n, v10, q10, rfl, n10, K10, I10⟩ := names_sees Dt1 hok
          have D2 := Dt1.pushes K10
          have hFlt := Dt1.lt
          have hle := K10.le
          have hn16 := namesD_len hok
          have R10 : RowS t2 1 v10 ((namesD d).map V.str) (namesD d).length := row_strs n10
          simp only [k7_a, WK, vop, evAll, evOpt, evParts, vbuiltin, vun, vextract, Nat.reduceLT, Nat.reduceEqDiff, ↓reduceIte, reduceCtorEq, Nat.reduceAdd, Int.reduceLT, Int.reduceNeg, valloc_std, noSB, vhot, h36, g35, g34, g5, hlt', decide_true, hw.addr hlt, hld, ZOp, vbox, hz, hst]
          refine KD.ret (writes_does Dt1) ?_
          simp only [k7_a, WK, vop, evAll, evOpt, evParts, vbuiltin, vun, vextract, Nat.reduceLT, Nat.reduceEqDiff, ↓reduceIte, reduceCtorEq, Nat.reduceAdd, Int.reduceLT, Int.reduceNeg, valloc_std, noSB, vhot, g5]
          refine KD.ret (down_does Dt1) ?_
          simp only [k7_a, WK, vop, evAll, evOpt, evParts, vbuiltin, vun, vextract, Nat.reduceLT, Nat.reduceEqDiff, ↓reduceIte, reduceCtorEq, Nat.reduceAdd, Int.reduceLT, Int.reduceNeg, valloc_std, noSB, vhot, g5]
          refine KD.ret h3n ?_
          simp only [k7_a, WK, vop, evAll, evOpt, evParts, vbuiltin, vun, vextract, Nat.reduceLT, Nat.reduceEqDiff, ↓reduceIte, reduceCtorEq, Nat.reduceAdd, Int.reduceLT, Int.reduceNeg, valloc_std, noSB, vhot, g5, R10.len TSS, nilEP]
          refine Ev.loopF (fun (j : Nat) e2 t => e2 48 = .int .i64 (j : Nat) ∧ j ≤ (namesD d).length ∧ ∃ vs, OwnR 28 1 t2.toks.length t (e2 11) vs j ∧ Was t (foot r rm fs) (reads d ((namesD d).take j)) vs ∧ KS [] t2 t) (fun j => (namesD d).length - j) 0 ?_ ?_
          · exact ⟨by simp [upd_some], Nat.zero_le _, [], by simpa [upd_some] using OwnR.nil, ⟨rfl, fun i hi => by simp at hi⟩, KS.refl _ _⟩
          rintro j e2 t ⟨k48, hj, vs, hown, hwas, kk⟩ hf2
          have k5 : e2 5 = .optr r 0 := (hf2 5 (by decide)).trans (by simp [upd_some, g5])
          have k7 : e2 7 = .optr s.objs.length 0 := (hf2 7 (by decide)).trans (by simp [upd_some])
          have k8 : e2 8 = .int .i64 (d.writes : Nat) := (hf2 8 (by decide)).trans (by simp [upd_some])
          have k9 : e2 9 = .bool (!d.on) := (hf2 9 (by decide)).trans (by simp [upd_some])
          have k10 : e2 10 = v10 := (hf2 10 (by decide)).trans (by simp [upd_some])
          have k34 : e2 34 = w := (hf2 34 (by decide)).trans (by simp [upd_some, g34])
          have k35 : e2 35 = .int .i64 (l.length : Nat) := (hf2 35 (by decide)).trans (by simp [upd_some, g35])
          have k36 : e2 36 = .int .i64 (i : Nat) := (hf2 36 (by decide)).trans (by simp [upd_some, h36])
          have k46 : e2 46 = v10 := (hf2 46 (by decide)).trans (by simp [upd_some])
          have k47 : e2 47 = .int .i64 ((namesD d).length : Nat) := (hf2 47 (by decide)).trans (by simp [upd_some])
          clear hf2
          have Dt := D2.pushes kk
          by_cases hjt : j < (namesD d).length
          · have hjt' : (j : Int) < ((namesD d).length : Nat) := by omega
            have hwj : IntKind.i64.wrap ((j : Int) + 1) = ((j + 1 : Nat) : Int) := by rw [show ((j : Int) + 1) = ((j + 1 : Nat) : Int) from by omega]; exact wrap_nat (by omega)
            obtain ⟨pa, ha, hal⟩ := R10.strAt hjt
            obtain ⟨p8, t8, h8, v8, q8, rfl, n8, K8, I8⟩ := read_sees (n := (namesD d)[j]) Dt hok
            have hwas8 := (hwas.frame (K8.nils)).snoc n8 (fun x hx hF => by
              have h1 := I8 x hx
              have h2 := hFlt x hF
              have h3 := kk.le
              omega)
            have kk8 := kk.trans' K8
            have hone := rowOf_one n8
            obtain ⟨v9, t9, a1, a2, a3, a4⟩ := (hown.keep K8.tk).appendO BBR (σ0 := t2) rfl kk8.keep (t2 := 22) (y := .slice .exact 1 [v8] 1) (ys := [v8]) (l := 1) (by simp [vnewsO, vnews, TBB]) rfl (by simp [hone]) (by omega) (by omega)
            simp only [k7_a, WK, vop, evAll, evOpt, evParts, vbuiltin, vun, vextract, Nat.reduceLT, Nat.reduceEqDiff, ↓reduceIte, reduceCtorEq, Nat.reduceAdd, Int.reduceLT, Int.reduceNeg, valloc_std, noSB, vhot, k48, k47, k46, k5, hjt', decide_true, ha, hal t kk]
            refine KD.ret h8 ?_
            simp only [k7_a, WK, vop, evAll, evOpt, evParts, vbuiltin, vun, vextract, Nat.reduceLT, Nat.reduceEqDiff, ↓reduceIte, reduceCtorEq, Nat.reduceAdd, Int.reduceLT, Int.reduceNeg, valloc_std, noSB, vhot, k48, mkRows1 v8 hone, a1, hwj]
            refine ⟨j + 1, ⟨by simp [upd_some], by omega, vs ++ [v8], by simpa [upd_some] using a2, ?_, ⟨fun q o hq ho => ?_, ?_, a3.2.1, a3.2.2⟩⟩, by omega⟩
            · have e1 : reads d ((namesD d).take (j + 1)) = reads d ((namesD d).take j) ++ [(readD (namesD d)[j] d).2] := by
                rw [reads, List.take_succ_eq_append_getElem hjt, List.map_append]; rfl
              rw [e1]
              exact hwas8.objs a4
            · exact a3.1 q o ho
            · rw [a4]; exact kk8.le
          · have hjt' : ¬ (j : Int) < ((namesD d).length : Nat) := by omega
            have hj2 : j = (namesD d).length := by omega
            have ej : (namesD d).take j = namesD d := List.take_of_length_le (by omega)
            rw [ej] at hwas
            have ao : vload Try.prog t.objs 46 (.optr s.objs.length 0) = some (.agg o.cells) := vload_agg (kk.ko _ _ (by simp) (K10.ko _ _ (by simp) ob1)) GOp (by rw [SOp]; rfl)
            obtain ⟨p5, t4, e5, v16, q16, rfl, n16, ⟨fs2, D4, K4, I4⟩, J4⟩ := does_sees Dt hok hO (by omega)
            have hso := step_ok hok hO
            have hwas4 := hwas.frame K4
            simp only [k7_a, WK, vop, evAll, evOpt, evParts, vbuiltin, vun, vextract, Nat.reduceLT, Nat.reduceEqDiff, ↓reduceIte, reduceCtorEq, Nat.reduceAdd, Int.reduceLT, Int.reduceNeg, valloc_std, noSB, vhot, k48, k47, k7, k5, hjt', decide_false, ao]
            refine KD.ret e5 ?_
            by_cases hz0 : ((stepD o d).1.2 : Nat) = 0
            · have hz0' : (((stepD o d).1.2 : Nat) : Int) = 0 := by omega
              simp only [k7_a, WK, vop, evAll, evOpt, evParts, vbuiltin, vun, vextract, Nat.reduceLT, Nat.reduceEqDiff, ↓reduceIte, reduceCtorEq, Nat.reduceAdd, Int.reduceLT, Int.reduceNeg, valloc_std, noSB, vhot, hz0', eq_self, decide_true, k36, hwi]
              exact ⟨i + 1, ⟨by simp [upd_some], by omega, (stepD o d).2, fs2, D4, hso.1, by omega⟩, by omega⟩
            · have hz0' : ¬ (((stepD o d).1.2 : Nat) : Int) = 0 := by omega
              simp only [k7_a, WK, vop, evAll, evOpt, evParts, vbuiltin, vun, vextract, Nat.reduceLT, Nat.reduceEqDiff, ↓reduceIte, reduceCtorEq, Nat.reduceAdd, Int.reduceLT, Int.reduceNeg, valloc_std, noSB, vhot, hz0', decide_false, k5]
              refine KD.ret (writes_does D4) ?_
              by_cases hwn : (stepD o d).2.writes = d.writes
              · have hwn' : (((stepD o d).2.writes : Nat) : Int) = (d.writes : Nat) := by omega
                have hsame := step_same hz0 hwn
                rw [hsame] at D4
                obtain ⟨p6, t5, h6, v18, q18, rfl, n18, K18, I18⟩ := names_sees D4 hok
                have D5 := D4.pushes K18
                have R18 : RowS t5 1 v18 ((namesD d).map V.str) (namesD d).length := row_strs n18
                have n10' : rowOf t5.objs v10 = some (q10, (namesD d).map V.str) := rowOf_frame n10 fun x hx p hp => K18.ko _ _ (by simp) (K4.ko _ _ (fun hF => by
                  have h1 := I10 x hx
                  have h2 := hFlt x hF
                  omega) (kk.ko _ _ (by simp) hp))
                have R10' : RowS t5 1 v10 ((namesD d).map V.str) (namesD d).length := row_strs n10'
                have hdn := down_does D5
                simp only [k7_a, WK, vop, evAll, evOpt, evParts, vbuiltin, vun, vextract, Nat.reduceLT, Nat.reduceEqDiff, ↓reduceIte, reduceCtorEq, Nat.reduceAdd, Int.reduceLT, Int.reduceNeg, valloc_std, noSB, vhot, k8, hwn', eq_self, decide_true, Bool.not_true, k5]
                refine KD.ret h6 ?_
                simp only [k7_a, WK, vop, evAll, evOpt, evParts, vbuiltin, vun, vextract, Nat.reduceLT, Nat.reduceEqDiff, ↓reduceIte, reduceCtorEq, Nat.reduceAdd, Int.reduceLT, Int.reduceNeg, valloc_std, noSB, vhot, k5]
                refine KD.ret hdn ?_
                simp only [k7_a, WK, vop, evAll, evOpt, evParts, vbuiltin, vun, vextract, Nat.reduceLT, Nat.reduceEqDiff, ↓reduceIte, reduceCtorEq, Nat.reduceAdd, Int.reduceLT, Int.reduceNeg, valloc_std, noSB, vhot, k9, k10, neqB' 4 rfl, beq_self_eq_true, Bool.not_true, R18.len TSS, R10'.len TSS, eq_self, decide_true]
                refine Ev.loopF (fun (m : Nat) e3 u => e3 92 = .int .i64 (m : Nat) ∧ m ≤ (namesD d).length ∧ KS [] t5 u) (fun m => (namesD d).length - m) 0 ?_ ?_
                · exact ⟨by simp [upd_some], Nat.zero_le _, KS.refl _ _⟩
                rintro m e3 u ⟨m92, hm, ku⟩ hf3
                have m5 : e3 5 = .optr r 0 := (hf3 5 (by decide)).trans (by simp [upd_some, k5])
                have m10 : e3 10 = v10 := (hf3 10 (by decide)).trans (by simp [upd_some, k10])
                have m11 : e3 11 = e2 11 := (hf3 11 (by decide)).trans (by simp [upd_some])
                have m36 : e3 36 = .int .i64 (i : Nat) := (hf3 36 (by decide)).trans (by simp [upd_some, k36])
                have m90 : e3 90 = v18 := (hf3 90 (by decide)).trans (by simp [upd_some])
                have m91 : e3 91 = .int .i64 ((namesD d).length : Nat) := (hf3 91 (by decide)).trans (by simp [upd_some])
                clear hf3
                by_cases hmt : m < (namesD d).length
                · have hmt' : (m : Int) < ((namesD d).length : Nat) := by omega
                  have hwm : IntKind.i64.wrap ((m : Int) + 1) = ((m + 1 : Nat) : Int) := by rw [show ((m : Int) + 1) = ((m + 1 : Nat) : Int) from by omega]; exact wrap_nat (by omega)
                  obtain ⟨pb, hb', hbl⟩ := R18.strAt hmt
                  obtain ⟨pc, hc', hcl⟩ := R10'.strAt hmt
                  obtain ⟨p7, u2, h7, v21, q21, rfl, n21, K21, I21⟩ := read_sees (n := (namesD d)[m]) (D5.pushes ku) hok
                  have ku2 := ku.trans' K21
                  have hvl : m < vs.length := by rw [hwas.1]; simp [hmt]
                  obtain ⟨qq, hq1, hq2⟩ := hwas4.2 m hvl (by simp [hmt])
                  rw [List.getElem_map] at hq1
                  have hq3 := rowOf_frame hq1 fun x hx p hp => ku2.ko _ _ (by simp) (K18.ko _ _ (by simp) hp)
                  have hrow := hown.row
                  have haw : vindexAddr Try.prog 22 (e2 11) (.int .i64 (m : Nat)) = some (.eptr vs m) := by
                    have := RowV.addr hrow TBB SBs (by omega) (kk := .i64) (i := (m : Int)) (by omega) (by omega)
                    rwa [Int.toNat_natCast, Nat.mul_one] at this
                  have hlw : ∀ objs, vload Try.prog objs 28 (.eptr vs m) = some vs[m] := fun objs => by simp [vload, vcellsAt, vpart, pGB, hvl]
                  have hsm := same3_does (rowOf_rb n21) (rowOf_rb hq3) (by have := readD_len hok (namesD d)[m]; omega)
                  rw [decide_eq_true rfl] at hsm
                  simp only [k7_a, WK, vop, evAll, evOpt, evParts, vbuiltin, vun, vextract, Nat.reduceLT, Nat.reduceEqDiff, ↓reduceIte, reduceCtorEq, Nat.reduceAdd, Int.reduceLT, Int.reduceNeg, valloc_std, noSB, vhot, m92, m91, m90, m5, hmt', decide_true, hb', hbl u ku]
                  refine KD.ret h7 ?_
                  simp only [k7_a, WK, vop, evAll, evOpt, evParts, vbuiltin, vun, vextract, Nat.reduceLT, Nat.reduceEqDiff, ↓reduceIte, reduceCtorEq, Nat.reduceAdd, Int.reduceLT, Int.reduceNeg, valloc_std, noSB, vhot, m92, m10, m11, hc', hcl u2 ku2, sbN, eq_self, decide_true, Bool.not_true, haw, hlw]
                  refine KD.ret hsm ?_
                  simp only [k7_a, WK, vop, evAll, evOpt, evParts, vbuiltin, vun, vextract, Nat.reduceLT, Nat.reduceEqDiff, ↓reduceIte, reduceCtorEq, Nat.reduceAdd, Int.reduceLT, Int.reduceNeg, valloc_std, noSB, vhot, Bool.not_true, m92, hwm]
                  exact ⟨m + 1, ⟨by simp [upd_some], by omega, ku2⟩, by omega⟩
                · have hmt' : ¬ (m : Int) < ((namesD d).length : Nat) := by omega
                  simp only [k7_a, WK, vop, evAll, evOpt, evParts, vbuiltin, vun, vextract, Nat.reduceLT, Nat.reduceEqDiff, ↓reduceIte, reduceCtorEq, Nat.reduceAdd, Int.reduceLT, Int.reduceNeg, valloc_std, noSB, vhot, m92, m91, hmt', decide_false, m36, hwi]
                  exact ⟨i + 1, ⟨by simp [upd_some], by omega, d, fs2, D5.pushes ku, hok, by omega⟩, by omega⟩
              · have hwn' : ¬ (((stepD o d).2.writes : Nat) : Int) = (d.writes : Nat) := by omega
                simp only [k7_a, WK, vop, evAll, evOpt, evParts, vbuiltin, vun, vextract, Nat.reduceLT, Nat.reduceEqDiff, ↓reduceIte, reduceCtorEq, Nat.reduceAdd, Int.reduceLT, Int.reduceNeg, valloc_std, noSB, vhot, k8, hwn', decide_false, Bool.not_false, k36, hwi]
                exact ⟨i + 1, ⟨by simp [upd_some], by omega, (stepD o d).2, fs2, D4, hso.1, by omega⟩, by omega⟩
        · have hlt' : ¬ (i : Int) < (l.length : Nat) := by omega
          have oa : ofVal (Value.string { data := #[97] }) = some (.str [97]) := rfl
          have ob : ofVal (Value.string { data := #[98] }) = some (.str [98]) := rfl
          simp only [k7_a, WK, vop, evAll, evOpt, evParts, vbuiltin, vun, vextract, Nat.reduceLT, Nat.reduceEqDiff, ↓reduceIte, reduceCtorEq, Nat.reduceAdd, Int.reduceLT, Int.reduceNeg, valloc_std, noSB, vhot, h36, g35, hlt', decide_false, ofNilP, oa, ob, nilEP]
          refine KD.ret (nil_arm _) ?_
          simp only [k7_a, WK, vop, evAll, evOpt, evParts, vbuiltin, vun, vextract, Nat.reduceLT, Nat.reduceEqDiff, ↓reduceIte, reduceCtorEq, Nat.reduceAdd, Int.reduceLT, Int.reduceNeg, valloc_std, noSB, vhot]
          refine KD.ret (nil_off _) ?_
          simp only [k7_a, WK, vop, evAll, evOpt, evParts, vbuiltin, vun, vextract, Nat.reduceLT, Nat.reduceEqDiff, ↓reduceIte, reduceCtorEq, Nat.reduceAdd, Int.reduceLT, Int.reduceNeg, valloc_std, noSB, vhot]
          refine KD.ret (nil_on _) ?_
          simp only [k7_a, WK, vop, evAll, evOpt, evParts, vbuiltin, vun, vextract, Nat.reduceLT, Nat.reduceEqDiff, ↓reduceIte, reduceCtorEq, Nat.reduceAdd, Int.reduceLT, Int.reduceNeg, valloc_std, noSB, vhot]
          refine KD.ret (nil_room _) ?_
          simp only [k7_a, WK, vop, evAll, evOpt, evParts, vbuiltin, vun, vextract, Nat.reduceLT, Nat.reduceEqDiff, ↓reduceIte, reduceCtorEq, Nat.reduceAdd, Int.reduceLT, Int.reduceNeg, valloc_std, noSB, vhot, oa, ob]
          refine KD.ret (nil_read _) ?_
          simp only [k7_a, WK, vop, evAll, evOpt, evParts, vbuiltin, vun, vextract, Nat.reduceLT, Nat.reduceEqDiff, ↓reduceIte, reduceCtorEq, Nat.reduceAdd, Int.reduceLT, Int.reduceNeg, valloc_std, noSB, vhot, eq_self, decide_true, hvnB, oa, ob, nilEP]
          refine KD.ret (nil_append _) ?_
          simp only [k7_a, WK, vop, evAll, evOpt, evParts, vbuiltin, vun, vextract, Nat.reduceLT, Nat.reduceEqDiff, ↓reduceIte, reduceCtorEq, Nat.reduceAdd, Int.reduceLT, Int.reduceNeg, valloc_std, noSB, vhot, eq_self, decide_true, oa, ob, nilEP]
          refine KD.ret (nil_sync _) ?_
          simp only [k7_a, WK, vop, evAll, evOpt, evParts, vbuiltin, vun, vextract, Nat.reduceLT, Nat.reduceEqDiff, ↓reduceIte, reduceCtorEq, Nat.reduceAdd, Int.reduceLT, Int.reduceNeg, valloc_std, noSB, vhot, eq_self, decide_true, oa, ob, nilEP]
          refine KD.ret (nil_trunc _) ?_
          simp only [k7_a, WK, vop, evAll, evOpt, evParts, vbuiltin, vun, vextract, Nat.reduceLT, Nat.reduceEqDiff, ↓reduceIte, reduceCtorEq, Nat.reduceAdd, Int.reduceLT, Int.reduceNeg, valloc_std, noSB, vhot, eq_self, decide_true, oa, ob, nilEP]
          refine KD.ret (nil_rename _) ?_
          simp only [k7_a, WK, vop, evAll, evOpt, evParts, vbuiltin, vun, vextract, Nat.reduceLT, Nat.reduceEqDiff, ↓reduceIte, reduceCtorEq, Nat.reduceAdd, Int.reduceLT, Int.reduceNeg, valloc_std, noSB, vhot, eq_self, decide_true, oa, ob, nilEP]
          refine KD.ret (nil_remove _) ?_
          simp only [k7_a, WK, vop, evAll, evOpt, evParts, vbuiltin, vun, vextract, Nat.reduceLT, Nat.reduceEqDiff, ↓reduceIte, reduceCtorEq, Nat.reduceAdd, Int.reduceLT, Int.reduceNeg, valloc_std, noSB, vhot, eq_self, decide_true, oa, ob, nilEP]
          refine KD.ret (nil_down _) ?_
          simp only [k7_a, WK, vop, evAll, evOpt, evParts, vbuiltin, vun, vextract, Nat.reduceLT, Nat.reduceEqDiff, ↓reduceIte, reduceCtorEq, Nat.reduceAdd, Int.reduceLT, Int.reduceNeg, valloc_std, noSB, vhot, eq_self, decide_true, Bool.not_false, oa, ob, nilEP]
          refine KD.ret (nil_writes _) ?_
          simp only [k7_a, WK, vop, evAll, evOpt, evParts, vbuiltin, vun, vextract, Nat.reduceLT, Nat.reduceEqDiff, ↓reduceIte, reduceCtorEq, Nat.reduceAdd, Int.reduceLT, Int.reduceNeg, valloc_std, noSB, vhot, eq_self, decide_true, oa, ob, nilEP]
          refine KD.ret (nil_names _) ?_
          simp only [k7_a, WK, vop, evAll, evOpt, evParts, vbuiltin, vun, vextract, Nat.reduceLT, Nat.reduceEqDiff, ↓reduceIte, reduceCtorEq, Nat.reduceAdd, Int.reduceLT, Int.reduceNeg, valloc_std, noSB, vhot, eq_self, decide_true, hvnS]
    obtain ⟨r, σ', ⟨m, h⟩, rfl⟩ := key
    exact ⟨m, σ', h⟩
end Go.Proofs.Ytnbmfhnfmhgaaaa.Q

set_option linter.unusedVariables false
namespace Go.Proofs.Ytnbmfhnfmhgaaaa.rowDiskRefuses
open Go Go.ChangeShapes Go.WideShapes Go.ChangeAt Go.RowKit Go.Proofs Go.Proofs.Ytnbmfhnfmhgaaaa.Q
theorem own : ownKnob Try.prog.godebug = none := by kernel_rfl
set_option maxRecDepth 100000 in
theorem contract (H : Type) (enc : TypeId × Value → H) (W : World) (base : Nat) (args : Array Value) (ds gs : List (DataW H)) (before : List MemPlace)
    (hval : ∀ (j : Nat) t v, Try.f7.params[j]? = some t → args[j]? = some v → Value.okWide Try.prog W .any base t v)
    (hW : DataW.Whole enc Try.prog Try.f7.params.toList Rows.diskRefusesSpec.vars false W args.toList ds gs before) (hk : Rows.uptoSmall H (ds ++ gs) = true) :
    Calls Try.prog 7 args W fun e W' => ∃ v, e = .returned v ∧ Rows.diskRefusesSpec.post enc Try.prog Try.f7 false true false false W args v W' := by
  have hl : laidOutB Try.prog = true := by kernel_rfl
  have hS : plainS Try.prog [3, 41, 46, 9, 28, 5] = true := by kernel_rfl
  have hpar : Try.f7.params.toList = [3, 41] := rfl
  have hW' := hW
  obtain ⟨p, q, hA, hV, rfl, hfz, hnd⟩ := hW
  obtain ⟨rfl, rfl⟩ := trodVars_none hV
  rw [List.append_nil] at hk
  have hk2 : Rows.uptoBulkAll ds ≤ 1048576 := of_decide_eq_true hk
  rw [hpar] at hA
  refine (law_calls prims_ok hl hS (ts := [3, 41]) (by decide) (by decide) diskrefuses_true (fun j t v h1 h2 => hval j t v (by rw [← Array.getElem?_toList, hpar]; exact h1) (by rw [← Array.getElem?_toList]; exact h2)) hA hk2).mono fun e W' h => ?_
  obtain ⟨rfl, hb⟩ := h
  exact law_post (tb := 4) hl rfl (by kernel_rfl) (by kernel_rfl) rfl hW' (by
    have hgs : ds.length = 2 := by rw [trodAll_len hA]; rfl
    match ds, hgs with
    | [d0, d1], _ => exact ⟨rfl, rfl, rfl⟩) hb
set_option maxRecDepth 100000 in
theorem lifted (os : Os) (started : os.Started) (H : Type) (enc : TypeId × Value → H) (F : Stop.Interp) :
    ReturnsInHanded {} Try.checked os 7 .any ((Rows.OpenSpec.upto Rows.diskRefusesSpec).pre6 enc Try.prog Try.f7 Rows.diskRefusesUptoRow.domain false) (((Rows.OpenSpec.upto Rows.diskRefusesSpec).at F).post enc Try.prog Try.f7 false true false false) := by
  refine returnsInHanded_of_cond (C := Try.checked) (s := Rows.OpenSpec.upto Rows.diskRefusesSpec) (k := Rows.uptoSmall) rfl own started (by kernel_rfl) Try.func7
    (OpenSpec.witness (enc := enc) (C := Try.checked) (s := Rows.OpenSpec.upto Rows.diskRefusesSpec) (k := Rows.uptoSmall) rfl false ⟨#[], #[.int .i64 0, .slice none 0 0], []⟩ 8 (by kernel_rfl) (by kernel_rfl) (by kernel_rfl)
      (x := ([.lit (.int .i64 0), .nil], [], [])) (by kernel_rfl) rfl (by kernel_rfl)) ?_
  intro W base args ds gs before hval hW _ hk _
  exact contract H enc W base args ds gs before hval hW hk
theorem proved : Rows.DiskRefusesUptoSaid :=
  OpenClaim.holds_of_cond 7 Try.f7 rfl rfl rfl rfl rfl rfl rfl ⟨rfl, rfl, rfl, rfl, rfl⟩ rfl rfl rfl rfl rfl (by kernel_rfl) Try.func7 (by kernel_rfl)
    (of_decide_eq_true (by kernel_rfl)) (by unfold Func.isWrapper; first | (rw [if_pos (by decide +kernel)]; kernel_rfl) | (rw [if_neg (by decide +kernel)]; exact ⟨rfl, rfl⟩))
    (fun os started H enc _ F => lifted os started H enc F)
end Go.Proofs.Ytnbmfhnfmhgaaaa.rowDiskRefuses

