/- A part of the proof: Vm, Lw. -/
import Derived.Test.YtnegdinonfjdfaaDoorMf8
import Derived.Test.YtnegdinonfjdfaaDoorMf6
import Derived.Test.YtnegdinonfjdfaaDoorCards
import Derived.Test.YtnegdinonfjdfaaDoorTie
import Derived.WalkKit
import Derived.ProofKit
import Derived.OpenShut
import Derived.Deep.DeepHandedRow
import Derived.Deep.DeepWitnessRowRef
import Derived.Lib.LaidTab
import Derived.LaidSub
import Derived.Stop.LaidErr
/- WalLoses. -/
set_option linter.unusedVariables false
set_option linter.unusedSimpArgs false
set_option maxRecDepth 100000
namespace Go.Proofs.YtnegdinonfjdfaaDoor.Q
open Go Go.RowKit Go.Proofs
theorem FOWl : fieldsOf Tryd.prog 57 = [(37, 0), (3, 1), (3, 2), (3, 3), (3, 4), (3, 5)] := by kernel_rfl
theorem COWl : Tryd.prog.cellsOf 57 = 6 := by kernel_rfl
theorem CObb4 : Tryd.prog.cellsOf 37 = 1 := by kernel_rfl
theorem COin4 : Tryd.prog.cellsOf 3 = 1 := by kernel_rfl
theorem Gbb4 : isAggT Tryd.prog 37 = some false := by kernel_rfl
theorem wloss_arg {x : V} (h : ArgT Tryd.prog 57 x) : ∃ (w : V) (per cut kp again kept : Int) (l : List BV), x = .agg [w, .int .i64 per, .int .i64 cut, .int .i64 kp, .int .i64 again, .int .i64 kept] ∧ PtsV w l ∧ (∀ p ∈ l, BtsV p.1 p.2 ∧ p.2.length ≤ vbulk w) ∧ l.length ≤ vbulk w ∧ InI64 per ∧ InI64 cut ∧ InI64 kp ∧ InI64 again ∧ InI64 kept := by
  obtain ⟨k, cs, rfl, h0⟩ := ArgT_struct FOWl h
  obtain ⟨k', hl, hf⟩ := VT_struct FOWl h0
  rw [COWl] at hl
  simp only [List.mem_cons, List.not_mem_nil, or_false, forall_eq_or_imp, forall_eq, CObb4, COin4] at hf
  obtain ⟨f0, f1, f2, f3, f4, f5⟩ := hf
  obtain ⟨a1, h1, w1⟩ := VT_int T3 f1
  obtain ⟨a2, h2, w2⟩ := VT_int T3 f2
  obtain ⟨a3, h3, w3⟩ := VT_int T3 f3
  obtain ⟨a4, h4, w4⟩ := VT_int T3 f4
  obtain ⟨a5, h5, w5⟩ := VT_int T3 f5
  match cs, hl with
  | [x0, x1, x2, x3, x4, x5], _ =>
    simp only [List.drop_zero, List.drop_succ_cons, List.take_succ_cons, List.take_zero] at f0 h1 h2 h3 h4 h5
    injection h1 with h1 _
    injection h2 with h2 _
    injection h3 with h3 _
    injection h4 with h4 _
    injection h5 with h5 _
    obtain ⟨l, hw, ho, hlen⟩ := pts_arg (x := x0) (by unfold ArgT; rw [TBB]; exact ⟨k', f0⟩)
    exact ⟨x0, a1, a2, a3, a4, a5, l, by rw [h1, h2, h3, h4, h5], hw, ho, hlen, InI64_of w1, InI64_of w2, InI64_of w3, InI64_of w4, InI64_of w5⟩
theorem lW0 (r : Nat) : vfieldAddr Tryd.prog 57 (.optr r 0) 0 = some (.optr r 0) := by kernel_rfl
theorem lW1 (r : Nat) : vfieldAddr Tryd.prog 57 (.optr r 0) 1 = some (.optr r 1) := by kernel_rfl
theorem lW2 (r : Nat) : vfieldAddr Tryd.prog 57 (.optr r 0) 2 = some (.optr r 2) := by kernel_rfl
theorem lW3 (r : Nat) : vfieldAddr Tryd.prog 57 (.optr r 0) 3 = some (.optr r 3) := by kernel_rfl
theorem lW4 (r : Nat) : vfieldAddr Tryd.prog 57 (.optr r 0) 4 = some (.optr r 4) := by kernel_rfl
theorem lW5 (r : Nat) : vfieldAddr Tryd.prog 57 (.optr r 0) 5 = some (.optr r 5) := by kernel_rfl
theorem wwakes_over (o : Ob) : (match vcall Tryd.prog prims 300 27 [] ⟨[o], []⟩ with | some (.ret (.bool true), σ) => σ.objs[0]? | _ => none) = some o := by kernel_rfl
theorem wwakes_keep (o : Ob) : ∃ σ, Does Tryd.prog prims 27 [] ⟨[o], []⟩ (.ret (.bool true)) σ ∧ σ.objs[0]? = some o := by
  have h := wwakes_over o
  split at h
  · rename_i σ hv
    exact ⟨σ, ⟨300, hv⟩, h⟩
  · cases h
theorem stays {s s' : St} {r rm k : Nat} {fs fs' : List Ent} {o : Ob} (h : s.objs[k]? = some o) (hn : k ∉ foot r rm fs) (K : KS (foot r rm fs) s s') (I : ∀ x ∈ foot r rm fs', x ∈ foot r rm fs ∨ s.objs.length ≤ x) : s'.objs[k]? = some o ∧ k ∉ foot r rm fs' := by
  refine ⟨K.ko _ _ hn h, fun hx => ?_⟩
  have := (List.getElem?_eq_some_iff.1 h).1
  rcases I _ hx with h | h
  · exact hn h
  · omega
theorem Lies.off {d : Dk} {B : List FJ} (h : Lies d B) (k : Int) : Lies (offD k d) B ∧ (offD k d).on = false ∧ (offD k d).writes = d.writes := by
  have hok := h.ok.off k
  cases hon : d.on with
  | false =>
    have e : offD k d = d := by unfold offD; rw [if_neg (by rw [hon]; simp)]
    rw [e]
    exact ⟨h, hon, rfl⟩
  | true =>
    refine ⟨h.same hok ?_, (off_on hon).1, ?_⟩
    · rw [(off_on hon).2.1, off_still h.still]
    · unfold offD; rw [if_pos hon]
theorem szR_take (l : List BV) (i : Nat) (h : i < l.length) : szR ((l.take (i + 1)).map Prod.snd) = szR ((l.take i).map Prod.snd) + (l[i].2.length + 8) := by
  rw [List.take_succ_eq_append_getElem h, List.map_append, szR_app]
  simp [szR]; omega
theorem walloses_true : LawTrue Tryd.prog prims 9 [57] := by
  intro args hA hb
  match args, hA with
  | [x], ⟨hx, _⟩ =>
    obtain ⟨w, per, cut, kp, again, kept, l0, rfl, hw, hop, hlenl, hper, hcut, hkp, hagain, hkept⟩ := wloss_arg hx
    simp only [vbulks, vbulk] at hb
    obtain ⟨ob0, hob0⟩ : ∃ ob0 : Ob, ob0 = .cells [w, .int .i64 per, .int .i64 cut, .int .i64 kp, .int .i64 again, .int .i64 kept] := ⟨_, rfl⟩
    have key : ∃ r σ', Does Tryd.prog prims 9 [.agg [w, .int .i64 per, .int .i64 cut, .int .i64 kp, .int .i64 again, .int .i64 kept]] st0 r σ' ∧ r = .ret (.bool true) := by
      apply k9_is.does (by simp)
      obtain ⟨s1, hwk, ho1⟩ := wwakes_keep ob0
      have hvc : vcells (V.agg [w, .int .i64 per, .int .i64 cut, .int .i64 kp, .int .i64 again, .int .i64 kept]) = [w, .int .i64 per, .int .i64 cut, .int .i64 kp, .int .i64 again, .int .i64 kept] := rfl
      have hwk : Does Tryd.prog prims 27 [] ⟨st0.objs ++ [.cells [w, .int .i64 per, .int .i64 cut, .int .i64 kp, .int .i64 again, .int .i64 kept]], st0.toks⟩ (.ret (.bool true)) s1 := by rw [← hob0]; exact hwk
      have ld0 : ∀ s : St, s.objs[0]? = some ob0 → vload Tryd.prog s.objs 37 (.optr 0 0) = some w := fun s h => by rw [vload_obj (h.trans (by rw [hob0])) Gbb4]; rfl
      have ld1 : ∀ s : St, s.objs[0]? = some ob0 → vload Tryd.prog s.objs 3 (.optr 0 1) = some (.int .i64 per) := fun s h => by rw [vload_obj (h.trans (by rw [hob0])) G3]; rfl
      have ld2 : ∀ s : St, s.objs[0]? = some ob0 → vload Tryd.prog s.objs 3 (.optr 0 2) = some (.int .i64 cut) := fun s h => by rw [vload_obj (h.trans (by rw [hob0])) G3]; rfl
      have ld3 : ∀ s : St, s.objs[0]? = some ob0 → vload Tryd.prog s.objs 3 (.optr 0 3) = some (.int .i64 kp) := fun s h => by rw [vload_obj (h.trans (by rw [hob0])) G3]; rfl
      have ld4 : ∀ s : St, s.objs[0]? = some ob0 → vload Tryd.prog s.objs 3 (.optr 0 4) = some (.int .i64 again) := fun s h => by rw [vload_obj (h.trans (by rw [hob0])) G3]; rfl
      have ld5 : ∀ s : St, s.objs[0]? = some ob0 → vload Tryd.prog s.objs 3 (.optr 0 5) = some (.int .i64 kept) := fun s h => by rw [vload_obj (h.trans (by rw [hob0])) G3]; rfl
      have hsl : st0.objs.length = 0 := rfl
      have hlw := hw.len
      obtain ⟨K1, hK1⟩ : ∃ K, K = seqC Tryd.prog prims 191 ((.seq (.region k9_r13) (.seq (.region k9_r14) (.seq (.region k9_r15) (.seq (.seq (.region k9_r16) (.cond (.tmp 81) (.seq (.region k9_r17) .ret) .skip)) (.seq (.region k9_r18) (.seq (.seq (.region k9_r19) (.block 2 (.loop k9_l1))) (.seq (.region k9_r30) (.seq (.region k9_r31) (.seq (.region k9_r32) (.seq (.region k9_r33) (.seq (.seq (.region k9_r34) (.cond (.tmp 143) (.seq (.region k9_r35) .ret) .skip)) (.seq (.region k9_r36) (.seq (.region k9_r37) (.seq (.region k9_r38) (.seq (.seq (.region k9_r39) (.cond (.tmp 183) (.seq (.region k9_r40) .ret) .skip)) (.seq (.region k9_r41) .ret)))))))))))))))) : CC) (fnK Tryd.prog 191 [ResultVar.tmp 2] fun q σ' => q = .ret (.bool true)) := ⟨_, rfl⟩
      obtain ⟨K2, hK2⟩ : ∃ K, K = seqC Tryd.prog prims 191 ((.seq (.region k9_r30) (.seq (.region k9_r31) (.seq (.region k9_r32) (.seq (.region k9_r33) (.seq (.seq (.region k9_r34) (.cond (.tmp 143) (.seq (.region k9_r35) .ret) .skip)) (.seq (.region k9_r36) (.seq (.region k9_r37) (.seq (.region k9_r38) (.seq (.seq (.region k9_r39) (.cond (.tmp 183) (.seq (.region k9_r40) .ret) .skip)) (.seq (.region k9_r41) .ret)))))))))) : CC) (fnK Tryd.prog 191 [ResultVar.tmp 2] fun q σ' => q = .ret (.bool true)) := ⟨_, rfl⟩
      obtain ⟨K3, hK3⟩ : ∃ K, K = seqC Tryd.prog prims 191 ((.seq (.region k9_r36) (.seq (.region k9_r37) (.seq (.region k9_r38) (.seq (.seq (.region k9_r39) (.cond (.tmp 183) (.seq (.region k9_r40) .ret) .skip)) (.seq (.region k9_r41) .ret))))) : CC) (fnK Tryd.prog 191 [ResultVar.tmp 2] fun q σ' => q = .ret (.bool true)) := ⟨_, rfl⟩
      simp only [seqC_seq] at hK1 hK2 hK3
      rw [← hK2] at hK1
      rw [← hK3] at hK2
      -- the second opening behind
      have tail3 : ∀ (r rm : Nat) (e : Nat → V) (s : St) (d : Dk) (fu : List Ent) (B : List FJ) (sure : Nat), 1 ≤ per → e 1 = .optr 0 0 → e 6 = .optr r 0 → e 11 = .int .i64 (sure : Nat) → s.objs[0]? = some ob0 → 0 ∉ foot r rm fu → DiskAt s r d rm fu → Lies d B → Chn 1 B → d.writes ≤ 50000000 → sure ≤ l0.length → l0.length ≤ 1024 → (∀ x ∈ l0, x.2.length ≤ 65536) → (flat B = (l0.take sure).map Prod.snd ∨ (sure < l0.length ∧ flat B = (l0.take (sure + 1)).map Prod.snd)) → K3 .normal e s := by
        intro r rm e s d fu B sure h1 g1 g6 g11 ho hnf D L hc hwr hsure hl0 hsm hfl
        rw [hK3]
        obtain ⟨s4, c4, fs4, D4, Q4, I4⟩ := on_does D
        obtain ⟨ho4, hn4⟩ := stays ho hnf Q4 I4
        have L4 : Lies { d with on := true } B := L.same (L.ok.head rfl L.ok.arm L.ok.rm L.ok.kp) rfl
        obtain ⟨s5, c5, fs5, D5, Q5, I5⟩ := arm_does D4 0 0
        obtain ⟨ho5, hn5⟩ := stays ho4 hn4 Q5 I5
        have L5 : Lies (armD 0 0 { d with on := true }) B := L4.same (L4.ok.head rfl (by simp [armD]) L4.ok.rm (by unfold InI64; simp [armD])) rfl
        obtain ⟨q6, s6, c6, fs6, D6, Q6, I6, hres6⟩ := open_sees per hper D5 L5.ok (by show d.writes ≤ _; omega)
        obtain ⟨ho6, hn6⟩ := stays ho5 hn5 Q6 I6
        have hO : (openD per (armD 0 0 { d with on := true })).1 = (0, thru op0 B) := by
          rcases L5.open rfl hc h1 with ⟨h, _⟩ | ⟨h, _⟩
          · exact h
          · exact absurd rfl h.arm
        rw [hO] at hres6
        rcases hres6 with ⟨h, _⟩ | ⟨_, p6, w6, ps6, rfl, hw6, hps6, hpr6, _⟩
        · exact absurd rfl h
        simp only at hpr6 c6
        rw [thru_op] at hpr6
        have hfr : (thru op0 B).from = 1 := by rw [thru_one B 1 (fun x hx => (L5.good x hx).lo) hc]; split <;> rfl
        rw [hfr] at c6
        have c6 : Does Tryd.prog prims 36 [.optr r 0, .int .i64 per] s5 (.ret (.tuple [.optr p6 0, w6, .int .i64 1, .int .i64 0])) s6 := c6
        have hlw6 := hw6.len
        have hnum : ps6.length ≤ l0.length ∧ sure ≤ ps6.length ∧ ps6.length ≤ sure + 1 ∧ ps6.map Prod.snd = (l0.take ps6.length).map Prod.snd := by
          have hl6 := congrArg List.length hpr6
          rw [List.length_map] at hl6
          rcases hfl with h | ⟨hlt, h⟩
          · rw [h, List.length_map, List.length_take] at hl6
            have e : ps6.length = sure := by omega
            refine ⟨by omega, by omega, by omega, ?_⟩
            rw [hpr6, h, e]
          · rw [h, List.length_map, List.length_take] at hl6
            have e : ps6.length = sure + 1 := by omega
            refine ⟨by omega, by omega, by omega, ?_⟩
            rw [hpr6, h, e]
        obtain ⟨n1, n2, n3, n4⟩ := hnum
        have b1 : ¬ ((ps6.length : Nat) : Int) < (sure : Nat) := by omega
        have hws : IntKind.i64.wrap (((sure : Nat) : Int) + 1) = ((sure + 1 : Nat) : Int) := by rw [wrap_i64 (by omega) (by omega)]; omega
        have b2 : ¬ ((sure + 1 : Nat) : Int) < (ps6.length : Nat) := by omega
        have b3 : ¬ ((l0.length : Nat) : Int) < (ps6.length : Nat) := by omega
        obtain ⟨v8, hs8, hr8⟩ := RowV.slice hw (t := 37) TBB SBs (lo := none) (hi := some (.int .i64 ((ps6.length : Nat) : Int))) (vbounds_hi (by omega) (by omega)) (by omega) (by omega)
        have P8 : PtsV v8 (l0.take ps6.length) := by
          have e : ((l0.map Prod.fst).drop (0 * 1)).take ((ps6.length - 0) * 1) = (l0.take ps6.length).map Prod.fst := by simp
          unfold PtsV
          rw [Int.toNat_natCast, e] at hr8
          have e2 : (l0.take ps6.length).length = ps6.length - 0 := by simp; omega
          rw [e2]
          exact hr8
        have c8 := alike4_does (σ := s6) hw6 P8 hps6 (fun x hx => (hop x (List.mem_of_mem_take hx)).1) n4 (by omega) (fun x hx => by
          have hm : x.2 ∈ (l0.take ps6.length).map Prod.snd := by rw [← n4]; exact List.mem_map_of_mem hx
          obtain ⟨y, hy, he⟩ := List.mem_map.1 hm
          have := hsm y (List.mem_of_mem_take hy)
          rw [← he]; omega)
        simp only [k9_a, WK, vop, evAll, evOpt, evParts, vbuiltin, vun, vextract, Nat.reduceLT, Nat.reduceEqDiff, ↓reduceIte, reduceCtorEq, Nat.reduceAdd, Int.reduceLT, Int.reduceNeg, valloc_std, noSB, vhot, List.getD_cons_zero, List.getD_cons_succ, g6]
        refine KD.ret c4 ?_
        simp only [k9_a, WK, vop, evAll, evOpt, evParts, vbuiltin, vun, vextract, Nat.reduceLT, Nat.reduceEqDiff, ↓reduceIte, reduceCtorEq, Nat.reduceAdd, Int.reduceLT, Int.reduceNeg, valloc_std, noSB, vhot, List.getD_cons_zero, List.getD_cons_succ, g6]
        refine KD.ret c5 ?_
        simp only [k9_a, WK, vop, evAll, evOpt, evParts, vbuiltin, vun, vextract, Nat.reduceLT, Nat.reduceEqDiff, ↓reduceIte, reduceCtorEq, Nat.reduceAdd, Int.reduceLT, Int.reduceNeg, valloc_std, noSB, vhot, List.getD_cons_zero, List.getD_cons_succ, g1, g6, lW1, ld1 s5 ho5]
        refine KD.ret c6 ?_
        simp only [k9_a, WK, vop, evAll, evOpt, evParts, vbuiltin, vun, vextract, Nat.reduceLT, Nat.reduceEqDiff, ↓reduceIte, reduceCtorEq, Nat.reduceAdd, Int.reduceLT, Int.reduceNeg, valloc_std, noSB, vhot, List.getD_cons_zero, List.getD_cons_succ, g1, g11, hlw6, b1, hws, b2, lW0, ld0 s6 ho6, hlw, b3, TBB, hs8, eq_self, decide_true, decide_false, Bool.not_true]
        refine KD.ret c8 ?_
        simp only [k9_a, WK, vop, evAll, evOpt, evParts, vbuiltin, vun, vextract, Nat.reduceLT, Nat.reduceEqDiff, ↓reduceIte, reduceCtorEq, Nat.reduceAdd, Int.reduceLT, Int.reduceNeg, valloc_std, noSB, vhot, List.getD_cons_zero, List.getD_cons_succ]
      have tail2 : ∀ (r rm : Nat) (e : Nat → V) (s : St) (d : Dk) (fu : List Ent) (B : List FJ) (sure : Nat), 1 ≤ per → e 1 = .optr 0 0 → e 6 = .optr r 0 → e 11 = .int .i64 (sure : Nat) → s.objs[0]? = some ob0 → 0 ∉ foot r rm fu → DiskAt s r d rm fu → Lies d B → Chn 1 B → d.writes ≤ 40000000 → sure ≤ l0.length → l0.length ≤ 1024 → (∀ x ∈ l0, x.2.length ≤ 65536) → (flat B = (l0.take sure).map Prod.snd ∨ (sure < l0.length ∧ flat B = (l0.take (sure + 1)).map Prod.snd)) → K2 .normal e s := by
        intro r rm e s d fu B sure h1 g1 g6 g11 ho hnf D L hc hwr hsure hl0 hsm hfl
        rw [hK2]
        obtain ⟨s3, fs3, c3, D3, Q3, I3⟩ := off_does D L.ok kp
        obtain ⟨ho3, hn3⟩ := stays ho hnf Q3 I3
        obtain ⟨L3, hoff3, hw3⟩ := L.off kp
        obtain ⟨s4, c4, fs4, D4, Q4, I4⟩ := on_does D3
        obtain ⟨ho4, hn4⟩ := stays ho3 hn3 Q4 I4
        have L4 : Lies { (offD kp d) with on := true } B := L3.same (L3.ok.head rfl L3.ok.arm L3.ok.rm L3.ok.kp) rfl
        obtain ⟨s5, c5, fs5, D5, Q5, I5⟩ := arm_does D4 again kept
        obtain ⟨ho5, hn5⟩ := stays ho4 hn4 Q5 I5
        have L5 : Lies (armD again kept { (offD kp d) with on := true }) B := L4.same (L4.ok.head rfl (by unfold InI64 at hagain; show ((again.toNat : Nat) : Int) ≤ _; omega) L4.ok.rm hkept) rfl
        obtain ⟨q6, s6, c6, fs6, D6, Q6, I6, hres6⟩ := open_sees per hper D5 L5.ok (by show (offD kp d).writes ≤ _; omega)
        obtain ⟨ho6, hn6⟩ := stays ho5 hn5 Q6 I6
        have hw6 := (openD_ok (per := per) L5.ok).2
        have hw6' : (openD per (armD again kept { (offD kp d) with on := true })).2.writes ≤ 50000000 := by
          have : (armD again kept { (offD kp d) with on := true }).writes = (offD kp d).writes := rfl
          omega
        simp only [k9_a, WK, vop, evAll, evOpt, evParts, vbuiltin, vun, vextract, Nat.reduceLT, Nat.reduceEqDiff, ↓reduceIte, reduceCtorEq, Nat.reduceAdd, Int.reduceLT, Int.reduceNeg, valloc_std, noSB, vhot, List.getD_cons_zero, List.getD_cons_succ, g1, g6, lW3, ld3 s ho]
        refine KD.ret c3 ?_
        simp only [k9_a, WK, vop, evAll, evOpt, evParts, vbuiltin, vun, vextract, Nat.reduceLT, Nat.reduceEqDiff, ↓reduceIte, reduceCtorEq, Nat.reduceAdd, Int.reduceLT, Int.reduceNeg, valloc_std, noSB, vhot, List.getD_cons_zero, List.getD_cons_succ, g6]
        refine KD.ret c4 ?_
        simp only [k9_a, WK, vop, evAll, evOpt, evParts, vbuiltin, vun, vextract, Nat.reduceLT, Nat.reduceEqDiff, ↓reduceIte, reduceCtorEq, Nat.reduceAdd, Int.reduceLT, Int.reduceNeg, valloc_std, noSB, vhot, List.getD_cons_zero, List.getD_cons_succ, g1, g6, lW4, lW5, ld4 s4 ho4, ld5 s4 ho4]
        refine KD.ret c5 ?_
        simp only [k9_a, WK, vop, evAll, evOpt, evParts, vbuiltin, vun, vextract, Nat.reduceLT, Nat.reduceEqDiff, ↓reduceIte, reduceCtorEq, Nat.reduceAdd, Int.reduceLT, Int.reduceNeg, valloc_std, noSB, vhot, List.getD_cons_zero, List.getD_cons_succ, g1, g6, lW1, ld1 s5 ho5]
        rcases L5.open rfl hc h1 with ⟨hO, hF, L6⟩ | ⟨hG, hO, C, hCl, L6⟩
        · rw [hO] at hres6
          rcases hres6 with ⟨h, _⟩ | ⟨_, p6, w6, ps6, rfl, _⟩
          · exact absurd rfl h
          have c6 : Does Tryd.prog prims 36 [.optr r 0, .int .i64 per] s5 (.ret (.tuple [.optr p6 0, w6, .int .i64 ((thru op0 B).from : Nat), .int .i64 0])) s6 := c6
          refine KD.ret c6 ?_
          simp only [k9_a, WK, vop, evAll, evOpt, evParts, vbuiltin, vun, vextract, Nat.reduceLT, Nat.reduceEqDiff, ↓reduceIte, reduceCtorEq, Nat.reduceAdd, Int.reduceLT, Int.reduceNeg, valloc_std, noSB, vhot, List.getD_cons_zero, List.getD_cons_succ, eq_self, decide_true, Bool.not_true]
          have hcl := Cl.all B
          exact tail3 r rm _ s6 _ fs6 (B.map clr) sure h1 (by simp [upd_some, g1]) (by simp [upd_some, g6]) (by simp [upd_some, g11]) ho6 hn6 D6 L6 (chn_fst hcl.1 hc) hw6' hsure hl0 hsm (by rw [flat_fst hcl.1]; exact hfl)
        · rcases hres6 with ⟨_, rfl⟩ | ⟨h, _⟩
          · rw [hO] at c6
            have c6 : Does Tryd.prog prims 36 [.optr r 0, .int .i64 per] s5 (.ret (.tuple [.nilp, .nils, .int .i64 0, .int .i64 20])) s6 := c6
            have c7 := down_does D6
            rw [hG.off] at c7
            refine KD.ret c6 ?_
            simp only [k9_a, WK, vop, evAll, evOpt, evParts, vbuiltin, vun, vextract, Nat.reduceLT, Nat.reduceEqDiff, ↓reduceIte, reduceCtorEq, Nat.reduceAdd, Int.reduceLT, Int.reduceNeg, valloc_std, noSB, vhot, List.getD_cons_zero, List.getD_cons_succ, g6, (by decide : ¬ (20 : Int) = 0), eq_self, decide_true, decide_false, Bool.not_true, Bool.not_false]
            refine KD.ret c7 ?_
            simp only [k9_a, WK, vop, evAll, evOpt, evParts, vbuiltin, vun, vextract, Nat.reduceLT, Nat.reduceEqDiff, ↓reduceIte, reduceCtorEq, Nat.reduceAdd, Int.reduceLT, Int.reduceNeg, valloc_std, noSB, vhot, List.getD_cons_zero, List.getD_cons_succ, Bool.not_true, Bool.not_false]
            exact tail3 r rm _ s6 _ fs6 C sure h1 (by simp [upd_some, g1]) (by simp [upd_some, g6]) (by simp [upd_some, g11]) ho6 hn6 D6 L6 (chn_fst hCl.1 hc) hw6' hsure hl0 hsm (by rw [flat_fst hCl.1]; exact hfl)
          · exact absurd (h.symm.trans hO) (by decide)
      have tail1 : ∀ (e : Nat → V) , 1 ≤ per → (l0.length : Int) ≤ 15 * per → l0.length ≤ 1024 → (∀ x ∈ l0, x.2.length ≤ 65536) → szR (l0.map Prod.snd) ≤ 262144 → e 1 = .optr 0 0 → K1 .normal e s1 := by
        intro e h1 hcap hl0 hsm hsz g1
        rw [hK1]
        obtain ⟨s2, r, rm, c2, D2, Q2, I2⟩ := newdisk_does s1 1048576
        have okn : (newD 1048576).Ok := newD_ok (by unfold InI64; omega)
        have hla := (List.getElem?_eq_some_iff.1 ho1).1
        have ho2 : s2.objs[0]? = some ob0 := Q2.ko _ _ (by simp) ho1
        have hn2 : 0 ∉ foot r rm [] := fun hx => by have := I2 _ hx; omega
        obtain ⟨s3, c3, fs3, D3, Q3, I3⟩ := arm_does D2 cut kp
        obtain ⟨ho3, hn3⟩ := stays ho2 hn2 Q3 I3
        have ok3 : (armD cut kp (newD 1048576)).Ok := okn.head rfl (by unfold InI64 at hcut; show ((cut.toNat : Nat) : Int) ≤ _; omega) okn.rm hkp
        have hopen0 : openD per (armD cut kp (newD 1048576)) = ((0, op0), armD cut kp (newD 1048576)) := by
          unfold openD
          rw [if_neg (by omega)]
          rfl
        obtain ⟨q4, s4, c4, fs4, D4, Q4, I4, hres⟩ := open_sees per hper D3 ok3 (by simp [newD, armD])
        obtain ⟨ho4, hn4⟩ := stays ho3 hn3 Q4 I4
        rw [hopen0] at D4 hres
        rcases hres with ⟨h, _⟩ | ⟨_, p, w4, ps4, rfl, hw4, hps4, hpr4, hp4, hpl, hpf⟩
        · exact absurd rfl h
        have hp4 : s4.objs[p]? = some (.cells ((jnJ per 1 []).cells r)) := hp4
        have h0p : 0 ≠ p := by
          have := (List.getElem?_eq_some_iff.1 ho3).1
          omega
        have C4 : CalmJ (armD cut kp (newD 1048576)) per [] 1 [] := ⟨⟨ok3, rfl, (fun x hx => by cases hx)⟩, rfl, trivial, rfl, (fun s hs => by cases hs), (by simp; omega), (by omega), (fun r hr => by cases hr)⟩
        simp only [k9_a, WK, vop, evAll, evOpt, evParts, vbuiltin, vun, vextract, Nat.reduceLT, Nat.reduceEqDiff, ↓reduceIte, reduceCtorEq, Nat.reduceAdd, Int.reduceLT, Int.reduceNeg, valloc_std, noSB, vhot, List.getD_cons_zero, List.getD_cons_succ]
        refine KD.ret c2 ?_
        simp only [k9_a, WK, vop, evAll, evOpt, evParts, vbuiltin, vun, vextract, Nat.reduceLT, Nat.reduceEqDiff, ↓reduceIte, reduceCtorEq, Nat.reduceAdd, Int.reduceLT, Int.reduceNeg, valloc_std, noSB, vhot, List.getD_cons_zero, List.getD_cons_succ, g1, lW2, lW3, ld2 s2 ho2, ld3 s2 ho2]
        refine KD.ret c3 ?_
        simp only [k9_a, WK, vop, evAll, evOpt, evParts, vbuiltin, vun, vextract, Nat.reduceLT, Nat.reduceEqDiff, ↓reduceIte, reduceCtorEq, Nat.reduceAdd, Int.reduceLT, Int.reduceNeg, valloc_std, noSB, vhot, List.getD_cons_zero, List.getD_cons_succ, g1, lW1, ld1 s3 ho3]
        refine KD.ret c4 ?_
        simp only [k9_a, WK, vop, evAll, evOpt, evParts, vbuiltin, vun, vextract, Nat.reduceLT, Nat.reduceEqDiff, ↓reduceIte, reduceCtorEq, Nat.reduceAdd, Int.reduceLT, Int.reduceNeg, valloc_std, noSB, vhot, List.getD_cons_zero, List.getD_cons_succ, g1, lW0, ld0 s4 ho4, hlw, eq_self, decide_true, Bool.not_true]
        refine Ev.loopF (fun (i : Nat) e s => e 85 = .int .i64 (i : Nat) ∧ e 11 = .int .i64 (i : Nat) ∧ i ≤ l0.length ∧ ∃ (d : Dk) (fu : List Ent) (S : List Seg) (n : Nat) (l : List (List UInt8)), DiskAt s r d rm fu ∧ CalmJ d per S n l ∧ d.room = 1048576 ∧ d.writes ≤ 3 * i ∧ recJ S l = (l0.take i).map Prod.snd ∧ s.objs[p]? = some (.cells ((jnJ per n l).cells r)) ∧ p ∉ foot r rm fu ∧ s.objs[0]? = some ob0 ∧ 0 ∉ foot r rm fu) (fun i => l0.length - i) 0 ?_ ?_
        · exact ⟨by simp [upd_some], by simp [upd_some], Nat.zero_le _, armD cut kp (newD 1048576), fs4, [], 1, [], D4, C4, rfl, by simp [newD, armD], rfl, hp4, hpf, ho4, hn4⟩
        rintro i e4 s ⟨h85, h11, hi, d, fu, S, n, l, D, C, hnr, hnw, hrec, hps, hpfu, ho, hn0⟩ hf
        have k1 : e4 1 = .optr 0 0 := (hf 1 (by decide)).trans (by simp [upd_some, g1])
        have k6 : e4 6 = .optr r 0 := (hf 6 (by decide)).trans (by simp [upd_some])
        have k7 : e4 7 = .optr p 0 := (hf 7 (by decide)).trans (by simp [upd_some])
        have k83 : e4 83 = w := (hf 83 (by decide)).trans (by simp [upd_some])
        have k84 : e4 84 = .int .i64 (l0.length : Nat) := (hf 84 (by decide)).trans (by simp [upd_some])
        clear hf
        have hlen : (recJ S l).length = i := by rw [hrec, List.length_map, List.length_take]; omega
        have hnx : n + l.length = i + 1 := by rw [C.next, hlen]
        by_cases hlt : i < l0.length
        · have hlt' : (i : Int) < (l0.length : Nat) := by omega
          have hwi : IntKind.i64.wrap ((i : Int) + 1) = ((i + 1 : Nat) : Int) := by rw [wrap_i64 (by omega) (by omega)]; omega
          have hb1 := (hop l0[i] (List.getElem_mem hlt)).1
          have hbl := hsm l0[i] (List.getElem_mem hlt)
          obtain ⟨b, hbe⟩ : ∃ b, b = l0[i].2 := ⟨_, rfl⟩
          obtain ⟨x, hxe⟩ : ∃ x, x = l0[i].1 := ⟨_, rfl⟩
          have hld := PtsV.load hlt (objs := s.objs)
          have hss := szR_take l0 i hlt
          have htk : (l0.take (i + 1)).map Prod.snd = (l0.take i).map Prod.snd ++ [b] := by rw [List.take_succ_eq_append_getElem hlt, hbe, List.map_append]; rfl
          have hsl : szR ((l0.take (i + 1)).map Prod.snd) ≤ 262144 := by
            have e : l0.map Prod.snd = (l0.take (i + 1)).map Prod.snd ++ (l0.drop (i + 1)).map Prod.snd := by rw [← List.map_append, List.take_append_drop]
            rw [e, szR_app] at hsz
            omega
          rw [← hxe, ← hbe] at hb1
          rw [← hxe] at hld
          rw [← hbe] at hbl hss
          rw [← hrec] at hss htk
          obtain ⟨q5, s5, c5, fs5, D5, Q5, I5, hpf5, hp5, rfl⟩ := wapp_sees (j := jnJ per n l) D C.lies.ok (by omega) hps hpfu hb1 (by omega) (by simp [jnJ]) (by simp only [jnJ]; omega)
          have ho5 : s5.objs[0]? = some ob0 := Q5.ko _ _ (by
            rw [List.mem_cons]
            rintro (h | h)
            · exact h0p h
            · exact hn0 h) ho
          have hn5 : 0 ∉ foot r rm fs5 := fun hx => by
            have := (List.getElem?_eq_some_iff.1 ho).1
            rcases I5 _ hx with h | h
            · exact hn0 h
            · omega
          have hw5 := (appW_ok (b := b) (j := jnJ per n l) C.lies.ok).2
          rcases C.app (b := b) (by omega) (by omega) (by omega) (C.few (by rw [hlen]; omega)) with ⟨h, _⟩ | ⟨_, d2, hA, C2, hr2, hroom2, hkeep2, harm2⟩ | ⟨hG, hA, B, hL, hcB, hflB⟩
          · rw [hnr] at h; omega
          · rw [hA] at D5 hp5 c5 hw5
            simp only at D5 hp5 c5 hw5
            rw [hnx] at c5
            have c5 : Does Tryd.prog prims 38 [.optr p 0, x] s (.ret (.tuple [.int .i64 ((i + 1 : Nat) : Int), .int .i64 0])) s5 := c5
            simp only [k9_a, WK, vop, evAll, evOpt, evParts, vbuiltin, vun, vextract, Nat.reduceLT, Nat.reduceEqDiff, ↓reduceIte, reduceCtorEq, Nat.reduceAdd, Int.reduceLT, Int.reduceNeg, valloc_std, noSB, vhot, List.getD_cons_zero, List.getD_cons_succ, h85, h11, k7, k83, k84, hlt', decide_true, hw.addr hlt, hld]
            refine KD.ret c5 ?_
            simp only [k9_a, WK, vop, evAll, evOpt, evParts, vbuiltin, vun, vextract, Nat.reduceLT, Nat.reduceEqDiff, ↓reduceIte, reduceCtorEq, Nat.reduceAdd, Int.reduceLT, Int.reduceNeg, valloc_std, noSB, vhot, List.getD_cons_zero, List.getD_cons_succ, h85, h11, eq_self, decide_true, Bool.not_true, hwi]
            exact ⟨i + 1, ⟨by simp [upd_some], by simp [upd_some], by omega, d2, fs5, _, _, _, D5, C2, hroom2.trans hnr, by omega, by rw [hr2, htk], hp5, hpf5, ho5, hn5⟩, by omega⟩
          · have hd : (appW b (jnJ per n l) d).2.2.on = false := hG.off
            rw [hA] at c5
            have c5 : Does Tryd.prog prims 38 [.optr p 0, x] s (.ret (.tuple [.int .i64 0, .int .i64 20])) s5 := c5
            have c7 := down_does D5
            rw [hd] at c7
            simp only [k9_a, WK, vop, evAll, evOpt, evParts, vbuiltin, vun, vextract, Nat.reduceLT, Nat.reduceEqDiff, ↓reduceIte, reduceCtorEq, Nat.reduceAdd, Int.reduceLT, Int.reduceNeg, valloc_std, noSB, vhot, List.getD_cons_zero, List.getD_cons_succ, h85, h11, k7, k83, k84, hlt', decide_true, hw.addr hlt, hld]
            refine KD.ret c5 ?_
            simp only [k9_a, WK, vop, evAll, evOpt, evParts, vbuiltin, vun, vextract, Nat.reduceLT, Nat.reduceEqDiff, ↓reduceIte, reduceCtorEq, Nat.reduceAdd, Int.reduceLT, Int.reduceNeg, valloc_std, noSB, vhot, List.getD_cons_zero, List.getD_cons_succ, k6, (by decide : ¬ (20 : Int) = 0), eq_self, decide_true, decide_false, Bool.not_true, Bool.not_false]
            refine KD.ret c7 ?_
            simp only [k9_a, WK, vop, evAll, evOpt, evParts, vbuiltin, vun, vextract, Nat.reduceLT, Nat.reduceEqDiff, ↓reduceIte, reduceCtorEq, Nat.reduceAdd, Int.reduceLT, Int.reduceNeg, valloc_std, noSB, vhot, List.getD_cons_zero, List.getD_cons_succ, Bool.not_true, Bool.not_false]
            exact tail2 r rm _ s5 _ fs5 B i h1 (by simp [upd_some, k1]) (by simp [upd_some, k6]) (by simp [upd_some, h11]) ho5 hn5 D5 hL hcB (by omega) (by omega) hl0 hsm (by
              rcases hflB with h | h
              · exact .inl (by rw [h, hrec])
              · exact .inr ⟨hlt, by rw [h, htk]⟩)
        have hlt' : ¬ (i : Int) < (l0.length : Nat) := by omega
        simp only [k9_a, WK, vop, evAll, evOpt, evParts, vbuiltin, vun, vextract, Nat.reduceLT, Nat.reduceEqDiff, ↓reduceIte, reduceCtorEq, Nat.reduceAdd, Int.reduceLT, Int.reduceNeg, valloc_std, noSB, vhot, List.getD_cons_zero, List.getD_cons_succ, h85, k84, hlt', decide_false]
        exact tail2 r rm _ s d fu _ i h1 (by simp [upd_some, k1]) (by simp [upd_some, k6]) (by simp [upd_some, h11]) ho hn0 D C.lies C.chain (by omega) (by omega) hl0 hsm (.inl (by rw [C.flatIs, hrec]))
      simp only [k9_a, WK, vop, evAll, evOpt, evParts, vbuiltin, vun, vextract, Nat.reduceLT, Nat.reduceEqDiff, ↓reduceIte, reduceCtorEq, Nat.reduceAdd, Int.reduceLT, Int.reduceNeg, valloc_std, noSB, vhot, List.getD_cons_zero, List.getD_cons_succ, vbox, hvc, hsl]
      refine KD.ret hwk ?_
      simp only [seqC_seq]
      rw [← hK3, ← hK2, ← hK1]
      simp only [k9_a, WK, vop, evAll, evOpt, evParts, vbuiltin, vun, vextract, Nat.reduceLT, Nat.reduceEqDiff, ↓reduceIte, reduceCtorEq, Nat.reduceAdd, Int.reduceLT, Int.reduceNeg, valloc_std, noSB, vhot, List.getD_cons_zero, List.getD_cons_succ, Bool.not_true, lW0, ld0 s1 ho1, hlw]
      refine Ev.loopF (fun (i : Nat) e s => e 24 = .int .i64 (i : Nat) ∧ i ≤ l0.length ∧ s = s1 ∧ e 3 = .int .i64 (szR ((l0.take i).map Prod.snd) : Nat) ∧ szR ((l0.take i).map Prod.snd) ≤ 262144 ∧ ∀ p ∈ l0.take i, p.2.length ≤ 65536) (fun i => l0.length - i) 0 ?_ ?_
      · exact ⟨by simp [upd_some], Nat.zero_le _, rfl, by simp [upd_some, szR], by simp [szR], fun p hp => by simp at hp⟩
      rintro i e s ⟨h24, hi, hs, h3, hn, hall⟩ hf
      subst hs
      have g1 : e 1 = .optr 0 0 := (hf 1 (by decide)).trans (by simp [upd_some])
      have g22 : e 22 = w := (hf 22 (by decide)).trans (by simp [upd_some])
      have g23 : e 23 = .int .i64 (l0.length : Nat) := (hf 23 (by decide)).trans (by simp [upd_some])
      clear hf
      by_cases hlt : i < l0.length
      · have hlt' : (i : Int) < (l0.length : Nat) := by omega
        have hwi : IntKind.i64.wrap ((i : Int) + 1) = ((i + 1 : Nat) : Int) := by rw [show ((i : Int) + 1) = ((i + 1 : Nat) : Int) from by omega]; exact wrap_nat (by omega)
        obtain ⟨hb1, hbb⟩ := hop l0[i] (List.getElem_mem hlt)
        have hlb := hb1.len T22
        have hss := szR_take l0 i hlt
        have hw8 : IntKind.i64.wrap (((l0[i].2.length : Nat) : Int) + 8) = ((l0[i].2.length + 8 : Nat) : Int) := by rw [wrap_i64 (by omega) (by omega)]; omega
        have hws : IntKind.i64.wrap (((szR ((l0.take i).map Prod.snd) : Nat) : Int) + ((l0[i].2.length + 8 : Nat) : Int)) = ((szR ((l0.take (i + 1)).map Prod.snd) : Nat) : Int) := by rw [hss, wrap_i64 (by omega) (by omega)]; omega
        by_cases hbig : (262144 : Int) < ((szR ((l0.take (i + 1)).map Prod.snd) : Nat) : Int)
        · simp only [k9_a, WK, vop, evAll, evOpt, evParts, vbuiltin, vun, vextract, Nat.reduceLT, Nat.reduceEqDiff, ↓reduceIte, reduceCtorEq, Nat.reduceAdd, Int.reduceLT, Int.reduceNeg, valloc_std, noSB, vhot, List.getD_cons_zero, List.getD_cons_succ, h24, g22, g23, h3, hlt', decide_true, hw.addr hlt, PtsV.load hlt, hlb, hw8, hws, hbig]
          rw [hK1, hK2, hK3]
          simp only [k9_a, WK, vop, evAll, evOpt, evParts, vbuiltin, vun, vextract, Nat.reduceLT, Nat.reduceEqDiff, ↓reduceIte, reduceCtorEq, Nat.reduceAdd, Int.reduceLT, Int.reduceNeg, valloc_std, noSB, vhot, List.getD_cons_zero, List.getD_cons_succ]
        by_cases hlong : (65536 : Int) < ((l0[i].2.length : Nat) : Int)
        · simp only [k9_a, WK, vop, evAll, evOpt, evParts, vbuiltin, vun, vextract, Nat.reduceLT, Nat.reduceEqDiff, ↓reduceIte, reduceCtorEq, Nat.reduceAdd, Int.reduceLT, Int.reduceNeg, valloc_std, noSB, vhot, List.getD_cons_zero, List.getD_cons_succ, h24, g22, g23, h3, hlt', decide_true, decide_false, hw.addr hlt, PtsV.load hlt, hlb, hw8, hws, hbig, hlong]
          rw [hK1, hK2, hK3]
          simp only [k9_a, WK, vop, evAll, evOpt, evParts, vbuiltin, vun, vextract, Nat.reduceLT, Nat.reduceEqDiff, ↓reduceIte, reduceCtorEq, Nat.reduceAdd, Int.reduceLT, Int.reduceNeg, valloc_std, noSB, vhot, List.getD_cons_zero, List.getD_cons_succ]
        simp only [k9_a, WK, vop, evAll, evOpt, evParts, vbuiltin, vun, vextract, Nat.reduceLT, Nat.reduceEqDiff, ↓reduceIte, reduceCtorEq, Nat.reduceAdd, Int.reduceLT, Int.reduceNeg, valloc_std, noSB, vhot, List.getD_cons_zero, List.getD_cons_succ, h24, g22, g23, h3, hlt', decide_true, decide_false, hw.addr hlt, PtsV.load hlt, hlb, hw8, hws, hbig, hlong, hwi]
        refine ⟨i + 1, ⟨by simp [upd_some], by omega, by simp [upd_some], by omega, fun p hp => ?_⟩, by omega⟩
        rw [List.take_succ_eq_append_getElem hlt, List.mem_append, List.mem_singleton] at hp
        rcases hp with hp | rfl
        · exact hall p hp
        · omega
      have hlt' : ¬ (i : Int) < (l0.length : Nat) := by omega
      have htake : l0.take i = l0 := List.take_of_length_le (by omega)
      rw [htake] at hall hn
      by_cases h1 : per < 1
      · simp only [k9_a, WK, vop, evAll, evOpt, evParts, vbuiltin, vun, vextract, Nat.reduceLT, Nat.reduceEqDiff, ↓reduceIte, reduceCtorEq, Nat.reduceAdd, Int.reduceLT, Int.reduceNeg, valloc_std, noSB, vhot, List.getD_cons_zero, List.getD_cons_succ, h24, g23, g1, hlt', decide_true, decide_false, lW1, ld1 s ho1, h1]
        rw [hK1, hK2, hK3]
        simp only [k9_a, WK, vop, evAll, evOpt, evParts, vbuiltin, vun, vextract, Nat.reduceLT, Nat.reduceEqDiff, ↓reduceIte, reduceCtorEq, Nat.reduceAdd, Int.reduceLT, Int.reduceNeg, valloc_std, noSB, vhot, List.getD_cons_zero, List.getD_cons_succ]
      obtain ⟨c15, hc15⟩ : ∃ c15, c15 = IntKind.i64.wrap (15 * per) := ⟨_, rfl⟩
      by_cases hm : c15 < (l0.length : Int) ∧ per < 1048576
      · simp only [k9_a, WK, vop, evAll, evOpt, evParts, vbuiltin, vun, vextract, Nat.reduceLT, Nat.reduceEqDiff, ↓reduceIte, reduceCtorEq, Nat.reduceAdd, Int.reduceLT, Int.reduceNeg, valloc_std, noSB, vhot, List.getD_cons_zero, List.getD_cons_succ, h24, g23, g1, hlt', decide_true, decide_false, lW0, lW1, ld0 s ho1, ld1 s ho1, hlw, h1, ← hc15, hm.1, hm.2]
        rw [hK1, hK2, hK3]
        simp only [k9_a, WK, vop, evAll, evOpt, evParts, vbuiltin, vun, vextract, Nat.reduceLT, Nat.reduceEqDiff, ↓reduceIte, reduceCtorEq, Nat.reduceAdd, Int.reduceLT, Int.reduceNeg, valloc_std, noSB, vhot, List.getD_cons_zero, List.getD_cons_succ]
      by_cases hx1 : c15 < (l0.length : Int)
      · have h64 : ¬ per < 1048576 := fun h => hm ⟨hx1, h⟩
        by_cases h200 : (1024 : Int) < (l0.length : Nat)
        · simp only [k9_a, WK, vop, evAll, evOpt, evParts, vbuiltin, vun, vextract, Nat.reduceLT, Nat.reduceEqDiff, ↓reduceIte, reduceCtorEq, Nat.reduceAdd, Int.reduceLT, Int.reduceNeg, valloc_std, noSB, vhot, List.getD_cons_zero, List.getD_cons_succ, h24, g23, g1, hlt', decide_true, decide_false, lW0, lW1, ld0 s ho1, ld1 s ho1, hlw, h1, ← hc15, hx1, h64, h200]
          rw [hK1, hK2, hK3]
          simp only [k9_a, WK, vop, evAll, evOpt, evParts, vbuiltin, vun, vextract, Nat.reduceLT, Nat.reduceEqDiff, ↓reduceIte, reduceCtorEq, Nat.reduceAdd, Int.reduceLT, Int.reduceNeg, valloc_std, noSB, vhot, List.getD_cons_zero, List.getD_cons_succ]
        · simp only [k9_a, WK, vop, evAll, evOpt, evParts, vbuiltin, vun, vextract, Nat.reduceLT, Nat.reduceEqDiff, ↓reduceIte, reduceCtorEq, Nat.reduceAdd, Int.reduceLT, Int.reduceNeg, valloc_std, noSB, vhot, List.getD_cons_zero, List.getD_cons_succ, h24, g23, g1, hlt', decide_true, decide_false, lW0, lW1, ld0 s ho1, ld1 s ho1, hlw, h1, ← hc15, hx1, h64, h200]
          exact tail1 _ (by omega) (by omega) (by omega) hall hn (by simp [upd_some, g1])
      · by_cases h200 : (1024 : Int) < (l0.length : Nat)
        · simp only [k9_a, WK, vop, evAll, evOpt, evParts, vbuiltin, vun, vextract, Nat.reduceLT, Nat.reduceEqDiff, ↓reduceIte, reduceCtorEq, Nat.reduceAdd, Int.reduceLT, Int.reduceNeg, valloc_std, noSB, vhot, List.getD_cons_zero, List.getD_cons_succ, h24, g23, g1, hlt', decide_true, decide_false, lW0, lW1, ld0 s ho1, ld1 s ho1, hlw, h1, ← hc15, hx1, h200]
          rw [hK1, hK2, hK3]
          simp only [k9_a, WK, vop, evAll, evOpt, evParts, vbuiltin, vun, vextract, Nat.reduceLT, Nat.reduceEqDiff, ↓reduceIte, reduceCtorEq, Nat.reduceAdd, Int.reduceLT, Int.reduceNeg, valloc_std, noSB, vhot, List.getD_cons_zero, List.getD_cons_succ]
        · simp only [k9_a, WK, vop, evAll, evOpt, evParts, vbuiltin, vun, vextract, Nat.reduceLT, Nat.reduceEqDiff, ↓reduceIte, reduceCtorEq, Nat.reduceAdd, Int.reduceLT, Int.reduceNeg, valloc_std, noSB, vhot, List.getD_cons_zero, List.getD_cons_succ, h24, g23, g1, hlt', decide_true, decide_false, lW0, lW1, ld0 s ho1, ld1 s ho1, hlw, h1, ← hc15, hx1, h200]
          refine tail1 _ (by omega) ?_ (by omega) hall hn (by simp [upd_some, g1])
          by_cases h64 : per < 1048576
          · rw [wrap_i64 (by omega) (by omega)] at hc15
            omega
          · omega
    obtain ⟨r, σ', ⟨m, h⟩, rfl⟩ := key
    exact ⟨m, σ', h⟩
end Go.Proofs.YtnegdinonfjdfaaDoor.Q

/- What the rows' lists of variables give, and a world that meets them. -/
set_option linter.unusedVariables false
set_option linter.unusedSimpArgs false
set_option maxRecDepth 100000
namespace Go.Proofs.YtnegdinonfjdfaaDoor.Q
open Go Go.RowKit Go.Proofs Go.ChangeShapes Go.WideShapes Go.ChangeAt
noncomputable abbrev listL : List (String × DataW Unit) := Rows.snapBytesUptoRow.laid
theorem only_half : (listL.filter fun x => x.1 == "quern/crc.half") = [("quern/crc.half", Lib.tabData .u32 (half.map fun n : Nat => (n : Int)))] := by kernel_rfl
theorem only_pow : (listL.filter fun x => x.1 == "internal/strconv.uint64pow10") = [("internal/strconv.uint64pow10", Lib.tabData .u64 Lib.pow10Tab)] := by kernel_rfl
theorem only_err : (listL.filter fun x => x.1 == "strconv.ErrSyntax") = [("strconv.ErrSyntax", .iface "*errors.errorString" (.ptr (.agg [.lit (.string [105, 110, 118, 97, 108, 105, 100, 32, 115, 121, 110, 116, 97, 120])])))] := by kernel_rfl
theorem starErr : "*" ++ "errors.errorString" = "*errors.errorString" := by decide
theorem rowErr (u : TypeId) (h : Tryd.prog.typeName? 3 u = some "*errors.errorString") : u = 151 :=
  typeName_ptr_named (nm := "errors.errorString") (by rw [starErr]; kernel_rfl) (by kernel_rfl) (by decide) u (by rw [starErr]; exact h)
theorem lays_of {W : World} (h : laidMetH Tryd.prog listL W) : Lays W.heap.size W := by
  have h1 := h.filter fun x => x.1 == "quern/crc.half"
  have h2 := h.filter fun x => x.1 == "internal/strconv.uint64pow10"
  have h3 := h.filter fun x => x.1 == "strconv.ErrSyntax"
  rw [only_half] at h1
  rw [only_pow] at h2
  rw [only_err] at h3
  have t1 : Lib.TabIs Tryd.prog W "quern/crc.half" .u32 (half.map fun n : Nat => (n : Int)) := Lib.tabIs_of_head (rest := []) (g := 0) (by kernel_rfl) (by kernel_rfl) pTA pTU (by kernel_rfl) (by kernel_rfl) h1
  have t2 : Lib.TabIs Tryd.prog W "internal/strconv.uint64pow10" .u64 Lib.pow10Tab := Lib.tabIs_of_head (rest := []) (g := 1) (by kernel_rfl) (by kernel_rfl) Tryd.underlying134 Tryd.underlying64 (by kernel_rfl) (by kernel_rfl) h2
  obtain ⟨a, s, hv, _⟩ := laid_sentinel (r := []) (g := 2) h3 (by kernel_rfl) (by kernel_rfl) Tryd.underlying97 rowErr Tryd.underlying151 Tryd.underlying153 rfl rfl Tryd.underlying9 (by kernel_rfl) (by kernel_rfl)
  have hg2 : Tryd.prog.globalNamed "strconv.ErrSyntax" = some 2 := by kernel_rfl
  have hc2 : W.cell? ⟨2, 0, none⟩ = some (.iface 151 (.pointer (some a))) := by
    have := World.var?_cell hg2 hv 0
    simpa using this
  refine ⟨?_, fun i hi => ?_, t2, _, hc2, .inr ⟨_, _, rfl⟩⟩
  · have := World.block_lt_of_cell? _ _ hc2
    simp only at this
    omega
  · have hg : Tryd.prog.globalNamed "quern/crc.half" = some 0 := by kernel_rfl
    have := t1.cell hg i hi
    have e : ∀ j : Fin 16, (half.map fun n : Nat => (n : Int)).getD j.val 0 = ((half.getD j.val 0 : Nat) : Int) := by decide
    rw [e ⟨i, hi⟩] at this
    exact this
section
variable {H : Type} {enc : TypeId × Value → H} {P : Program}
theorem law_callsW {pr : Prim} {W : World} (hp : PrimOk P pr W.heap.size W) (hl : laidOutB P = true) {S : List TypeId} (hS : plainS P S = true) {F : FuncId} {ts : List TypeId} (hts : ∀ t, t ∈ ts → t ∈ S) (h20 : ts.length ≤ 20) (hT : LawTrue P pr F ts) {r : Reach} {b : Nat} {args : Array Value} {ds : List (DataW H)} {ps : List MemPlace}
    (hval : ∀ (j : Nat) t v, ts[j]? = some t → args.toList[j]? = some v → Value.okWide P W r b t v) (hA : DataW.TrodAll enc P W 0 (fun _ => true) true ts args.toList ds ps) (hk : Rows.uptoBulkAll ds ≤ 1048576) :
    Calls P F args W fun e W' => e = .returned (.bool true) ∧ Below W.heap.size W W' := by
  obtain ⟨xs, h1, h2, h3⟩ := args_V hl hS hts hval hA
  obtain ⟨n, σ', hn⟩ := hT xs h2 (by omega)
  have := vcall_sound hp hn (gh0 W) W args.toList (rel0 W) h1
  rw [Array.toArray_toList] at this
  refine this.mono fun e W' ⟨g', hE, hR, u, he, hV⟩ => ?_
  simp only [VR] at hV
  subst hV
  exact ⟨he, hR.below⟩
end
/-! ### A world that meets them -/
def cellsD : DataW Unit → Array Value
  | .agg l => (l.map fun | .lit (.int k z) => Value.int k z | _ => undef).toArray
  | _ => #[]
noncomputable def low : Nat := (World.holding Tryd.prog default ⟨#[], #[], []⟩).heap.size
def textR : ByteArray := ⟨#[118, 97, 108, 117, 101, 32, 111, 117, 116, 32, 111, 102, 32, 114, 97, 110, 103, 101]⟩
def textS : ByteArray := ⟨#[105, 110, 118, 97, 108, 105, 100, 32, 115, 121, 110, 116, 97, 120]⟩
noncomputable def laidWorld (os : Os) : World :=
  let w0 := World.holding Tryd.prog os ⟨#[.cells #[.string textR] 153, .cells #[.string textS] 153], #[], []⟩
  let put (h : Array Obj) (g : Nat) (cs : Array Value) : Array Obj := h.modify g fun
    | .cells _ t frozen => .cells cs t frozen
    | o => o
  let h1 := put w0.heap 0 (cellsD Rows.laid_quern_crc_half)
  let h2 := put h1 1 (cellsD Rows.laid_internal_strconv_uint64pow10)
  let h3 := put h2 2 #[.iface 151 (.pointer (some ⟨low + 1, 0, none⟩))]
  let h4 := put h3 3 #[.iface 151 (.pointer (some ⟨low, 0, none⟩))]
  let h5 := put h4 4 (cellsD Rows.laid_math_bits_deBruijn32tab)
  let h6 := put h5 5 (cellsD Rows.laid_math_bits_deBruijn64tab)
  { w0 with heap := h6 }
theorem laid_met (os : Os) (args : Array Value) : laidMet Tryd.prog listL ((laidWorld os).forCall (fun _ _ => 0) ⟨#[], args, []⟩).memory :=
  laidMet_of_run' 8 (by kernel_rfl) (by kernel_rfl)
end Go.Proofs.YtnegdinonfjdfaaDoor.Q

