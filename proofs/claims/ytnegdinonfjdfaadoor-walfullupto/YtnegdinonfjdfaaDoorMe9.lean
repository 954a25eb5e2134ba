/- A part of the proof: Vl, Lw. -/
import Derived.Test.YtnegdinonfjdfaaDoorMe8
import Derived.Test.YtnegdinonfjdfaaDoorMe6
import Derived.Test.YtnegdinonfjdfaaDoorCards
import Derived.Test.YtnegdinonfjdfaaDoorTie
import Derived.WalkKit
import Derived.ProofKit
import Derived.OpenShut
import Derived.Deep.DeepHandedRow
import Derived.Deep.DeepWitnessRowRef
import Derived.Lib.LaidTab
import Derived.LaidSub
import Derived.Stop.LaidErr
/- WalFull. -/
set_option linter.unusedVariables false
set_option linter.unusedSimpArgs false
set_option maxRecDepth 100000
namespace Go.Proofs.YtnegdinonfjdfaaDoor.Q
open Go Go.RowKit Go.Proofs
theorem toks_step {X : List Nat} {a s s' : St} (h : KS [] ⟨s.objs, a.toks⟩ s) (k : KS X s s') : KS [] ⟨s'.objs, a.toks⟩ s' := ⟨fun _ _ _ h => h, Nat.le_refl _, Nat.le_trans h.tl k.tl, fun i hi => k.tk i (h.tk i hi)⟩
theorem lit_last (σ : St) : vbuildRow Tryd.prog σ 22 4 [(0, .int .u8 108), (1, .int .u8 97), (2, .int .u8 115), (3, .int .u8 116)] = some (.hslice σ.objs.length 0 1 4, ⟨σ.objs ++ [.cells ([108, 97, 115, 116].map byteV)], σ.toks⟩) := by
  have e : List.range 4 = [0, 1, 2, 3] := by decide
  simp [vbuildRow, T22, S5, BT.z, vcells, vfill, zeroCellsV, setAll, byteV, e]
theorem freeze_last (σ : St) : vfreeze Tryd.prog ⟨σ.objs ++ [.cells ([108, 97, 115, 116].map byteV)], σ.toks⟩ 22 22 (.hslice σ.objs.length 0 1 4) = some (.slice .ro 1 ([108, 97, 115, 116].map byteV) 4, ⟨σ.objs ++ [.dead], σ.toks⟩) := by
  have hu : isU8 Tryd.prog 5 = true := by kernel_rfl
  simp [vfreeze, T22, hu]
theorem conv_h4 (r : Nat) : vconv Tryd.prog 22 22 (.hslice r 0 1 4) = none := by simp [vconv, T22]
theorem bts_last : BtsV (.slice .ro 1 ([108, 97, 115, 116].map byteV) 4) [108, 97, 115, 116] := .inr ⟨.ro, rfl⟩
theorem szR_le : ∀ l : List (List UInt8), (∀ r ∈ l, r.length ≤ 1024) → szR l ≤ 1032 * l.length
  | [], _ => Nat.le_refl _
  | r :: l, h => by
    have ih := szR_le l (fun x hx => h x (List.mem_cons_of_mem _ hx))
    have := h r (by simp)
    have e : szR (r :: l) = (8 + r.length) + szR l := by simp [szR]
    rw [e, List.length_cons]
    omega
theorem CalmJ.spaced {d : Dk} {per : Int} {S : List Seg} {n : Nat} {l : List (List UInt8)} (h : CalmJ d per S n l) {z : Int} (hz : InI64 z) : CalmJ { d with room := z } per S n l :=
  ⟨h.lies.same (h.lies.ok.head rfl h.lies.ok.arm hz h.lies.ok.kp) rfl, h.on, h.chn, h.nx, h.full, h.most, h.p1, h.small⟩
theorem CalmJ.next {d : Dk} {per : Int} {S : List Seg} {n : Nat} {l : List (List UInt8)} (h : CalmJ d per S n l) : n + l.length = (recJ S l).length + 1 := by
  have := h.nx
  unfold recJ
  rw [List.length_append]
  omega
theorem walfull_true : LawTrue Tryd.prog prims 8 [37, 3, 38] := by
  intro args hA hb
  match args, hA with
  | [w, vp, z], ⟨hx, hx2, hx3, _⟩ =>
    obtain ⟨l0, hw, hop, hlenl⟩ := pts_arg hx
    obtain ⟨per, rfl, hper⟩ : ∃ n : Int, vp = .int .i64 n ∧ InI64 n := int_arg T3 hx2
    obtain ⟨zs, hz, _⟩ := ints_arg IT.u IT.ue IT.c hx3
    simp only [vbulks] at hb
    have key : ∃ r σ', Does Tryd.prog prims 8 [w, .int .i64 per, z] st0 r σ' ∧ r = .ret (.bool true) := by
      apply k8_is.does (by simp)
      obtain ⟨s1, hwk⟩ := wwakes_does
      have hlw0 := hw.len
      have hlz := hz.len IT
      obtain ⟨K, hK⟩ : ∃ K, K = seqC Tryd.prog prims 153 ((.seq (.region k8_r5) (.seq (.region k8_r6) (.seq (.seq (.region k8_r7) (.cond (.tmp 52) (.seq (.region k8_r8) .ret) .skip)) (.seq (.region k8_r9) (.seq (.seq (.region k8_r10) (.block 0 (.loop k8_l0))) (.seq (.region k8_r25) (.seq k8_r26 (.seq (.region k8_r27) (.seq (.region k8_r28) .ret))))))))) : CC) (fnK Tryd.prog 153 [ResultVar.tmp 6] fun q σ' => q = .ret (.bool true)) := ⟨_, rfl⟩
      simp only [seqC_seq] at hK
      simp only [k8_a, WK, vop, evAll, evOpt, evParts, vbuiltin, vun, vextract, Nat.reduceLT, Nat.reduceEqDiff, ↓reduceIte, reduceCtorEq, Nat.reduceAdd, Int.reduceLT, Int.reduceNeg, valloc_std, noSB, vhot, List.getD_cons_zero, List.getD_cons_succ]
      refine KD.ret hwk ?_
      simp only [seqC_seq]
      rw [← hK]
      by_cases h1 : per < 1
      · simp only [k8_a, WK, vop, evAll, evOpt, evParts, vbuiltin, vun, vextract, Nat.reduceLT, Nat.reduceEqDiff, ↓reduceIte, reduceCtorEq, Nat.reduceAdd, Int.reduceLT, Int.reduceNeg, valloc_std, noSB, vhot, List.getD_cons_zero, List.getD_cons_succ, Bool.not_true, h1, hlw0, decide_true]
        rw [hK]
        simp only [k8_a, WK, vop, evAll, evOpt, evParts, vbuiltin, vun, vextract, Nat.reduceLT, Nat.reduceEqDiff, ↓reduceIte, reduceCtorEq, Nat.reduceAdd, Int.reduceLT, Int.reduceNeg, valloc_std, noSB, vhot, List.getD_cons_zero, List.getD_cons_succ]
      obtain ⟨c14, hc14⟩ : ∃ c14, c14 = IntKind.i64.wrap (14 * per) := ⟨_, rfl⟩
      by_cases hm : c14 < (l0.length : Int) ∧ per < 1048576
      · simp only [k8_a, WK, vop, evAll, evOpt, evParts, vbuiltin, vun, vextract, Nat.reduceLT, Nat.reduceEqDiff, ↓reduceIte, reduceCtorEq, Nat.reduceAdd, Int.reduceLT, Int.reduceNeg, valloc_std, noSB, vhot, List.getD_cons_zero, List.getD_cons_succ, Bool.not_true, h1, hlw0, decide_true, decide_false, ← hc14, hm.1, hm.2]
        rw [hK]
        simp only [k8_a, WK, vop, evAll, evOpt, evParts, vbuiltin, vun, vextract, Nat.reduceLT, Nat.reduceEqDiff, ↓reduceIte, reduceCtorEq, Nat.reduceAdd, Int.reduceLT, Int.reduceNeg, valloc_std, noSB, vhot, List.getD_cons_zero, List.getD_cons_succ]
      by_cases h200 : (200 : Int) < (l0.length : Nat)
      · by_cases hx1 : c14 < (l0.length : Int)
        · have h64 : ¬ per < 1048576 := fun h => hm ⟨hx1, h⟩
          simp only [k8_a, WK, vop, evAll, evOpt, evParts, vbuiltin, vun, vextract, Nat.reduceLT, Nat.reduceEqDiff, ↓reduceIte, reduceCtorEq, Nat.reduceAdd, Int.reduceLT, Int.reduceNeg, valloc_std, noSB, vhot, List.getD_cons_zero, List.getD_cons_succ, Bool.not_true, h1, hlw0, decide_true, decide_false, ← hc14, hx1, h64, h200]
          rw [hK]
          simp only [k8_a, WK, vop, evAll, evOpt, evParts, vbuiltin, vun, vextract, Nat.reduceLT, Nat.reduceEqDiff, ↓reduceIte, reduceCtorEq, Nat.reduceAdd, Int.reduceLT, Int.reduceNeg, valloc_std, noSB, vhot, List.getD_cons_zero, List.getD_cons_succ]
        · simp only [k8_a, WK, vop, evAll, evOpt, evParts, vbuiltin, vun, vextract, Nat.reduceLT, Nat.reduceEqDiff, ↓reduceIte, reduceCtorEq, Nat.reduceAdd, Int.reduceLT, Int.reduceNeg, valloc_std, noSB, vhot, List.getD_cons_zero, List.getD_cons_succ, Bool.not_true, h1, hlw0, decide_true, decide_false, ← hc14, hx1, h200]
          rw [hK]
          simp only [k8_a, WK, vop, evAll, evOpt, evParts, vbuiltin, vun, vextract, Nat.reduceLT, Nat.reduceEqDiff, ↓reduceIte, reduceCtorEq, Nat.reduceAdd, Int.reduceLT, Int.reduceNeg, valloc_std, noSB, vhot, List.getD_cons_zero, List.getD_cons_succ]
      have hcap : (l0.length : Int) ≤ 14 * per := by
        by_cases h64 : per < 1048576
        · rw [wrap_i64 (by omega) (by omega)] at hc14
          omega
        · omega
      obtain ⟨s2, r, rm, c2, D2, K2, I2⟩ := newdisk_does s1 1048576
      have okn : (newD 1048576).Ok := newD_ok (by unfold InI64; omega)
      have hopen0 : openD per (newD 1048576) = ((0, op0), newD 1048576) := by
        unfold openD
        rw [if_neg h1]
        rfl
      obtain ⟨q3, s3, c3, fs3, D3, K3, I3, hres⟩ := open_sees per hper D2 okn (by simp [newD])
      rw [hopen0] at D3 hres
      rcases hres with ⟨h, _⟩ | ⟨_, p, w3, ps3, rfl, hw3, hps3, hpr3, hp3, hpl, hpf⟩
      · exact absurd rfl h
      have hp3 : s3.objs[p]? = some (.cells ((jnJ per 1 []).cells r)) := hp3
      have C3 : CalmJ (newD 1048576) per [] 1 [] := ⟨⟨okn, rfl, (fun x hx => by cases hx)⟩, rfl, trivial, rfl, (fun s hs => by cases hs), (by simp; omega), (by omega), (fun r hr => by cases hr)⟩
      have tail : ∀ (e : Nat → V), e 0 = w → e 1 = .int .i64 per → e 2 = z → K .normal e s1 := by
        intro e g0 g1 g2
        rw [hK]
        simp only [k8_a, WK, vop, evAll, evOpt, evParts, vbuiltin, vun, vextract, Nat.reduceLT, Nat.reduceEqDiff, ↓reduceIte, reduceCtorEq, Nat.reduceAdd, Int.reduceLT, Int.reduceNeg, valloc_std, noSB, vhot, List.getD_cons_zero, List.getD_cons_succ]
        refine KD.ret c2 ?_
        simp only [k8_a, WK, vop, evAll, evOpt, evParts, vbuiltin, vun, vextract, Nat.reduceLT, Nat.reduceEqDiff, ↓reduceIte, reduceCtorEq, Nat.reduceAdd, Int.reduceLT, Int.reduceNeg, valloc_std, noSB, vhot, List.getD_cons_zero, List.getD_cons_succ, g1]
        refine KD.ret c3 ?_
        simp only [k8_a, WK, vop, evAll, evOpt, evParts, vbuiltin, vun, vextract, Nat.reduceLT, Nat.reduceEqDiff, ↓reduceIte, reduceCtorEq, Nat.reduceAdd, Int.reduceLT, Int.reduceNeg, valloc_std, noSB, vhot, List.getD_cons_zero, List.getD_cons_succ, g0, hlw0, nilEP, eq_self, decide_true, Bool.not_true]
        refine Ev.loopF (fun (i : Nat) e s => e 55 = .int .i64 (i : Nat) ∧ i ≤ l0.length ∧ ∃ (d : Dk) (fu : List Ent) (S : List Seg) (n : Nat) (l : List (List UInt8)) (T : List BV), DiskAt s r d rm fu ∧ CalmJ d per S n l ∧ d.armed = 0 ∧ d.writes ≤ 3 * i ∧ recJ S l = T.map Prod.snd ∧ s.objs[p]? = some (.cells ((jnJ per n l).cells r)) ∧ p ∉ foot r rm fu ∧ OwnB s3.toks.length s (e 12) T ∧ KS [] ⟨s.objs, s3.toks⟩ s ∧ T.length ≤ i ∧ ∀ x ∈ T, x.2.length ≤ 1024) (fun i => l0.length - i) 0 ?_ ?_
        · exact ⟨by simp [upd_some], Nat.zero_le _, newD 1048576, fs3, [], 1, [], [], D3, C3, rfl, by simp [newD], rfl, hp3, hpf, OwnB.nil, KS.refl _ _, by simp, fun x hx => by cases hx⟩
        rintro i e4 s ⟨h55, hi, d, fu, S, n, l, T, D, C, hna, hnw, hrec, hps, hpfu, hO, hT, hTl, hTs⟩ hf
        have k0 : e4 0 = w := (hf 0 (by decide)).trans (by simp [upd_some, g0])
        have k1 : e4 1 = .int .i64 per := (hf 1 (by decide)).trans (by simp [upd_some, g1])
        have k2 : e4 2 = z := (hf 2 (by decide)).trans (by simp [upd_some, g2])
        have k7 : e4 7 = .optr r 0 := (hf 7 (by decide)).trans (by simp [upd_some])
        have k8 : e4 8 = .optr p 0 := (hf 8 (by decide)).trans (by simp [upd_some])
        have k53 : e4 53 = w := (hf 53 (by decide)).trans (by simp [upd_some, g0])
        have k54 : e4 54 = .int .i64 (l0.length : Nat) := (hf 54 (by decide)).trans (by simp [upd_some])
        clear hf
        have hlen : (recJ S l).length = T.length := by rw [hrec, List.length_map]
        have hnx : n + l.length = T.length + 1 := by rw [C.next, hlen]
        have hsz : szR (recJ S l) ≤ 1032 * T.length := by
          rw [← hlen]
          refine szR_le _ fun x hx => ?_
          rw [hrec] at hx
          obtain ⟨y, hy, rfl⟩ := List.mem_map.1 hx
          exact hTs y hy
        by_cases hlt : i < l0.length
        · have hlt' : (i : Int) < (l0.length : Nat) := by omega
          have hwi : IntKind.i64.wrap ((i : Int) + 1) = ((i + 1 : Nat) : Int) := by rw [wrap_i64 (by omega) (by omega)]; omega
          obtain ⟨hb1, hbb⟩ := hop l0[i] (List.getElem_mem hlt)
          have hlb := hb1.len T22
          by_cases hbig : (1024 : Int) < (l0[i].2.length : Nat)
          · simp only [k8_a, WK, vop, evAll, evOpt, evParts, vbuiltin, vun, vextract, Nat.reduceLT, Nat.reduceEqDiff, ↓reduceIte, reduceCtorEq, Nat.reduceAdd, Int.reduceLT, Int.reduceNeg, valloc_std, noSB, vhot, List.getD_cons_zero, List.getD_cons_succ, h55, k53, k54, hlt', decide_true, hw.addr hlt, PtsV.load hlt, hlb, hbig]
          obtain ⟨b, hbe⟩ : ∃ b, b = l0[i].2 := ⟨_, rfl⟩
          obtain ⟨x, hxe⟩ : ∃ x, x = l0[i].1 := ⟨_, rfl⟩
          have hld := PtsV.load hlt (objs := s.objs)
          rw [← hxe, ← hbe] at hb1
          rw [← hxe] at hld hlb
          rw [← hbe] at hlb hbig
          -- the room
          obtain ⟨s4, d4, fu4, D4, C4, ha4, hw4, hps4, hpf4, hX, hroom⟩ : ∃ (s4 : St) (d4 : Dk) (fu4 : List Ent), DiskAt s4 r d4 rm fu4 ∧ CalmJ d4 per S n l ∧ d4.armed = 0 ∧ d4.writes ≤ 3 * i ∧ s4.objs[p]? = some (.cells ((jnJ per n l).cells r)) ∧ p ∉ foot r rm fu4 ∧ (∃ X, KS X s s4) ∧ ((∃ hj : i < zs.length, Does Tryd.prog prims 37 [.optr r 0, .int .i64 zs[i]] s (.ret (.tuple [])) s4) ∨ (¬ i < zs.length ∧ s4 = s)) := by
            by_cases hj : i < zs.length
            · obtain ⟨s4, c4, fs4, D4, K4, I4⟩ := room_does D zs[i]
              have hla := (List.getElem?_eq_some_iff.1 hps).1
              refine ⟨s4, _, fs4, D4, C.spaced (hz.2 _ (List.getElem_mem hj)), hna, hnw, K4.ko _ _ hpfu hps, fun hx => ?_, ⟨_, K4⟩, .inl ⟨hj, c4⟩⟩
              rcases I4 _ hx with h | h
              · exact hpfu h
              · omega
            · exact ⟨s, d, fu, D, C, hna, hnw, hps, hpfu, ⟨[], KS.refl _ _⟩, .inr ⟨hj, rfl⟩⟩
          obtain ⟨X, hX⟩ := hX
          have hT4 := toks_step hT hX
          obtain ⟨q5, s5, c5, fs5, D5, K5, I5, hpf5, hp5, rfl⟩ := wapp_sees (j := jnJ per n l) D4 C4.lies.ok (by omega) hps4 hpf4 hb1 (by omega) (by simp [jnJ]) (by simp only [jnJ]; omega)
          have happ := C4.app (b := b) (by omega) (by omega) (by omega) (C4.few (by rw [hlen]; omega))
          have hnoarm : ¬ Gone d4 (appW b (jnJ per n l) d4).2.2 := fun h => h.arm ha4
          have hT5 := toks_step hT4 K5
          have hw5 := (appW_ok (b := b) (j := jnJ per n l) C4.lies.ok).2
          have hO5 : OwnB s3.toks.length s5 (e4 12) T := (hO.keep hX.tk).keep K5.tk
          rcases happ with ⟨_, hA⟩ | ⟨_, d2, hA, C2, hr2, hroom2, hkeep2, harm2⟩ | ⟨h, _⟩
          · rw [hA] at D5 hp5 c5 hw5
            simp only at D5 hp5 c5 hw5
            have c5 : Does Tryd.prog prims 38 [.optr p 0, x] s4 (.ret (.tuple [.int .i64 0, .int .i64 22])) s5 := c5
            rcases hroom with ⟨hj, c4⟩ | ⟨hj, hs4⟩
            · have hj' : (i : Int) < (zs.length : Nat) := by omega
              have ha := hz.addr IT (k := .i64) (n := ((i : Nat) : Int)) (by omega) (by omega)
              have hl1 : vload Tryd.prog s.objs 3 (.eptr (zs.map i64V) ((i : Nat) : Int).toNat) = some (.int .i64 zs[i]) := IntsV.load IT (by omega : ((i : Nat) : Int).toNat < _)
              simp only [k8_a, WK, vop, evAll, evOpt, evParts, vbuiltin, vun, vextract, Nat.reduceLT, Nat.reduceEqDiff, ↓reduceIte, reduceCtorEq, Nat.reduceAdd, Int.reduceLT, Int.reduceNeg, valloc_std, noSB, vhot, List.getD_cons_zero, List.getD_cons_succ, h55, k2, k7, k53, k54, hlt', decide_true, decide_false, hw.addr hlt, hld, hlb, hbig, hlz, hj', ha, hl1]
              refine KD.ret c4 ?_
              simp only [k8_a, WK, vop, evAll, evOpt, evParts, vbuiltin, vun, vextract, Nat.reduceLT, Nat.reduceEqDiff, ↓reduceIte, reduceCtorEq, Nat.reduceAdd, Int.reduceLT, Int.reduceNeg, valloc_std, noSB, vhot, List.getD_cons_zero, List.getD_cons_succ, k8]
              refine KD.ret c5 ?_
              simp only [k8_a, WK, vop, evAll, evOpt, evParts, vbuiltin, vun, vextract, Nat.reduceLT, Nat.reduceEqDiff, ↓reduceIte, reduceCtorEq, Nat.reduceAdd, Int.reduceLT, Int.reduceNeg, valloc_std, noSB, vhot, List.getD_cons_zero, List.getD_cons_succ, h55, (by decide : ¬ (22 : Int) = 0), eq_self, decide_true, decide_false, Bool.not_true, Bool.not_false, hwi]
              exact ⟨i + 1, ⟨by simp [upd_some], by omega, d4, fs5, S, n, l, T, D5, C4, ha4, by omega, hrec, hp5, hpf5, by simpa [upd_some] using hO5, hT5, by omega, hTs⟩, by omega⟩
            · have hj' : ¬ (i : Int) < (zs.length : Nat) := by omega
              subst hs4
              simp only [k8_a, WK, vop, evAll, evOpt, evParts, vbuiltin, vun, vextract, Nat.reduceLT, Nat.reduceEqDiff, ↓reduceIte, reduceCtorEq, Nat.reduceAdd, Int.reduceLT, Int.reduceNeg, valloc_std, noSB, vhot, List.getD_cons_zero, List.getD_cons_succ, h55, k2, k8, k53, k54, hlt', decide_true, decide_false, hw.addr hlt, hld, hlb, hbig, hlz, hj']
              refine KD.ret c5 ?_
              simp only [k8_a, WK, vop, evAll, evOpt, evParts, vbuiltin, vun, vextract, Nat.reduceLT, Nat.reduceEqDiff, ↓reduceIte, reduceCtorEq, Nat.reduceAdd, Int.reduceLT, Int.reduceNeg, valloc_std, noSB, vhot, List.getD_cons_zero, List.getD_cons_succ, h55, (by decide : ¬ (22 : Int) = 0), eq_self, decide_true, decide_false, Bool.not_true, Bool.not_false, hwi]
              exact ⟨i + 1, ⟨by simp [upd_some], by omega, d4, fs5, S, n, l, T, D5, C4, ha4, by omega, hrec, hp5, hpf5, by simpa [upd_some] using hO5, hT5, by omega, hTs⟩, by omega⟩
          · rw [hA] at D5 hp5 c5 hw5
            simp only at D5 hp5 c5 hw5
            rw [hnx] at c5
            have c5 : Does Tryd.prog prims 38 [.optr p 0, x] s4 (.ret (.tuple [.int .i64 ((T.length + 1 : Nat) : Int), .int .i64 0])) s5 := c5
            have hx1 : one x = true := hb1.one
            obtain ⟨w7, s7, p1, p2, p3, p4⟩ := hO5.apps (σ := s3) (y := .slice .exact 1 [x] 1) (qs := [(x, b)]) hT5 ⟨by simp, .inr ⟨.exact, rfl⟩⟩ (fun y hy => by rw [List.mem_singleton.1 hy]; exact hb1) (by simp; omega)
            have hlT := p2.pts.len
            rw [List.length_append] at hlT
            have hlT : vlen Tryd.prog 37 w7 = some (.int .i64 ((T.length + 1 : Nat) : Int)) := hlT
            have mk := mkRows1 x hx1
            have D7 : DiskAt s7 r d2 rm fs5 := ⟨by rw [p4]; exact D5.hd, by rw [p4]; exact D5.hm, by rw [p4]; exact D5.hf, D5.nd, D5.pm⟩
            have z1 : s7.objs[p]? = some (.cells ((jnJ per (turnJ per S n l).2.1 ((turnJ per S n l).2.2 ++ [b])).cells r)) := by rw [p4]; exact hp5
            have z2 : KS [] ⟨s7.objs, s3.toks⟩ s7 := ⟨fun _ _ _ h => h, Nat.le_refl _, p3.tl, p3.tk⟩
            have z3 : (T ++ [(x, b)]).length ≤ i + 1 := by simp; omega
            have z4 : recJ (turnJ per S n l).1 ((turnJ per S n l).2.2 ++ [b]) = (T ++ [(x, b)]).map Prod.snd := by rw [hr2, hrec]; simp
            have z5 : ∀ y ∈ T ++ [(x, b)], y.2.length ≤ 1024 := fun y hy => by
              rcases List.mem_append.1 hy with hy | hy
              · exact hTs y hy
              · rw [List.mem_singleton.1 hy]; simp only; omega
            rcases hroom with ⟨hj, c4⟩ | ⟨hj, hs4⟩
            · have hj' : (i : Int) < (zs.length : Nat) := by omega
              have ha := hz.addr IT (k := .i64) (n := ((i : Nat) : Int)) (by omega) (by omega)
              have hl1 : vload Tryd.prog s.objs 3 (.eptr (zs.map i64V) ((i : Nat) : Int).toNat) = some (.int .i64 zs[i]) := IntsV.load IT (by omega : ((i : Nat) : Int).toNat < _)
              simp only [k8_a, WK, vop, evAll, evOpt, evParts, vbuiltin, vun, vextract, Nat.reduceLT, Nat.reduceEqDiff, ↓reduceIte, reduceCtorEq, Nat.reduceAdd, Int.reduceLT, Int.reduceNeg, valloc_std, noSB, vhot, List.getD_cons_zero, List.getD_cons_succ, h55, k2, k7, k53, k54, hlt', decide_true, decide_false, hw.addr hlt, hld, hlb, hbig, hlz, hj', ha, hl1]
              refine KD.ret c4 ?_
              simp only [k8_a, WK, vop, evAll, evOpt, evParts, vbuiltin, vun, vextract, Nat.reduceLT, Nat.reduceEqDiff, ↓reduceIte, reduceCtorEq, Nat.reduceAdd, Int.reduceLT, Int.reduceNeg, valloc_std, noSB, vhot, List.getD_cons_zero, List.getD_cons_succ, k8]
              refine KD.ret c5 ?_
              simp only [k8_a, WK, vop, evAll, evOpt, evParts, vbuiltin, vun, vextract, Nat.reduceLT, Nat.reduceEqDiff, ↓reduceIte, reduceCtorEq, Nat.reduceAdd, Int.reduceLT, Int.reduceNeg, valloc_std, noSB, vhot, List.getD_cons_zero, List.getD_cons_succ, h55, eq_self, decide_true, decide_false, Bool.not_true, Bool.not_false, hwi, mk, p1, hlT]
              exact ⟨i + 1, ⟨by simp [upd_some], by omega, d2, fs5, _, _, _, T ++ [(x, b)], D7, C2, harm2 ha4, by omega, z4, z1, hpf5, by simpa [upd_some] using p2, z2, z3, z5⟩, by omega⟩
            · have hj' : ¬ (i : Int) < (zs.length : Nat) := by omega
              subst hs4
              simp only [k8_a, WK, vop, evAll, evOpt, evParts, vbuiltin, vun, vextract, Nat.reduceLT, Nat.reduceEqDiff, ↓reduceIte, reduceCtorEq, Nat.reduceAdd, Int.reduceLT, Int.reduceNeg, valloc_std, noSB, vhot, List.getD_cons_zero, List.getD_cons_succ, h55, k2, k8, k53, k54, hlt', decide_true, decide_false, hw.addr hlt, hld, hlb, hbig, hlz, hj']
              refine KD.ret c5 ?_
              simp only [k8_a, WK, vop, evAll, evOpt, evParts, vbuiltin, vun, vextract, Nat.reduceLT, Nat.reduceEqDiff, ↓reduceIte, reduceCtorEq, Nat.reduceAdd, Int.reduceLT, Int.reduceNeg, valloc_std, noSB, vhot, List.getD_cons_zero, List.getD_cons_succ, h55, eq_self, decide_true, decide_false, Bool.not_true, Bool.not_false, hwi, mk, p1, hlT]
              exact ⟨i + 1, ⟨by simp [upd_some], by omega, d2, fs5, _, _, _, T ++ [(x, b)], D7, C2, harm2 ha4, by omega, z4, z1, hpf5, by simpa [upd_some] using p2, z2, z3, z5⟩, by omega⟩
          · exact absurd h hnoarm
        have hlt' : ¬ (i : Int) < (l0.length : Nat) := by omega
        have hwT : IntKind.i64.wrap (((T.length : Nat) : Int) + 1) = ((T.length + 1 : Nat) : Int) := by rw [wrap_i64 (by omega) (by omega)]; omega
        have hwS : IntKind.i64.wrap (((T.length + 1 : Nat) : Int) - 1) = ((T.length : Nat) : Int) := by rw [wrap_i64 (by omega) (by omega)]; omega
        obtain ⟨s4, c4, fs4, D4, K4, I4⟩ := room_does D 1048576
        have hla := (List.getElem?_eq_some_iff.1 hps).1
        have hps4 := K4.ko _ _ hpfu hps
        have hpf4 : p ∉ foot r rm fs4 := fun hx => by
          rcases I4 _ hx with h | h
          · exact hpfu h
          · omega
        have C4 := C.spaced (z := 1048576) (by unfold InI64; omega)
        obtain ⟨s5, hs5⟩ : ∃ s5 : St, s5 = ⟨s4.objs ++ [.dead], s4.toks⟩ := ⟨_, rfl⟩
        have k45 : KS [] s4 s5 := by rw [hs5]; exact KS.push _ _ _
        have D5 := D4.pushes k45
        have fz := freeze_last s4
        rw [← hs5] at fz
        obtain ⟨q6, s6, c6, fs6, D6, K6, I6, hpf6, hp6, rfl⟩ := wapp_sees (j := jnJ per n l) D5 C4.lies.ok (by show d.writes ≤ _; omega) (k45.ko _ _ (by simp) hps4) hpf4 bts_last (by decide) (by simp [jnJ]) (by simp only [jnJ]; omega)
        have happ := C4.app (b := [108, 97, 115, 116]) (by omega) (by decide) (by simp; omega) (C4.few (by rw [hlen]; omega))
        have hnoarm : ¬ Gone { d with room := 1048576 } (appW [108, 97, 115, 116] (jnJ per n l) { d with room := 1048576 }).2.2 := fun h => h.arm hna
        rcases happ with ⟨h, _⟩ | ⟨_, d2, hA, C2, hr2, hroom2, hkeep2, harm2⟩ | ⟨h, _⟩
        · simp at h; omega
        rotate_left
        · exact absurd h hnoarm
        have hw6 := (appW_ok (b := [108, 97, 115, 116]) (j := jnJ per n l) C4.lies.ok).2
        rw [hA] at D6 hp6 c6 hw6
        simp only at D6 hp6 c6 hw6
        rw [hnx] at c6
        have c6 : Does Tryd.prog prims 38 [.optr p 0, .slice .ro 1 ([108, 97, 115, 116].map byteV) 4] s5 (.ret (.tuple [.int .i64 ((T.length + 1 : Nat) : Int), .int .i64 0])) s6 := c6
        obtain ⟨q7, s7, c7, fs7, D7, K7, I7, hres7⟩ := open_sees per hper D6 C2.lies.ok (by omega)
        have hO7 : (openD per d2).1 = (0, thru op0 (flJ (turnJ per S n l).1 (turnJ per S n l).2.1 ((turnJ per S n l).2.2 ++ [[108, 97, 115, 116]]))) := by
          rcases C2.lies.open C2.on C2.chain (by omega : (1 : Int) ≤ per) with ⟨h, _⟩ | ⟨h, _⟩
          · exact h
          · exact absurd (harm2 hna) h.arm
        rw [hO7] at hres7
        rcases hres7 with ⟨h, _⟩ | ⟨_, p7, w7, ps7, rfl, hw7, hps7, hpr7, _⟩
        · exact absurd rfl h
        simp only at hpr7 c7
        have hne : ¬ flJ (turnJ per S n l).1 (turnJ per S n l).2.1 ((turnJ per S n l).2.2 ++ [[108, 97, 115, 116]]) = [] := by
          intro h0
          have := congrArg List.length h0
          simp [flJ, lastJ] at this
        rw [thru_one _ 1 (fun x hx => (C2.lies.good x hx).lo) C2.chain, if_neg hne] at c7
        rw [thru_op, C2.flatIs, hr2, hrec] at hpr7
        have c7 : Does Tryd.prog prims 36 [.optr r 0, .int .i64 per] s6 (.ret (.tuple [.optr p7 0, w7, .int .i64 1, .int .i64 0])) s7 := c7
        have hl7 : ps7.length = T.length + 1 := by
          have := congrArg List.length hpr7
          simpa using this
        have hlw7 := hw7.len
        rw [hl7] at hlw7
        have hlT := hO.pts.len
        obtain ⟨v8, hs8, hr8⟩ := RowV.slice hw7 (t := 37) TBB SBs (lo := none) (hi := some (.int .i64 ((T.length : Nat) : Int))) (vbounds_hi (by omega) (by omega)) (by omega) (by omega)
        have P8 : PtsV v8 (ps7.take T.length) := by
          have e : ((ps7.map Prod.fst).drop (0 * 1)).take ((T.length - 0) * 1) = (ps7.take T.length).map Prod.fst := by simp
          unfold PtsV
          rw [Int.toNat_natCast, e] at hr8
          have e2 : (ps7.take T.length).length = T.length - 0 := by simp; omega
          rw [e2]
          exact hr8
        have hal : (ps7.take T.length).map Prod.snd = T.map Prod.snd := by
          rw [List.map_take, hpr7, List.take_append_of_le_length (by simp), List.take_of_length_le (by simp)]
        have c8 := alike4_does (σ := s7) P8 hO.pts (fun x hx => hps7 x (List.mem_of_mem_take hx)) hO.b hal (by simp; omega) (fun x hx => by
          have hm : x.2 ∈ T.map Prod.snd := by rw [← hal]; exact List.mem_map_of_mem hx
          obtain ⟨y, hy, he⟩ := List.mem_map.1 hm
          have := hTs y hy
          rw [← he]; omega)
        have hlast : ps7[T.length].2 = [108, 97, 115, 116] := by
          have e1 : ps7[T.length].2 = (ps7.map Prod.snd)[T.length]'(by simp; omega) := by simp
          have e2 : (ps7.map Prod.snd)[T.length]? = some [108, 97, 115, 116] := by rw [hpr7]; simp
          rw [e1]
          have e3 := List.getElem?_eq_getElem (l := ps7.map Prod.snd) (i := T.length) (by simp; omega)
          rw [e3] at e2
          exact Option.some.inj e2
        have hbl := hps7 ps7[T.length] (List.getElem_mem (by omega))
        rw [hlast] at hbl
        have cv := conv_str hbl
        have ol : ofVal (Value.string { data := #[108, 97, 115, 116] }) = some (.str [108, 97, 115, 116]) := rfl
        have sl : strBin BinOp.eql [108, 97, 115, 116] [108, 97, 115, 116] = some (.bool true) := rfl
        have ha7 := hw7.addr (i := T.length) (by omega)
        have hd7 : vload Tryd.prog s7.objs 22 (.eptr (ps7.map Prod.fst) T.length) = some ps7[T.length].1 := PtsV.load (by omega)
        simp only [k8_a, WK, vop, evAll, evOpt, evParts, vbuiltin, vun, vextract, Nat.reduceLT, Nat.reduceEqDiff, ↓reduceIte, reduceCtorEq, Nat.reduceAdd, Int.reduceLT, Int.reduceNeg, valloc_std, noSB, vhot, List.getD_cons_zero, List.getD_cons_succ, h55, k54, hlt', k7, decide_false]
        refine KD.ret c4 ?_
        simp only [k8_a, WK, vop, evAll, evOpt, evParts, vbuiltin, vun, vextract, Nat.reduceLT, Nat.reduceEqDiff, ↓reduceIte, reduceCtorEq, Nat.reduceAdd, Int.reduceLT, Int.reduceNeg, valloc_std, noSB, vhot, List.getD_cons_zero, List.getD_cons_succ, k8, lit_last, conv_h4, fz]
        refine KD.ret c6 ?_
        simp only [k8_a, WK, vop, evAll, evOpt, evParts, vbuiltin, vun, vextract, Nat.reduceLT, Nat.reduceEqDiff, ↓reduceIte, reduceCtorEq, Nat.reduceAdd, Int.reduceLT, Int.reduceNeg, valloc_std, noSB, vhot, List.getD_cons_zero, List.getD_cons_succ, k7, k1]
        refine KD.ret c7 ?_
        simp only [k8_a, WK, vop, evAll, evOpt, evParts, vbuiltin, vun, vextract, Nat.reduceLT, Nat.reduceEqDiff, ↓reduceIte, reduceCtorEq, Nat.reduceAdd, Int.reduceLT, Int.reduceNeg, valloc_std, noSB, vhot, List.getD_cons_zero, List.getD_cons_succ, hlT, hwT, hlw7, hwS, TBB, hs8, eq_self, decide_true, decide_false, Bool.not_true]
        refine KD.ret c8 ?_
        simp only [k8_a, WK, vop, evAll, evOpt, evParts, vbuiltin, vun, vextract, Nat.reduceLT, Nat.reduceEqDiff, ↓reduceIte, reduceCtorEq, Nat.reduceAdd, Int.reduceLT, Int.reduceNeg, valloc_std, noSB, vhot, List.getD_cons_zero, List.getD_cons_succ, hlT, hwT, hlw7, hwS, ha7, hd7, cv, ol, sl, Option.map_some, eq_self, decide_true, decide_false, Bool.not_true]
      by_cases hx1 : c14 < (l0.length : Int)
      · have h64 : ¬ per < 1048576 := fun h => hm ⟨hx1, h⟩
        simp only [k8_a, WK, vop, evAll, evOpt, evParts, vbuiltin, vun, vextract, Nat.reduceLT, Nat.reduceEqDiff, ↓reduceIte, reduceCtorEq, Nat.reduceAdd, Int.reduceLT, Int.reduceNeg, valloc_std, noSB, vhot, List.getD_cons_zero, List.getD_cons_succ, Bool.not_true, h1, hlw0, decide_true, decide_false, ← hc14, hx1, h64, h200]
        exact tail _ (by simp [upd_some]) (by simp [upd_some]) (by simp [upd_some])
      · simp only [k8_a, WK, vop, evAll, evOpt, evParts, vbuiltin, vun, vextract, Nat.reduceLT, Nat.reduceEqDiff, ↓reduceIte, reduceCtorEq, Nat.reduceAdd, Int.reduceLT, Int.reduceNeg, valloc_std, noSB, vhot, List.getD_cons_zero, List.getD_cons_succ, Bool.not_true, h1, hlw0, decide_true, decide_false, ← hc14, hx1, h200]
        exact tail _ (by simp [upd_some]) (by simp [upd_some]) (by simp [upd_some])
    obtain ⟨r, σ', ⟨m, h⟩, rfl⟩ := key
    exact ⟨m, σ', h⟩
end Go.Proofs.YtnegdinonfjdfaaDoor.Q

/- What the rows' lists of variables give, and a world that meets them. -/
set_option linter.unusedVariables false
set_option linter.unusedSimpArgs false
set_option maxRecDepth 100000
namespace Go.Proofs.YtnegdinonfjdfaaDoor.Q
open Go Go.RowKit Go.Proofs Go.ChangeShapes Go.WideShapes Go.ChangeAt
noncomputable abbrev listL : List (String × DataW Unit) := Rows.snapBytesUptoRow.laid
theorem only_half : (listL.filter fun x => x.1 == "quern/crc.half") = [("quern/crc.half", Lib.tabData .u32 (half.map fun n : Nat => (n : Int)))] := by kernel_rfl
theorem only_pow : (listL.filter fun x => x.1 == "internal/strconv.uint64pow10") = [("internal/strconv.uint64pow10", Lib.tabData .u64 Lib.pow10Tab)] := by kernel_rfl
theorem only_err : (listL.filter fun x => x.1 == "strconv.ErrSyntax") = [("strconv.ErrSyntax", .iface "*errors.errorString" (.ptr (.agg [.lit (.string [105, 110, 118, 97, 108, 105, 100, 32, 115, 121, 110, 116, 97, 120])])))] := by kernel_rfl
theorem starErr : "*" ++ "errors.errorString" = "*errors.errorString" := by decide
theorem rowErr (u : TypeId) (h : Tryd.prog.typeName? 3 u = some "*errors.errorString") : u = 151 :=
  typeName_ptr_named (nm := "errors.errorString") (by rw [starErr]; kernel_rfl) (by kernel_rfl) (by decide) u (by rw [starErr]; exact h)
theorem lays_of {W : World} (h : laidMetH Tryd.prog listL W) : Lays W.heap.size W := by
  have h1 := h.filter fun x => x.1 == "quern/crc.half"
  have h2 := h.filter fun x => x.1 == "internal/strconv.uint64pow10"
  have h3 := h.filter fun x => x.1 == "strconv.ErrSyntax"
  rw [only_half] at h1
  rw [only_pow] at h2
  rw [only_err] at h3
  have t1 : Lib.TabIs Tryd.prog W "quern/crc.half" .u32 (half.map fun n : Nat => (n : Int)) := Lib.tabIs_of_head (rest := []) (g := 0) (by kernel_rfl) (by kernel_rfl) pTA pTU (by kernel_rfl) (by kernel_rfl) h1
  have t2 : Lib.TabIs Tryd.prog W "internal/strconv.uint64pow10" .u64 Lib.pow10Tab := Lib.tabIs_of_head (rest := []) (g := 1) (by kernel_rfl) (by kernel_rfl) Tryd.underlying134 Tryd.underlying64 (by kernel_rfl) (by kernel_rfl) h2
  obtain ⟨a, s, hv, _⟩ := laid_sentinel (r := []) (g := 2) h3 (by kernel_rfl) (by kernel_rfl) Tryd.underlying97 rowErr Tryd.underlying151 Tryd.underlying153 rfl rfl Tryd.underlying9 (by kernel_rfl) (by kernel_rfl)
  have hg2 : Tryd.prog.globalNamed "strconv.ErrSyntax" = some 2 := by kernel_rfl
  have hc2 : W.cell? ⟨2, 0, none⟩ = some (.iface 151 (.pointer (some a))) := by
    have := World.var?_cell hg2 hv 0
    simpa using this
  refine ⟨?_, fun i hi => ?_, t2, _, hc2, .inr ⟨_, _, rfl⟩⟩
  · have := World.block_lt_of_cell? _ _ hc2
    simp only at this
    omega
  · have hg : Tryd.prog.globalNamed "quern/crc.half" = some 0 := by kernel_rfl
    have := t1.cell hg i hi
    have e : ∀ j : Fin 16, (half.map fun n : Nat => (n : Int)).getD j.val 0 = ((half.getD j.val 0 : Nat) : Int) := by decide
    rw [e ⟨i, hi⟩] at this
    exact this
section
variable {H : Type} {enc : TypeId × Value → H} {P : Program}
theorem law_callsW {pr : Prim} {W : World} (hp : PrimOk P pr W.heap.size W) (hl : laidOutB P = true) {S : List TypeId} (hS : plainS P S = true) {F : FuncId} {ts : List TypeId} (hts : ∀ t, t ∈ ts → t ∈ S) (h20 : ts.length ≤ 20) (hT : LawTrue P pr F ts) {r : Reach} {b : Nat} {args : Array Value} {ds : List (DataW H)} {ps : List MemPlace}
    (hval : ∀ (j : Nat) t v, ts[j]? = some t → args.toList[j]? = some v → Value.okWide P W r b t v) (hA : DataW.TrodAll enc P W 0 (fun _ => true) true ts args.toList ds ps) (hk : Rows.uptoBulkAll ds ≤ 1048576) :
    Calls P F args W fun e W' => e = .returned (.bool true) ∧ Below W.heap.size W W' := by
  obtain ⟨xs, h1, h2, h3⟩ := args_V hl hS hts hval hA
  obtain ⟨n, σ', hn⟩ := hT xs h2 (by omega)
  have := vcall_sound hp hn (gh0 W) W args.toList (rel0 W) h1
  rw [Array.toArray_toList] at this
  refine this.mono fun e W' ⟨g', hE, hR, u, he, hV⟩ => ?_
  simp only [VR] at hV
  subst hV
  exact ⟨he, hR.below⟩
end
/-! ### A world that meets them -/
def cellsD : DataW Unit → Array Value
  | .agg l => (l.map fun | .lit (.int k z) => Value.int k z | _ => undef).toArray
  | _ => #[]
noncomputable def low : Nat := (World.holding Tryd.prog default ⟨#[], #[], []⟩).heap.size
def textR : ByteArray := ⟨#[118, 97, 108, 117, 101, 32, 111, 117, 116, 32, 111, 102, 32, 114, 97, 110, 103, 101]⟩
def textS : ByteArray := ⟨#[105, 110, 118, 97, 108, 105, 100, 32, 115, 121, 110, 116, 97, 120]⟩
noncomputable def laidWorld (os : Os) : World :=
  let w0 := World.holding Tryd.prog os ⟨#[.cells #[.string textR] 153, .cells #[.string textS] 153], #[], []⟩
  let put (h : Array Obj) (g : Nat) (cs : Array Value) : Array Obj := h.modify g fun
    | .cells _ t frozen => .cells cs t frozen
    | o => o
  let h1 := put w0.heap 0 (cellsD Rows.laid_quern_crc_half)
  let h2 := put h1 1 (cellsD Rows.laid_internal_strconv_uint64pow10)
  let h3 := put h2 2 #[.iface 151 (.pointer (some ⟨low + 1, 0, none⟩))]
  let h4 := put h3 3 #[.iface 151 (.pointer (some ⟨low, 0, none⟩))]
  let h5 := put h4 4 (cellsD Rows.laid_math_bits_deBruijn32tab)
  let h6 := put h5 5 (cellsD Rows.laid_math_bits_deBruijn64tab)
  { w0 with heap := h6 }
theorem laid_met (os : Os) (args : Array Value) : laidMet Tryd.prog listL ((laidWorld os).forCall (fun _ _ => 0) ⟨#[], args, []⟩).memory :=
  laidMet_of_run' 8 (by kernel_rfl) (by kernel_rfl)
end Go.Proofs.YtnegdinonfjdfaaDoor.Q

