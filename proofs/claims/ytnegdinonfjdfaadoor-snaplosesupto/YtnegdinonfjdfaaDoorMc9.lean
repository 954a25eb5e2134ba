/- A part of the proof: Uf, Lw. -/
import Derived.Test.YtnegdinonfjdfaaDoorMc8
import Derived.Test.YtnegdinonfjdfaaDoorMc6
import Derived.Test.YtnegdinonfjdfaaDoorCards
import Derived.Test.YtnegdinonfjdfaaDoorTie
import Derived.WalkKit
import Derived.ProofKit
import Derived.OpenShut
import Derived.Deep.DeepHandedRow
import Derived.Deep.DeepWitnessRowRef
import Derived.Lib.LaidTab
import Derived.LaidSub
import Derived.Stop.LaidErr
/- SnapLoses. -/
set_option linter.unusedVariables false
set_option linter.unusedSimpArgs false
set_option maxRecDepth 100000
namespace Go.Proofs.YtnegdinonfjdfaaDoor.Q
open Go Go.RowKit Go.Proofs
theorem FOLs : fieldsOf Tryd.prog 40 = [(37, 0), (38, 1), (3, 2), (3, 3)] := by kernel_rfl
theorem COls : Tryd.prog.cellsOf 40 = 4 := by kernel_rfl
theorem CObb : Tryd.prog.cellsOf 37 = 1 := by kernel_rfl
theorem COis : Tryd.prog.cellsOf 38 = 1 := by kernel_rfl
theorem COin : Tryd.prog.cellsOf 3 = 1 := by kernel_rfl
theorem Gbb : isAggT Tryd.prog 37 = some false := by kernel_rfl
theorem Gis : isAggT Tryd.prog 38 = some false := by kernel_rfl
theorem loss_arg {x : V} (h : ArgT Tryd.prog 40 x) : ∃ (w z : V) (cut kp : Int) (l : List BV) (zs : List Int), x = .agg [w, z, .int .i64 cut, .int .i64 kp] ∧ PtsV w l ∧ (∀ p ∈ l, BtsV p.1 p.2 ∧ p.2.length ≤ vbulk w) ∧ l.length ≤ vbulk w ∧ IntsV z zs ∧ InI64 cut ∧ InI64 kp := by
  obtain ⟨k, cs, rfl, h0⟩ := ArgT_struct FOLs h
  obtain ⟨k', hl, hf⟩ := VT_struct FOLs h0
  rw [COls] at hl
  simp only [List.mem_cons, List.not_mem_nil, or_false, forall_eq_or_imp, forall_eq, CObb, COis, COin] at hf
  obtain ⟨f0, f1, f2, f3⟩ := hf
  obtain ⟨a, h2, w2⟩ := VT_int T3 f2
  obtain ⟨b, h3, w3⟩ := VT_int T3 f3
  match cs, hl with
  | [x0, x1, x2, x3], _ =>
    simp only [List.drop_zero, List.drop_succ_cons, List.take_succ_cons, List.take_zero] at f0 f1 h2 h3
    injection h2 with h2 _
    injection h3 with h3 _
    obtain ⟨l, hw, ho, hlen⟩ := pts_arg (x := x0) (by unfold ArgT; rw [TBB]; exact ⟨k', f0⟩)
    obtain ⟨zs, hz, _⟩ := ints_arg IT.u IT.ue IT.c (x := x1) (by unfold ArgT; rw [IT.u]; exact ⟨k', f1⟩)
    exact ⟨x0, x1, a, b, l, zs, by rw [h2, h3], hw, ho, hlen, hz, InI64_of w2, InI64_of w3⟩
theorem lFA0 (r : Nat) : vfieldAddr Tryd.prog 40 (.optr r 0) 0 = some (.optr r 0) := by kernel_rfl
theorem lFA1 (r : Nat) : vfieldAddr Tryd.prog 40 (.optr r 0) 1 = some (.optr r 1) := by kernel_rfl
theorem lFA2 (r : Nat) : vfieldAddr Tryd.prog 40 (.optr r 0) 2 = some (.optr r 2) := by kernel_rfl
theorem lFA3 (r : Nat) : vfieldAddr Tryd.prog 40 (.optr r 0) 3 = some (.optr r 3) := by kernel_rfl
theorem and_255 (z : Int) : ∃ k : Nat, k < 256 ∧ bitOp .and .i64 z 255 = some ((k : Nat) : Int) := by
  have h1 : (BitVec.ofInt 64 z &&& BitVec.ofInt 64 255).toNat < 256 := by
    rw [BitVec.toNat_and]
    exact Nat.lt_of_le_of_lt Nat.and_le_right (by decide)
  refine ⟨_, h1, ?_⟩
  show some (IntKind.i64.wrap (((BitVec.ofInt 64 z &&& BitVec.ofInt 64 255).toNat : Nat) : Int)) = _
  rw [wrap_i64 (by omega) (by omega)]
def keepsTrue (r : Option (VRes × St)) (o : Ob) : Prop := ∃ σ : St, r = some (.ret (.bool true), σ) ∧ σ.objs[0]? = some o
theorem wakes_over (o : Ob) : (match vcall Tryd.prog prims 300 11 [] ⟨[o], []⟩ with | some (.ret (.bool true), σ) => σ.objs[0]? | _ => none) = some o := by kernel_rfl
theorem wakes_keep (o : Ob) : ∃ σ, Does Tryd.prog prims 11 [] ⟨[o], []⟩ (.ret (.bool true)) σ ∧ σ.objs[0]? = some o := by
  have h := wakes_over o
  split at h
  · rename_i σ hv
    exact ⟨σ, ⟨300, hv⟩, h⟩
  · cases h
theorem lit_z (σ : St) : vbuildRow Tryd.prog σ 22 1 [(0, .int .u8 122)] = some (.hslice σ.objs.length 0 1 1, ⟨σ.objs ++ [.cells [byteV (UInt8.ofNat 122)]], σ.toks⟩) := litRow1 σ (n := 122) (by omega)
theorem freeze_z (σ : St) : vfreeze Tryd.prog ⟨σ.objs ++ [.cells [byteV (UInt8.ofNat 122)]], σ.toks⟩ 22 22 (.hslice σ.objs.length 0 1 1) = some (.slice .ro 1 [byteV (UInt8.ofNat 122)] 1, ⟨σ.objs ++ [.dead], σ.toks⟩) := by
  have hu : isU8 Tryd.prog 5 = true := by kernel_rfl
  simp [vfreeze, T22, hu]
theorem conv_h (r : Nat) : vconv Tryd.prog 22 22 (.hslice r 0 1 1) = none := by simp [vconv, T22]
theorem bts_z : BtsV (.slice .ro 1 [byteV (UInt8.ofNat 122)] 1) [122] := .inr ⟨.ro, rfl⟩
theorem Behind.len {d : Dk} {C : List NB} {c : Nat} (h : Behind d C c) : (bestC C).2.length ≤ 262144 := by
  unfold bestC
  cases hg : C.getLast? with
  | none => simp
  | some p => exact (h.fit p (List.mem_of_getLast? hg)).1.2
theorem snaploses_true : LawTrue Tryd.prog prims 6 [40] := by
  intro args hA hb
  match args, hA with
  | [x], ⟨hx, _⟩ =>
    obtain ⟨w, z, cut, kp, l, zs, rfl, hw, hop, hlen, hz, hcut, hkp⟩ := loss_arg hx
    simp only [vbulks, vbulk] at hb
    obtain ⟨ob0, hob0⟩ : ∃ ob0 : Ob, ob0 = .cells [w, z, .int .i64 cut, .int .i64 kp] := ⟨_, rfl⟩
    have key : ∃ r σ', Does Tryd.prog prims 6 [.agg [w, z, .int .i64 cut, .int .i64 kp]] st0 r σ' ∧ r = .ret (.bool true) := by
      apply k6_is.does (by simp)
      obtain ⟨s1, hwk, ho1⟩ := wakes_keep ob0
      have hvc : vcells (V.agg [w, z, .int .i64 cut, .int .i64 kp]) = [w, z, .int .i64 cut, .int .i64 kp] := rfl
      have hwk : Does Tryd.prog prims 11 [] ⟨st0.objs ++ [.cells [w, z, .int .i64 cut, .int .i64 kp]], st0.toks⟩ (.ret (.bool true)) s1 := by rw [← hob0]; exact hwk
      have ld0 : ∀ s : St, s.objs[0]? = some ob0 → vload Tryd.prog s.objs 37 (.optr 0 0) = some w := fun s h => by rw [vload_obj (h.trans (by rw [hob0])) Gbb]; rfl
      have ld1 : ∀ s : St, s.objs[0]? = some ob0 → vload Tryd.prog s.objs 38 (.optr 0 1) = some z := fun s h => by rw [vload_obj (h.trans (by rw [hob0])) Gis]; rfl
      have ld2 : ∀ s : St, s.objs[0]? = some ob0 → vload Tryd.prog s.objs 3 (.optr 0 2) = some (.int .i64 cut) := fun s h => by rw [vload_obj (h.trans (by rw [hob0])) G3]; rfl
      have ld3 : ∀ s : St, s.objs[0]? = some ob0 → vload Tryd.prog s.objs 3 (.optr 0 3) = some (.int .i64 kp) := fun s h => by rw [vload_obj (h.trans (by rw [hob0])) G3]; rfl
      have hsl : st0.objs.length = 0 := rfl
      simp only [k6_a, WK, vop, evAll, evOpt, evParts, vbuiltin, vun, vextract, Nat.reduceLT, Nat.reduceEqDiff, ↓reduceIte, reduceCtorEq, Nat.reduceAdd, Int.reduceLT, Int.reduceNeg, valloc_std, noSB, vhot, List.getD_cons_zero, List.getD_cons_succ, vbox, hvc, hsl]
      refine KD.ret hwk ?_
      simp only [k6_a, WK, vop, evAll, evOpt, evParts, vbuiltin, vun, vextract, Nat.reduceLT, Nat.reduceEqDiff, ↓reduceIte, reduceCtorEq, Nat.reduceAdd, Int.reduceLT, Int.reduceNeg, valloc_std, noSB, vhot, List.getD_cons_zero, List.getD_cons_succ, Bool.not_true, lFA0, ld0 s1 ho1, hw.len]
      refine Ev.loopF (fun (i : Nat) e s => e 23 = .int .i64 (i : Nat) ∧ i ≤ l.length ∧ s = s1 ∧ ∃ n : Nat, e 3 = .int .i64 (n : Nat) ∧ n ≤ 262144 ∧ ∀ p ∈ l.take i, p.2.length ≤ n) (fun i => l.length - i) 0 ?_ ?_
      · exact ⟨by simp [upd_some], Nat.zero_le _, rfl, 0, by simp [upd_some], by omega, fun p hp => by simp at hp⟩
      rintro i e s ⟨h23, hi, hs, n, h3, hn, hall⟩ hf
      subst hs
      have g1 : e 1 = .optr 0 0 := (hf 1 (by decide)).trans (by simp [upd_some])
      have g21 : e 21 = w := (hf 21 (by decide)).trans (by simp [upd_some])
      have g22 : e 22 = .int .i64 (l.length : Nat) := (hf 22 (by decide)).trans (by simp [upd_some])
      clear hf
      by_cases hlt : i < l.length
      · have hlt' : (i : Int) < (l.length : Nat) := by omega
        have hwi : IntKind.i64.wrap ((i : Int) + 1) = ((i + 1 : Nat) : Int) := by rw [show ((i : Int) + 1) = ((i + 1 : Nat) : Int) from by omega]; exact wrap_nat (by omega)
        obtain ⟨hb1, hbb⟩ := hop l[i] (List.getElem_mem hlt)
        have hlb := hb1.len T22
        have hws : IntKind.i64.wrap ((n : Int) + (l[i].2.length : Nat)) = ((n + l[i].2.length : Nat) : Int) := by rw [wrap_i64 (by omega) (by omega)]; omega
        by_cases hbig : 262144 < n + l[i].2.length
        · have hbig' : (262144 : Int) < ((n + l[i].2.length : Nat) : Int) := by omega
          simp only [k6_a, WK, vop, evAll, evOpt, evParts, vbuiltin, vun, vextract, Nat.reduceLT, Nat.reduceEqDiff, ↓reduceIte, reduceCtorEq, Nat.reduceAdd, Int.reduceLT, Int.reduceNeg, valloc_std, noSB, vhot, h23, g21, g22, h3, hlt', decide_true, hw.addr hlt, PtsV.load hlt, hlb, hws, hbig']
        · have hbig' : ¬ (262144 : Int) < ((n + l[i].2.length : Nat) : Int) := by omega
          simp only [k6_a, WK, vop, evAll, evOpt, evParts, vbuiltin, vun, vextract, Nat.reduceLT, Nat.reduceEqDiff, ↓reduceIte, reduceCtorEq, Nat.reduceAdd, Int.reduceLT, Int.reduceNeg, valloc_std, noSB, vhot, h23, g21, g22, h3, hlt', decide_true, decide_false, hw.addr hlt, PtsV.load hlt, hlb, hws, hbig', hwi]
          refine ⟨i + 1, ⟨by simp [upd_some], by omega, n + l[i].2.length, by simp [upd_some], by omega, fun p hp => ?_⟩, by omega⟩
          rw [List.take_succ_eq_append_getElem hlt, List.mem_append, List.mem_singleton] at hp
          rcases hp with hp | rfl
          · have := hall p hp; omega
          · omega
      have hlt' : ¬ (i : Int) < (l.length : Nat) := by omega
      have hall : ∀ p ∈ l, p.2.length ≤ 262144 := fun p hp => by
        have := hall p (by rw [List.take_of_length_le (by omega)]; exact hp)
        omega
      by_cases hbig : 256 < l.length
      · have hbig' : (256 : Int) < (l.length : Nat) := by omega
        simp only [k6_a, WK, vop, evAll, evOpt, evParts, vbuiltin, vun, vextract, Nat.reduceLT, Nat.reduceEqDiff, ↓reduceIte, reduceCtorEq, Nat.reduceAdd, Int.reduceLT, Int.reduceNeg, valloc_std, noSB, vhot, h23, g22, g1, hlt', decide_true, decide_false, lFA0, ld0 s ho1, hw.len, hbig']
      have hbig' : ¬ (256 : Int) < (l.length : Nat) := by omega
      obtain ⟨s2, r, rm, c2, D2, K2, I2⟩ := newdisk_does s 2097152
      obtain ⟨s3, c3, fs3, D3, K3, I3⟩ := arm_does D2 cut kp
      have h0f3 : 0 ∉ foot r rm fs3 := fun hx => by
        have h0 := (List.getElem?_eq_some_iff.1 ho1).1
        rcases I3 _ hx with h | h
        · have := I2 _ h; omega
        · have := K2.le; omega
      have ho2 : s2.objs[0]? = some ob0 := K2.ko _ _ (by simp) ho1
      have ho3 : s3.objs[0]? = some ob0 := K3.ko _ _ (fun hx => by
        have h0 := (List.getElem?_eq_some_iff.1 ho1).1
        have := I2 _ hx; omega) ho2
      have okn : (newD 2097152).Ok := newD_ok (by unfold InI64; omega)
      have ok3 : (armD cut kp (newD 2097152)).Ok := okn.head rfl (by unfold InI64 at hcut; show ((cut.toNat : Nat) : Int) ≤ _; omega) okn.rm hkp
      have M3 : Calm (armD cut kp (newD 2097152)) kp [] 0 0 := ⟨ok3, rfl, rfl, rfl, rfl, by simp, fun p hp => (by cases hp), by simp [armD, newD]⟩
      obtain ⟨K, hK⟩ : ∃ K, K = seqC Tryd.prog prims 168 ((.seq (.seq (.region k6_r31) (.cond (.tmp 89) (.region k6_r32) .skip)) (.seq (.region k6_r33) (.seq (.region k6_r34) (.seq (.region k6_r35) (.seq (.seq (.region k6_r36) (.cond (.tmp 105) (.seq (.region k6_r37) .ret) .skip)) (.seq (.seq (.region k6_r38) (.cond (.tmp 135) (.seq (.region k6_r39) .ret) .skip)) (.seq (.seq k6_r40 (.cond (.tmp 142) (.seq (.region k6_r41) .ret) .skip)) (.seq (.region k6_r42) (.seq (.region k6_r43) .ret))))))))) : CC) (fnK Tryd.prog 168 [ResultVar.tmp 2] fun q σ' => q = .ret (.bool true)) := ⟨_, rfl⟩
      obtain ⟨J, hJ⟩ : ∃ J, J = seqC Tryd.prog prims 168 ((.seq (.region k6_r33) (.seq (.region k6_r34) (.seq (.region k6_r35) (.seq (.seq (.region k6_r36) (.cond (.tmp 105) (.seq (.region k6_r37) .ret) .skip)) (.seq (.seq (.region k6_r38) (.cond (.tmp 135) (.seq (.region k6_r39) .ret) .skip)) (.seq (.seq k6_r40 (.cond (.tmp 142) (.seq (.region k6_r41) .ret) .skip)) (.seq (.region k6_r42) (.seq (.region k6_r43) .ret)))))))) : CC) (fnK Tryd.prog 168 [ResultVar.tmp 2] fun q σ' => q = .ret (.bool true)) := ⟨_, rfl⟩
      have tail2 : ∀ (e : Nat → V) (s : St) (d : Dk) (fs : List Ent) (C : List NB) (c : Nat) (a b : Int) (va vb : V) (A B : List UInt8), e 6 = .optr r 0 → e 7 = .int .i64 (c : Nat) → e 8 = .int .i64 a → e 9 = va → e 10 = .int .i64 b → e 11 = vb → BtsV va A → BtsV vb B → DiskAt s r d rm fs → Behind d C c → c < 99999 → (bestC C = (a, A) ∨ bestC C = (b, B) ∧ b ≠ a) → J .normal e s := by
        intro e s d fs C c a b va vb A B g6 g7 g8 g9 g10 g11 ba bb D F hc hbest
        have hbl := F.len
        obtain ⟨s4, c4, fs4, D4, K4, I4⟩ := on_does D
        have ok4 : ({ d with on := true } : Dk).Ok := F.ok.head rfl F.ok.arm F.ok.rm F.ok.kp
        obtain ⟨s5, c5, fs5, D5, K5, I5⟩ := arm_does D4 0 0
        have ok5 : (armD 0 0 { d with on := true }).Ok := ok4.head rfl (by simp [armD]) ok4.rm (by unfold InI64; simp [armD])
        have F5 : Behind (armD 0 0 { d with on := true }) C c := F.head rfl rfl rfl ok5
        obtain ⟨q6, s6, c6, v6, rfl, b6, K6⟩ := load_sees D5 F5.ok
        rw [F5.load rfl] at c6 b6
        have D6 := D5.pushes K6
        obtain ⟨s7, hs7⟩ : ∃ s7 : St, s7 = ⟨s6.objs ++ [.dead], s6.toks⟩ := ⟨_, rfl⟩
        have D7 : DiskAt s7 r (armD 0 0 { d with on := true }) rm fs5 := D6.pushes (by rw [hs7]; exact KS.push _ _ _)
        have fz := freeze_z s6
        rw [← hs7] at fz
        have hF := F.wr
        obtain ⟨q8, s8, c8, rfl, fs8, D8, K8, I8⟩ := save_sees (n := ((c + 1 : Nat) : Int)) D7 F5.ok (by have := F5.wr; omega) bts_z (by decide)
        obtain ⟨S1, S2⟩ := F5.save (body := [122]) rfl rfl hc (by decide)
        rw [S1] at c8
        obtain ⟨q9, s9, c9, v9, rfl, b9, K9⟩ := load_sees D8 S2.ok
        rw [S2.load] at c9 b9
        have D9 := D8.pushes K9
        obtain ⟨q10, s10, c10, v10, p10, rfl, n10, K10, I10⟩ := names_sees D9 S2.ok
        have en : namesD (saveD ((c + 1 : Nat) : Int) [122] (armD 0 0 { d with on := true })).2 = [nmS (c + 1)] := by
          unfold namesD
          rw [if_pos S2.on, S2.fl]
          rfl
        rw [en] at n10
        have hln := (row_strs (l := [nmS (c + 1)]) n10).len TSS
        have c6 : Does Tryd.prog prims 21 [.optr r 0] s5 (.ret (.tuple [.int .i64 (bestC C).1, v6, .int .i64 0])) s6 := c6
        have c9 : Does Tryd.prog prims 21 [.optr r 0] s8 (.ret (.tuple [.int .i64 ((c + 1 : Nat) : Int), v9, .int .i64 0])) s9 := c9
        have b9 : BtsV v9 [122] := b9
        have c8 : Does Tryd.prog prims 20 [.optr r 0, .int .i64 ((c + 1 : Nat) : Int), .slice .ro 1 [byteV (UInt8.ofNat 122)] 1] s7 (.ret (.int .i64 0)) s8 := c8
        have hwc : IntKind.i64.wrap ((c : Int) + 1) = ((c + 1 : Nat) : Int) := by rw [show ((c : Int) + 1) = ((c + 1 : Nat) : Int) from by omega]; exact wrap_nat (by omega)
        have oz : ofVal (Value.string { data := #[122] }) = some (.str [122]) := rfl
        have cz := conv_str b9
        have sz : strBin BinOp.eql [122] [122] = some (.bool true) := rfl
        obtain ⟨L, hL⟩ : ∃ L, L = seqC Tryd.prog prims 168 ((.seq (.seq k6_r40 (.cond (.tmp 142) (.seq (.region k6_r41) .ret) .skip)) (.seq (.region k6_r42) (.seq (.region k6_r43) .ret))) : CC) (fnK Tryd.prog 168 [ResultVar.tmp 2] fun q σ' => q = .ret (.bool true)) := ⟨_, rfl⟩
        have fin : ∀ (e : Nat → V), e 6 = .optr r 0 → e 7 = .int .i64 (c : Nat) → L .normal e s6 := by
          intro e g6 g7
          rw [hL]
          simp only [k6_a, WK, vop, evAll, evOpt, evParts, vbuiltin, vun, vextract, Nat.reduceLT, Nat.reduceEqDiff, ↓reduceIte, reduceCtorEq, Nat.reduceAdd, Int.reduceLT, Int.reduceNeg, valloc_std, noSB, vhot, g6, g7, hwc, lit_z, conv_h, fz]
          refine KD.ret c8 ?_
          simp only [k6_a, WK, vop, evAll, evOpt, evParts, vbuiltin, vun, vextract, Nat.reduceLT, Nat.reduceEqDiff, ↓reduceIte, reduceCtorEq, Nat.reduceAdd, Int.reduceLT, Int.reduceNeg, valloc_std, noSB, vhot, g6, g7, hwc, decide_true, decide_false, eq_self, Bool.not_true, Bool.not_false]
          refine KD.ret c9 ?_
          simp only [k6_a, WK, vop, evAll, evOpt, evParts, vbuiltin, vun, vextract, Nat.reduceLT, Nat.reduceEqDiff, ↓reduceIte, reduceCtorEq, Nat.reduceAdd, Int.reduceLT, Int.reduceNeg, valloc_std, noSB, vhot, g6, g7, hwc, cz, oz, sz, Option.map_some, decide_true, decide_false, eq_self, Bool.not_true, Bool.not_false]
          refine KD.ret c10 ?_
          simp only [k6_a, WK, vop, evAll, evOpt, evParts, vbuiltin, vun, vextract, Nat.reduceLT, Nat.reduceEqDiff, ↓reduceIte, reduceCtorEq, Nat.reduceAdd, Int.reduceLT, Int.reduceNeg, valloc_std, noSB, vhot, hln, decide_true, eq_self, List.length_map, List.length_cons, List.length_nil]
          rfl
        rw [hJ]
        simp only [k6_a, WK, vop, evAll, evOpt, evParts, vbuiltin, vun, vextract, Nat.reduceLT, Nat.reduceEqDiff, ↓reduceIte, reduceCtorEq, Nat.reduceAdd, Int.reduceLT, Int.reduceNeg, valloc_std, noSB, vhot, g6]
        refine KD.ret c4 ?_
        simp only [k6_a, WK, vop, evAll, evOpt, evParts, vbuiltin, vun, vextract, Nat.reduceLT, Nat.reduceEqDiff, ↓reduceIte, reduceCtorEq, Nat.reduceAdd, Int.reduceLT, Int.reduceNeg, valloc_std, noSB, vhot, g6]
        refine KD.ret c5 ?_
        simp only [k6_a, WK, vop, evAll, evOpt, evParts, vbuiltin, vun, vextract, Nat.reduceLT, Nat.reduceEqDiff, ↓reduceIte, reduceCtorEq, Nat.reduceAdd, Int.reduceLT, Int.reduceNeg, valloc_std, noSB, vhot, g6]
        refine KD.ret c6 ?_
        by_cases hna : (bestC C).1 = a
        · have hA : (bestC C).2 = A := by
            rcases hbest with h | ⟨h, hne⟩
            · rw [h]
            · rw [h] at hna; exact absurd hna hne
          have sm := same5_does (.inl b6 : RB s6 v6 _) (.inl ba : RB s6 va A) (by show (bestC C).2.length ≤ _; omega)
          rw [show (bestC C, 0).1.2 = A from hA, decide_eq_true rfl] at sm
          simp only [k6_a, WK, vop, evAll, evOpt, evParts, vbuiltin, vun, vextract, Nat.reduceLT, Nat.reduceEqDiff, ↓reduceIte, reduceCtorEq, Nat.reduceAdd, Int.reduceLT, Int.reduceNeg, valloc_std, noSB, vhot, g6, g8, g9, hna, eq_self, decide_true, decide_false, Bool.not_true, Bool.not_false]
          rw [← hL]
          refine KD.ret sm ?_
          simp only [k6_a, WK, vop, evAll, evOpt, evParts, vbuiltin, vun, vextract, Nat.reduceLT, Nat.reduceEqDiff, ↓reduceIte, reduceCtorEq, Nat.reduceAdd, Int.reduceLT, Int.reduceNeg, valloc_std, noSB, vhot, g6, g8, g9, hna, eq_self, decide_true, decide_false, Bool.not_true, Bool.not_false]
          exact fin _ (by simp [upd_some, g6]) (by simp [upd_some, g7])
        · obtain ⟨hb, hne⟩ : bestC C = (b, B) ∧ b ≠ a := by
            rcases hbest with h | h
            · rw [h] at hna; exact absurd rfl hna
            · exact h
          have hB : (bestC C).2 = B := by rw [hb]
          have hb1 : (bestC C).1 = b := by rw [hb]
          have sm := same5_does (.inl b6 : RB s6 v6 _) (.inl bb : RB s6 vb B) (by show (bestC C).2.length ≤ _; omega)
          rw [show (bestC C, 0).1.2 = B from hB, decide_eq_true rfl] at sm
          simp only [k6_a, WK, vop, evAll, evOpt, evParts, vbuiltin, vun, vextract, Nat.reduceLT, Nat.reduceEqDiff, ↓reduceIte, reduceCtorEq, Nat.reduceAdd, Int.reduceLT, Int.reduceNeg, valloc_std, noSB, vhot, g6, g8, g9, g10, g11, hb1, hne, eq_self, decide_true, decide_false, Bool.not_true, Bool.not_false]
          rw [← hL]
          refine KD.ret sm ?_
          simp only [k6_a, WK, vop, evAll, evOpt, evParts, vbuiltin, vun, vextract, Nat.reduceLT, Nat.reduceEqDiff, ↓reduceIte, reduceCtorEq, Nat.reduceAdd, Int.reduceLT, Int.reduceNeg, valloc_std, noSB, vhot, g6, g8, g9, g10, g11, hb1, hne, eq_self, decide_true, decide_false, Bool.not_true, Bool.not_false]
          exact fin _ (by simp [upd_some, g6]) (by simp [upd_some, g7])
      have tail : ∀ (e : Nat → V) (s : St) (d : Dk) (fs : List Ent) (C : List NB) (c : Nat) (a b : Int) (va vb : V) (A B : List UInt8), e 1 = .optr 0 0 → s.objs[0]? = some ob0 → e 6 = .optr r 0 → e 7 = .int .i64 (c : Nat) → e 8 = .int .i64 a → e 9 = va → e 10 = .int .i64 b → e 11 = vb → BtsV va A → BtsV vb B → DiskAt s r d rm fs → Behind d C c → c < 99999 → (bestC C = (a, A) ∨ bestC C = (b, B) ∧ b ≠ a) → K .normal e s := by
        intro e s d fs C c a b va vb A B g1 ho g6 g7 g8 g9 g10 g11 ba bb D F hc hbest
        rw [hK]
        simp only [k6_a, WK, vop, evAll, evOpt, evParts, vbuiltin, vun, vextract, Nat.reduceLT, Nat.reduceEqDiff, ↓reduceIte, reduceCtorEq, Nat.reduceAdd, Int.reduceLT, Int.reduceNeg, valloc_std, noSB, vhot, g6]
        rw [← hJ]
        refine KD.ret (down_does D) ?_
        cases hon : d.on with
        | true =>
          obtain ⟨s4, fs4, c4, D4, K4, I4⟩ := off_does D F.ok kp
          simp only [k6_a, WK, vop, evAll, evOpt, evParts, vbuiltin, vun, vextract, Nat.reduceLT, Nat.reduceEqDiff, ↓reduceIte, reduceCtorEq, Nat.reduceAdd, Int.reduceLT, Int.reduceNeg, valloc_std, noSB, vhot, g6, g1, lFA3, ld3 s ho, Bool.not_true, Bool.not_false]
          refine KD.ret c4 ?_
          simp only [k6_a, WK, vop, evAll, evOpt, evParts, vbuiltin, vun, vextract, Nat.reduceLT, Nat.reduceEqDiff, ↓reduceIte, reduceCtorEq, Nat.reduceAdd, Int.reduceLT, Int.reduceNeg, valloc_std, noSB, vhot]
          exact tail2 _ s4 _ fs4 C c a b va vb A B (by simp [upd_some, g6]) (by simp [upd_some, g7]) (by simp [upd_some, g8]) (by simp [upd_some, g9]) (by simp [upd_some, g10]) (by simp [upd_some, g11]) ba bb D4 (F.off kp).1 hc hbest
        | false =>
          simp only [k6_a, WK, vop, evAll, evOpt, evParts, vbuiltin, vun, vextract, Nat.reduceLT, Nat.reduceEqDiff, ↓reduceIte, reduceCtorEq, Nat.reduceAdd, Int.reduceLT, Int.reduceNeg, valloc_std, noSB, vhot, g6, Bool.not_true, Bool.not_false]
          exact tail2 _ s _ fs C c a b va vb A B (by simp [upd_some, g6]) (by simp [upd_some, g7]) (by simp [upd_some, g8]) (by simp [upd_some, g9]) (by simp [upd_some, g10]) (by simp [upd_some, g11]) ba bb D F hc hbest
      have hl256 : l.length ≤ 256 := by omega
      simp only [k6_a, WK, vop, evAll, evOpt, evParts, vbuiltin, vun, vextract, Nat.reduceLT, Nat.reduceEqDiff, ↓reduceIte, reduceCtorEq, Nat.reduceAdd, Int.reduceLT, Int.reduceNeg, valloc_std, noSB, vhot, h23, g22, g1, hlt', decide_true, decide_false, lFA0, ld0 s ho1, hw.len, hbig']
      refine KD.ret c2 ?_
      simp only [k6_a, WK, vop, evAll, evOpt, evParts, vbuiltin, vun, vextract, Nat.reduceLT, Nat.reduceEqDiff, ↓reduceIte, reduceCtorEq, Nat.reduceAdd, Int.reduceLT, Int.reduceNeg, valloc_std, noSB, vhot, g1, lFA2, lFA3, ld2 s2 ho2, ld3 s2 ho2]
      refine KD.ret c3 ?_
      simp only [k6_a, WK, vop, evAll, evOpt, evParts, vbuiltin, vun, vextract, Nat.reduceLT, Nat.reduceEqDiff, ↓reduceIte, reduceCtorEq, Nat.reduceAdd, Int.reduceLT, Int.reduceNeg, valloc_std, noSB, vhot, g1, lFA0, ld0 s3 ho3, hw.len, nilEP]
      rw [← hK]
      refine Ev.loopF (fun (i : Nat) e s => e 48 = .int .i64 (i : Nat) ∧ i ≤ l.length ∧ ∃ (d : Dk) (fs : List Ent) (L : List NB) (c : Nat) (b : Int) (va vb : V) (B : List UInt8), DiskAt s r d rm fs ∧ Calm d kp L c i ∧ e 7 = .int .i64 (c : Nat) ∧ c ≤ 256 * i ∧ e 8 = .int .i64 (bestC L).1 ∧ e 9 = va ∧ BtsV va (bestC L).2 ∧ e 10 = .int .i64 b ∧ e 11 = vb ∧ BtsV vb B ∧ s.objs[0]? = some ob0 ∧ 0 ∉ foot r rm fs ∧ (bestC L).1 ≤ c) (fun i => l.length - i) 0 ?_ ?_
      · exact ⟨by simp [upd_some], Nat.zero_le _, _, fs3, [], 0, -1, .nils, .nils, [], D3, M3, by simp [upd_some], Nat.zero_le _, by simp [upd_some, bestC], by simp [upd_some], .inl ⟨rfl, rfl⟩, by simp [upd_some], by simp [upd_some], .inl ⟨rfl, rfl⟩, ho3, h0f3, by simp [bestC]⟩
      rintro i e s ⟨h48, hi, d, fs, L, c, b, va, vb, B, D, M, h7, hc, h8, h9, ba, h10, h11, bb, ho, hnf, hbc⟩ hf
      have g1 : e 1 = .optr 0 0 := (hf 1 (by decide)).trans (by simp [upd_some, g1])
      have g6 : e 6 = .optr r 0 := (hf 6 (by decide)).trans (by simp [upd_some])
      have g46 : e 46 = w := (hf 46 (by decide)).trans (by simp [upd_some])
      have g47 : e 47 = .int .i64 (l.length : Nat) := (hf 47 (by decide)).trans (by simp [upd_some])
      clear hf
      by_cases hlt : i < l.length
      · have hlt' : (i : Int) < (l.length : Nat) := by omega
        have hwi : IntKind.i64.wrap ((i : Int) + 1) = ((i + 1 : Nat) : Int) := by rw [show ((i : Int) + 1) = ((i + 1 : Nat) : Int) from by omega]; exact wrap_nat (by omega)
        obtain ⟨hb1, hbb⟩ := hop l[i] (List.getElem_mem hlt)
        have hb2 := hall l[i] (List.getElem_mem hlt)
        have hlz := hz.len IT
        have step : ∀ c' : Nat, c < c' → c' ≤ 256 * (i + 1) → ∃ (k : Int) (s4 : St) (d4 : Dk) (fs4 : List Ent), Does Tryd.prog prims 20 [.optr r 0, .int .i64 ((c' : Nat) : Int), l[i].1] s (.ret (.int .i64 k)) s4 ∧ DiskAt s4 r d4 rm fs4 ∧ s4.objs[0]? = some ob0 ∧ 0 ∉ foot r rm fs4 ∧ ((k = 0 ∧ Calm d4 kp [(c', l[i].2)] c' (i + 1)) ∨ (k = 20 ∧ d4.on = false ∧ ∃ C, Behind d4 C c' ∧ (bestC C = ((c' : Int), l[i].2) ∨ bestC C = bestC L))) := by
          intro c' h1 h2
          have hwr := M.wr
          obtain ⟨q4, s4, c4, rfl, fs4, D4, K4, I4⟩ := save_sees (n := ((c' : Nat) : Int)) D M.ok (by omega) hb1 (by omega)
          have ho4 : s4.objs[0]? = some ob0 := K4.ko _ _ hnf ho
          have hnf4 : 0 ∉ foot r rm fs4 := fun hx => by
            rcases I4 _ hx with h | h
            · exact hnf h
            · have := (List.getElem?_eq_some_iff.1 ho).1; omega
          refine ⟨_, s4, _, fs4, c4, D4, ho4, hnf4, ?_⟩
          rcases M.save (n := c') (body := l[i].2) h1 ⟨by simp only; omega, hb2⟩ (by omega) with ⟨a1, a2⟩ | ⟨a1, a2, C, a3, a4⟩
          · exact .inl ⟨by rw [a1]; rfl, a2⟩
          · refine .inr ⟨by rw [a1]; rfl, a2, C, a3, ?_⟩
            rcases a4 with a4 | a4
            · exact .inl (by unfold bestC; rw [a4])
            · exact .inr (by rw [a4])
        have hdone : ∀ (c' : Nat) (e' : Nat → V) (s4 : St) (d4 : Dk) (fs4 : List Ent), c < c' → c' ≤ 256 * (i + 1) → e' 1 = .optr 0 0 → e' 6 = .optr r 0 → e' 7 = .int .i64 ((c' : Nat) : Int) → e' 8 = .int .i64 (bestC L).1 → e' 9 = va → e' 10 = .int .i64 ((c' : Nat) : Int) → e' 11 = l[i].1 → DiskAt s4 r d4 rm fs4 → s4.objs[0]? = some ob0 → (∃ C, Behind d4 C c' ∧ (bestC C = ((c' : Int), l[i].2) ∨ bestC C = bestC L)) → K .normal e' s4 := by
          rintro c' e' s4 d4 fs4 h1 h2 k1 k6 k7 k8 k9 k10 k11 D4 ho4 ⟨C, F4, hC⟩
          refine tail e' s4 d4 fs4 C c' (bestC L).1 c' va l[i].1 (bestC L).2 l[i].2 k1 ho4 k6 k7 k8 k9 k10 k11 ba hb1 D4 F4 (by omega) ?_
          rcases hC with h | h
          · exact .inr ⟨h, by omega⟩
          · exact .inl h
        by_cases hix : i < zs.length
        · have hix' : (i : Int) < (zs.length : Nat) := by omega
          obtain ⟨k, hk, hand⟩ := and_255 zs[i]
          have hza : vindexAddr Tryd.prog 38 z (.int .i64 (i : Nat)) = some (.eptr (zs.map i64V) i) := by
            have := hz.addr IT (k := .i64) (n := (i : Int)) (by omega) (by omega)
            rwa [Int.toNat_natCast] at this
          have hzl := fun (objs : List Ob) => IntsV.load IT (objs := objs) hix
          have hw1 : IntKind.i64.wrap (1 + (k : Int)) = ((1 + k : Nat) : Int) := by rw [wrap_i64 (by omega) (by omega)]; omega
          have hw2 : IntKind.i64.wrap ((c : Int) + ((1 + k : Nat) : Int)) = ((c + 1 + k : Nat) : Int) := by rw [wrap_i64 (by omega) (by omega)]; omega
          obtain ⟨q, s4, d4, fs4, c4, D4, ho4, hnf4, hq⟩ := step (c + 1 + k) (by omega) (by omega)
          simp only [k6_a, WK, vop, evAll, evOpt, evParts, vbuiltin, vun, vextract, Nat.reduceLT, Nat.reduceEqDiff, ↓reduceIte, reduceCtorEq, Nat.reduceAdd, Int.reduceLT, Int.reduceNeg, valloc_std, noSB, vhot, h48, g46, g47, g1, g6, h7, hlt', decide_true, decide_false, hw.addr hlt, PtsV.load hlt, lFA1, ld1 s ho, hlz, hix', hza, hzl, hand, Option.map_some, hw1, hw2]
          refine KD.ret c4 ?_
          rcases hq with ⟨rfl, M4⟩ | ⟨rfl, hon, hC⟩
          · simp only [k6_a, WK, vop, evAll, evOpt, evParts, vbuiltin, vun, vextract, Nat.reduceLT, Nat.reduceEqDiff, ↓reduceIte, reduceCtorEq, Nat.reduceAdd, Int.reduceLT, Int.reduceNeg, valloc_std, noSB, vhot, h48, g46, g47, g1, g6, h7, eq_self, decide_true, decide_false, Bool.not_true, hwi]
            exact ⟨i + 1, ⟨by simp [upd_some], by omega, d4, fs4, [(c + 1 + k, l[i].2)], c + 1 + k, ((c + 1 + k : Nat) : Int), l[i].1, l[i].1, l[i].2, D4, M4, by simp [upd_some], by omega, by simp [upd_some, bestC], by simp [upd_some], hb1, by simp [upd_some], by simp [upd_some], hb1, ho4, hnf4, by simp [bestC]⟩, by omega⟩
          · have hdn := down_does D4
            rw [hon] at hdn
            simp only [k6_a, WK, vop, evAll, evOpt, evParts, vbuiltin, vun, vextract, Nat.reduceLT, Nat.reduceEqDiff, ↓reduceIte, reduceCtorEq, Nat.reduceAdd, Int.reduceLT, Int.reduceNeg, valloc_std, noSB, vhot, h48, g46, g47, g1, g6, h7, eq_self, decide_true, decide_false, Bool.not_true, Bool.not_false, (by decide : ¬ (20 : Int) = 0)]
            refine KD.ret hdn ?_
            simp only [k6_a, WK, vop, evAll, evOpt, evParts, vbuiltin, vun, vextract, Nat.reduceLT, Nat.reduceEqDiff, ↓reduceIte, reduceCtorEq, Nat.reduceAdd, Int.reduceLT, Int.reduceNeg, valloc_std, noSB, vhot, Bool.not_true, Bool.not_false]
            exact hdone (c + 1 + k) _ s4 d4 fs4 (by omega) (by omega) (by simp [upd_some, g1]) (by simp [upd_some, g6]) (by simp [upd_some]) (by simp [upd_some, h8]) (by simp [upd_some, h9]) (by simp [upd_some]) (by simp [upd_some]) D4 ho4 hC
        · have hix' : ¬ (i : Int) < (zs.length : Nat) := by omega
          have hw2 : IntKind.i64.wrap ((c : Int) + 1) = ((c + 1 : Nat) : Int) := by rw [wrap_i64 (by omega) (by omega)]; omega
          obtain ⟨q, s4, d4, fs4, c4, D4, ho4, hnf4, hq⟩ := step (c + 1) (by omega) (by omega)
          simp only [k6_a, WK, vop, evAll, evOpt, evParts, vbuiltin, vun, vextract, Nat.reduceLT, Nat.reduceEqDiff, ↓reduceIte, reduceCtorEq, Nat.reduceAdd, Int.reduceLT, Int.reduceNeg, valloc_std, noSB, vhot, h48, g46, g47, g1, g6, h7, hlt', decide_true, decide_false, hw.addr hlt, PtsV.load hlt, lFA1, ld1 s ho, hlz, hix', hw2]
          refine KD.ret c4 ?_
          rcases hq with ⟨rfl, M4⟩ | ⟨rfl, hon, hC⟩
          · simp only [k6_a, WK, vop, evAll, evOpt, evParts, vbuiltin, vun, vextract, Nat.reduceLT, Nat.reduceEqDiff, ↓reduceIte, reduceCtorEq, Nat.reduceAdd, Int.reduceLT, Int.reduceNeg, valloc_std, noSB, vhot, h48, g46, g47, g1, g6, h7, eq_self, decide_true, decide_false, Bool.not_true, hwi]
            exact ⟨i + 1, ⟨by simp [upd_some], by omega, d4, fs4, [(c + 1, l[i].2)], c + 1, ((c + 1 : Nat) : Int), l[i].1, l[i].1, l[i].2, D4, M4, by simp [upd_some], by omega, by simp [upd_some, bestC], by simp [upd_some], hb1, by simp [upd_some], by simp [upd_some], hb1, ho4, hnf4, by simp [bestC]⟩, by omega⟩
          · have hdn := down_does D4
            rw [hon] at hdn
            simp only [k6_a, WK, vop, evAll, evOpt, evParts, vbuiltin, vun, vextract, Nat.reduceLT, Nat.reduceEqDiff, ↓reduceIte, reduceCtorEq, Nat.reduceAdd, Int.reduceLT, Int.reduceNeg, valloc_std, noSB, vhot, h48, g46, g47, g1, g6, h7, eq_self, decide_true, decide_false, Bool.not_true, Bool.not_false, (by decide : ¬ (20 : Int) = 0)]
            refine KD.ret hdn ?_
            simp only [k6_a, WK, vop, evAll, evOpt, evParts, vbuiltin, vun, vextract, Nat.reduceLT, Nat.reduceEqDiff, ↓reduceIte, reduceCtorEq, Nat.reduceAdd, Int.reduceLT, Int.reduceNeg, valloc_std, noSB, vhot, Bool.not_true, Bool.not_false]
            exact hdone (c + 1) _ s4 d4 fs4 (by omega) (by omega) (by simp [upd_some, g1]) (by simp [upd_some, g6]) (by simp [upd_some]) (by simp [upd_some, h8]) (by simp [upd_some, h9]) (by simp [upd_some]) (by simp [upd_some]) D4 ho4 hC
      · have hlt' : ¬ (i : Int) < (l.length : Nat) := by omega
        simp only [k6_a, WK, vop, evAll, evOpt, evParts, vbuiltin, vun, vextract, Nat.reduceLT, Nat.reduceEqDiff, ↓reduceIte, reduceCtorEq, Nat.reduceAdd, Int.reduceLT, Int.reduceNeg, valloc_std, noSB, vhot, h48, g47, hlt', decide_false]
        exact tail _ s d fs L c (bestC L).1 b va vb (bestC L).2 B (by simp [upd_some, g1]) ho (by simp [upd_some, g6]) (by simp [upd_some, h7]) (by simp [upd_some, h8]) (by simp [upd_some, h9]) (by simp [upd_some, h10]) (by simp [upd_some, h11]) ba bb D (M.fin (by omega)) (by omega) (.inl rfl)
    obtain ⟨r, σ', ⟨m, h⟩, rfl⟩ := key
    exact ⟨m, σ', h⟩
end Go.Proofs.YtnegdinonfjdfaaDoor.Q

/- What the rows' lists of variables give, and a world that meets them. -/
set_option linter.unusedVariables false
set_option linter.unusedSimpArgs false
set_option maxRecDepth 100000
namespace Go.Proofs.YtnegdinonfjdfaaDoor.Q
open Go Go.RowKit Go.Proofs Go.ChangeShapes Go.WideShapes Go.ChangeAt
noncomputable abbrev listL : List (String × DataW Unit) := Rows.snapBytesUptoRow.laid
theorem only_half : (listL.filter fun x => x.1 == "quern/crc.half") = [("quern/crc.half", Lib.tabData .u32 (half.map fun n : Nat => (n : Int)))] := by kernel_rfl
theorem only_pow : (listL.filter fun x => x.1 == "internal/strconv.uint64pow10") = [("internal/strconv.uint64pow10", Lib.tabData .u64 Lib.pow10Tab)] := by kernel_rfl
theorem only_err : (listL.filter fun x => x.1 == "strconv.ErrSyntax") = [("strconv.ErrSyntax", .iface "*errors.errorString" (.ptr (.agg [.lit (.string [105, 110, 118, 97, 108, 105, 100, 32, 115, 121, 110, 116, 97, 120])])))] := by kernel_rfl
theorem starErr : "*" ++ "errors.errorString" = "*errors.errorString" := by decide
theorem rowErr (u : TypeId) (h : Tryd.prog.typeName? 3 u = some "*errors.errorString") : u = 151 :=
  typeName_ptr_named (nm := "errors.errorString") (by rw [starErr]; kernel_rfl) (by kernel_rfl) (by decide) u (by rw [starErr]; exact h)
theorem lays_of {W : World} (h : laidMetH Tryd.prog listL W) : Lays W.heap.size W := by
  have h1 := h.filter fun x => x.1 == "quern/crc.half"
  have h2 := h.filter fun x => x.1 == "internal/strconv.uint64pow10"
  have h3 := h.filter fun x => x.1 == "strconv.ErrSyntax"
  rw [only_half] at h1
  rw [only_pow] at h2
  rw [only_err] at h3
  have t1 : Lib.TabIs Tryd.prog W "quern/crc.half" .u32 (half.map fun n : Nat => (n : Int)) := Lib.tabIs_of_head (rest := []) (g := 0) (by kernel_rfl) (by kernel_rfl) pTA pTU (by kernel_rfl) (by kernel_rfl) h1
  have t2 : Lib.TabIs Tryd.prog W "internal/strconv.uint64pow10" .u64 Lib.pow10Tab := Lib.tabIs_of_head (rest := []) (g := 1) (by kernel_rfl) (by kernel_rfl) Tryd.underlying134 Tryd.underlying64 (by kernel_rfl) (by kernel_rfl) h2
  obtain ⟨a, s, hv, _⟩ := laid_sentinel (r := []) (g := 2) h3 (by kernel_rfl) (by kernel_rfl) Tryd.underlying97 rowErr Tryd.underlying151 Tryd.underlying153 rfl rfl Tryd.underlying9 (by kernel_rfl) (by kernel_rfl)
  have hg2 : Tryd.prog.globalNamed "strconv.ErrSyntax" = some 2 := by kernel_rfl
  have hc2 : W.cell? ⟨2, 0, none⟩ = some (.iface 151 (.pointer (some a))) := by
    have := World.var?_cell hg2 hv 0
    simpa using this
  refine ⟨?_, fun i hi => ?_, t2, _, hc2, .inr ⟨_, _, rfl⟩⟩
  · have := World.block_lt_of_cell? _ _ hc2
    simp only at this
    omega
  · have hg : Tryd.prog.globalNamed "quern/crc.half" = some 0 := by kernel_rfl
    have := t1.cell hg i hi
    have e : ∀ j : Fin 16, (half.map fun n : Nat => (n : Int)).getD j.val 0 = ((half.getD j.val 0 : Nat) : Int) := by decide
    rw [e ⟨i, hi⟩] at this
    exact this
section
variable {H : Type} {enc : TypeId × Value → H} {P : Program}
theorem law_callsW {pr : Prim} {W : World} (hp : PrimOk P pr W.heap.size W) (hl : laidOutB P = true) {S : List TypeId} (hS : plainS P S = true) {F : FuncId} {ts : List TypeId} (hts : ∀ t, t ∈ ts → t ∈ S) (h20 : ts.length ≤ 20) (hT : LawTrue P pr F ts) {r : Reach} {b : Nat} {args : Array Value} {ds : List (DataW H)} {ps : List MemPlace}
    (hval : ∀ (j : Nat) t v, ts[j]? = some t → args.toList[j]? = some v → Value.okWide P W r b t v) (hA : DataW.TrodAll enc P W 0 (fun _ => true) true ts args.toList ds ps) (hk : Rows.uptoBulkAll ds ≤ 1048576) :
    Calls P F args W fun e W' => e = .returned (.bool true) ∧ Below W.heap.size W W' := by
  obtain ⟨xs, h1, h2, h3⟩ := args_V hl hS hts hval hA
  obtain ⟨n, σ', hn⟩ := hT xs h2 (by omega)
  have := vcall_sound hp hn (gh0 W) W args.toList (rel0 W) h1
  rw [Array.toArray_toList] at this
  refine this.mono fun e W' ⟨g', hE, hR, u, he, hV⟩ => ?_
  simp only [VR] at hV
  subst hV
  exact ⟨he, hR.below⟩
end
/-! ### A world that meets them -/
def cellsD : DataW Unit → Array Value
  | .agg l => (l.map fun | .lit (.int k z) => Value.int k z | _ => undef).toArray
  | _ => #[]
noncomputable def low : Nat := (World.holding Tryd.prog default ⟨#[], #[], []⟩).heap.size
def textR : ByteArray := ⟨#[118, 97, 108, 117, 101, 32, 111, 117, 116, 32, 111, 102, 32, 114, 97, 110, 103, 101]⟩
def textS : ByteArray := ⟨#[105, 110, 118, 97, 108, 105, 100, 32, 115, 121, 110, 116, 97, 120]⟩
noncomputable def laidWorld (os : Os) : World :=
  let w0 := World.holding Tryd.prog os ⟨#[.cells #[.string textR] 153, .cells #[.string textS] 153], #[], []⟩
  let put (h : Array Obj) (g : Nat) (cs : Array Value) : Array Obj := h.modify g fun
    | .cells _ t frozen => .cells cs t frozen
    | o => o
  let h1 := put w0.heap 0 (cellsD Rows.laid_quern_crc_half)
  let h2 := put h1 1 (cellsD Rows.laid_internal_strconv_uint64pow10)
  let h3 := put h2 2 #[.iface 151 (.pointer (some ⟨low + 1, 0, none⟩))]
  let h4 := put h3 3 #[.iface 151 (.pointer (some ⟨low, 0, none⟩))]
  let h5 := put h4 4 (cellsD Rows.laid_math_bits_deBruijn32tab)
  let h6 := put h5 5 (cellsD Rows.laid_math_bits_deBruijn64tab)
  { w0 with heap := h6 }
theorem laid_met (os : Os) (args : Array Value) : laidMet Tryd.prog listL ((laidWorld os).forCall (fun _ _ => 0) ⟨#[], args, []⟩).memory :=
  laidMet_of_run' 8 (by kernel_rfl) (by kernel_rfl)
end Go.Proofs.YtnegdinonfjdfaaDoor.Q

