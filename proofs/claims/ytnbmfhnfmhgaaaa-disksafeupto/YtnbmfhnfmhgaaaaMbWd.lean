/- DiskSafe: whatever the input of bulk at most 1048576: the law answers true, and the input reads as it did. -/
import Derived.Test.YtnbmfhnfmhgaaaaMb7
/- DiskSafe: for every input of bulk at most 1048576 the law answers true. -/
set_option linter.unusedVariables false
set_option linter.unusedSimpArgs false
set_option maxRecDepth 100000
namespace Go.Proofs.Ytnbmfhnfmhgaaaa.Q
open Go Go.RowKit Go.Proofs
/-! ### Rows of truths as arguments -/
theorem TLB : Try.prog.underlying 38 = some (.slice 4) := by kernel_rfl
theorem CLB : Try.prog.cellsOf 4 = 1 := by kernel_rfl
def BoolsV (w : V) (l : List Bool) : Prop := RowV 1 w (l.map V.bool) l.length
theorem bools_arg {x : V} (h : ArgT Try.prog 38 x) : ∃ l : List Bool, BoolsV x l ∧ l.length ≤ vbulk x := by
  obtain ⟨k, hv⟩ : ∃ k, VT Try.prog k 38 [x] := by
    unfold ArgT at h
    rw [TLB] at h
    exact h
  obtain ⟨k', hc⟩ := VT_slice TLB hv
  rcases hc with hc | ⟨vs, len, hc, h1, h2, h3⟩
  · injection hc with hc
    subst hc
    exact ⟨[], ⟨rfl, .inl ⟨rfl, rfl⟩⟩, by simp⟩
  · injection hc with hc
    subst hc
    rw [CLB] at h1 h3 ⊢
    obtain ⟨l, rfl, hl, hR⟩ := rows_of (f := fun b : Bool => [V.bool b]) (R := fun _ => True) len vs h1 fun i hi => by
      obtain ⟨b, e⟩ := VT_bool T4 (h3 i hi)
      exact ⟨b, e, trivial⟩
    subst hl
    have e : l.flatMap (fun b : Bool => [V.bool b]) = l.map V.bool := by rw [List.map_eq_flatMap]
    have hbl := bulk_len (f := fun b : Bool => [V.bool b]) (k := 1) (fun _ => rfl) (by omega) l
    refine ⟨l, ⟨by simp, .inr ⟨.ro, by rw [e]⟩⟩, ?_⟩
    simp only [vbulk]; omega
theorem BoolsV.len {v : V} {l : List Bool} (h : BoolsV v l) : vlen Try.prog 38 v = some (.int .i64 l.length) := RowV.len h TLB
theorem BoolsV.addr {v : V} {l : List Bool} (h : BoolsV v l) {i : Nat} (hi : i < l.length) : vindexAddr Try.prog 38 v (.int .i64 i) = some (.eptr (l.map V.bool) i) := by
  have := RowV.addr h TLB S4 (by omega) (kk := .i64) (i := i) (by omega) (by omega)
  rwa [Int.toNat_natCast, Nat.mul_one] at this
theorem BoolsV.load {l : List Bool} {i : Nat} (hi : i < l.length) {objs : List Ob} : vload Try.prog objs 4 (.eptr (l.map V.bool) i) = some (.bool l[i]) := by
  simp [vload, vcellsAt, vpart, G4, hi]
/-! ### Plainly -/
def nmF : List UInt8 := [102]
structure Safe (d : Dk) (all : List UInt8) (sf i : Nat) : Prop where
  ok : d.Ok
  on : d.on = true
  arm : d.armed = 0
  room : d.room = 1048576
  wr : d.writes ≤ 2 * i
  sl : sf ≤ all.length
  fl : d.files = if i = 0 then [] else [⟨nmF, all.take sf, all.drop sf⟩]
  zr : i = 0 → all = []
theorem Safe.new : Safe (newD 1048576) [] 0 0 := ⟨newD_ok (by unfold InI64; omega), rfl, rfl, rfl, Nat.le_refl _, Nat.le_refl _, rfl, fun _ => rfl⟩
theorem get_one (f : Fl) : getF [f] f.name = some f := by simp [getF]
theorem put_one (f x : Fl) (h : f.name = x.name) : putF x [f] = [x] := by
  have : ¬ x.name < x.name := lt_irrefl' _
  simp [putF, h, this]
theorem Safe.size {d : Dk} {all : List UInt8} {sf i : Nat} (h : Safe d all sf i) : sizeD d.files = all.length ∧ d.files.length < 16 := by
  have h1 := h.fl
  by_cases hi : i = 0
  · rw [if_pos hi] at h1
    rw [h1, h.zr hi]
    exact ⟨rfl, by simp⟩
  · rw [if_neg hi] at h1
    rw [h1]
    have := h.sl
    exact ⟨by simp [sizeD, Fl.len]; omega, by simp⟩
theorem Safe.app {d : Dk} {all : List UInt8} {sf i : Nat} (h : Safe d all sf i) (b : List UInt8) (hb : all.length + b.length ≤ 524288) : (appendD nmF b d).1 = 0 ∧ Safe (appendD nmF b d).2 (all ++ b) sf (i + 1) := by
  obtain ⟨s1, s2⟩ := h.size
  rcases append_plain h.ok (n := nmF) (b := b) (by decide) h.on h.arm (by omega) s2 with ⟨h3, _⟩ | ⟨h3, h4, h5⟩
  · rw [h.room, s1] at h3; omega
  · have hok := (append_ok (n := nmF) (b := b) h.ok).1
    have hwr := h.wr
    have hsl := h.sl
    rw [h4] at hok ⊢
    refine ⟨rfl, hok, h.on, h.arm, h.room, by simp only; omega, by rw [List.length_append]; omega, ?_, fun h => by omega⟩
    rw [if_neg (by omega)]
    have h1 := h.fl
    by_cases hi : i = 0
    · rw [if_pos hi] at h1
      have ha := h.zr hi
      subst ha
      have hs0 : sf = 0 := by simpa using hsl
      subst hs0
      simp only [h1]
      simp [getF, putF]
    · rw [if_neg hi] at h1
      simp only [h1]
      rw [show getF [(⟨nmF, all.take sf, all.drop sf⟩ : Fl)] nmF = some ⟨nmF, all.take sf, all.drop sf⟩ from get_one _]
      simp only [Option.getD_some]
      rw [put_one, List.take_append_of_le_length hsl, List.drop_append_of_le_length hsl]
      rfl
theorem Safe.snc {d : Dk} {all : List UInt8} {sf i : Nat} (h : Safe d all sf (i + 1)) (hw : d.writes ≤ 2 * i + 1) : (syncD nmF d).1 = 0 ∧ Safe (syncD nmF d).2 all all.length (i + 1) := by
  have h1 := h.fl
  rw [if_neg (by omega)] at h1
  have hg : getF d.files nmF = some ⟨nmF, all.take sf, all.drop sf⟩ := by rw [h1]; exact get_one _
  have ht : ¬ thereD d nmF ≠ 0 := by
    unfold thereD
    rw [if_neg (by rw [readyD_yes (by decide) h.on]; simp), hg]
    simp
  have hr : rawD d = (false, { d with writes := d.writes + 1 }) := by unfold rawD; rw [if_pos h.arm]
  have e : syncD nmF d = (0, { d with writes := d.writes + 1, files := [⟨nmF, all, []⟩] }) := by
    unfold syncD
    rw [if_neg ht, hr, if_neg (by simp), hg]
    simp only [Option.getD_some]
    rw [h1, put_one, List.take_append_drop]
    rfl
  have hok := (sync_ok (n := nmF) h.ok).1
  rw [e] at hok ⊢
  refine ⟨rfl, hok, h.on, h.arm, h.room, by simp only; omega, Nat.le_refl _, ?_, fun h => by omega⟩
  rw [if_neg (by omega)]
  simp
/-- What is found behind the loss of power. -/
theorem Safe.found {d : Dk} {all : List UInt8} {sf i : Nat} (h : Safe d all sf i) (k : Int) :
    namesD (offD k d) = [] ∧ (offD k d).on = false ∧ ((i = 0 ∧ readD nmF { offD k d with on := true } = (21, [])) ∨ (i ≠ 0 ∧ readD nmF { offD k d with on := true } = (0, all.take (sf + min k.toNat (all.length - sf))))) := by
  have e : offD k d = { d with files := d.files.map (offF k), on := false, armed := 0 } := by unfold offD; rw [if_pos h.on]
  refine ⟨by rw [e]; rfl, by rw [e], ?_⟩
  have h1 := h.fl
  by_cases hi : i = 0
  · refine .inl ⟨hi, ?_⟩
    rw [if_pos hi] at h1
    rw [e, h1]
    rfl
  · refine .inr ⟨hi, ?_⟩
    rw [if_neg hi] at h1
    rw [e, h1]
    have hm : all.take (sf + min k.toNat (all.length - sf)) = all.take sf ++ (all.drop sf).take k.toNat := by
      rw [List.take_add]
      congr 1
      rw [List.take_eq_take_iff, List.length_drop]
      omega
    rw [hm]
    simp only [List.map_cons, List.map_nil]
    unfold readD
    have hg : getF [offF k ⟨nmF, all.take sf, all.drop sf⟩] nmF = some (offF k ⟨nmF, all.take sf, all.drop sf⟩) := get_one _
    have ht : ¬ thereD { d with files := [offF k ⟨nmF, all.take sf, all.drop sf⟩], on := true, armed := 0 } nmF ≠ 0 := by
      unfold thereD
      rw [if_neg (by rw [readyD_yes (by decide) rfl]; simp)]
      simp only [hg]
      simp
    rw [if_neg ht]
    simp only [hg, Option.getD_some]
    simp only [offF, List.append_nil]
/-! ### The walk -/
theorem DiskAt.objs {σ σ' : St} {r rm : Nat} {d : Dk} {fs : List Ent} (h : DiskAt σ r d rm fs) (e : σ'.objs = σ.objs) : DiskAt σ' r d rm fs := ⟨by rw [e]; exact h.hd, by rw [e]; exact h.hm, by rw [e]; exact h.hf, h.nd, h.pm⟩
theorem OwnV.toks {e m : Nat} {σ σ' : St} {v : V} {bs : List UInt8} (h : OwnV e m σ v bs) (hk : ∀ k, tokLive σ.toks k = true → tokLive σ'.toks k = true) : OwnV e m σ' v bs := (h.toR.keep hk).toV
def tot (l : List BV) (i : Nat) : Nat := ((l.take i).map fun p => p.2.length).sum
theorem tot_succ {l : List BV} {i : Nat} (h : i < l.length) : tot l (i + 1) = tot l i + l[i].2.length := by
  unfold tot
  rw [List.take_succ_eq_append_getElem h]
  simp only [List.map_append, List.map_cons, List.map_nil, List.sum_append, List.sum_cons, List.sum_nil, Nat.add_zero]
theorem tot_mono {l : List BV} {i j : Nat} (h : i ≤ j) : tot l i ≤ tot l j := by
  induction j with
  | zero => have : i = 0 := by omega
            subst this; exact Nat.le_refl _
  | succ j ih =>
    by_cases hj : i = j + 1
    · subst hj; exact Nat.le_refl _
    · have h2 := ih (by omega)
      by_cases hl : j < l.length
      · rw [tot_succ hl]; omega
      · have : l.take (j + 1) = l.take j := by rw [List.take_of_length_le (by omega), List.take_of_length_le (by omega)]
        unfold tot at h2 ⊢
        rw [this]; exact h2
theorem disksafe_true : LawTrue Try.prog prims 5 [22, 38, 3] := by
  intro args hA hb
  match args, hA with
  | [w, y, v], ⟨hx2, hx3, hx, _⟩ =>
    obtain ⟨kp, rfl, hkp⟩ : ∃ n : Int, v = .int .i64 n ∧ InI64 n := int_arg T3 hx
    simp only [vbulks] at hb
    obtain ⟨l, hw, ho, hlen⟩ := pts_arg hx2
    obtain ⟨ys, hy, hyl⟩ := bools_arg hx3
    have key : ∃ r σ', Does Try.prog prims 5 [w, y, .int .i64 kp] st0 r σ' ∧ r = .ret (.bool true) := by
      apply k5_is.does (by simp)
      obtain ⟨s1, hwk⟩ := wakes_does
      simp only [k5_a, WK, vop, evAll, evOpt, evParts, vbuiltin, vun, vextract, Nat.reduceLT, Nat.reduceEqDiff, ↓reduceIte, reduceCtorEq, Nat.reduceAdd, Int.reduceLT, Int.reduceNeg, valloc_std, noSB, vhot, List.getD_cons_zero, List.getD_cons_succ]
      refine KD.ret hwk ?_
      simp only [k5_a, WK, vop, evAll, evOpt, evParts, vbuiltin, vun, vextract, Nat.reduceLT, Nat.reduceEqDiff, ↓reduceIte, reduceCtorEq, Nat.reduceAdd, Int.reduceLT, Int.reduceNeg, valloc_std, noSB, vhot, List.getD_cons_zero, List.getD_cons_succ, Bool.not_true, hw.len]
      refine Ev.loopF (fun (i : Nat) e s => e 22 = .int .i64 (i : Nat) ∧ i ≤ l.length ∧ e 7 = .int .i64 (tot l i : Nat) ∧ tot l i ≤ 524288 ∧ s = s1) (fun i => l.length - i) 0 ?_ ?_
      · exact ⟨by simp [upd_some], Nat.zero_le _, by simp [upd_some, tot], by simp [tot], rfl⟩
      rintro i e s ⟨h22, hi, h7, ht, rfl⟩ hf
      have g0 : e 0 = w := (hf 0 (by decide)).trans (by simp [upd_some])
      have g1 : e 1 = y := (hf 1 (by decide)).trans (by simp [upd_some])
      have g2 : e 2 = .int .i64 kp := (hf 2 (by decide)).trans (by simp [upd_some])
      have g20 : e 20 = w := (hf 20 (by decide)).trans (by simp [upd_some])
      have g21 : e 21 = .int .i64 (l.length : Nat) := (hf 21 (by decide)).trans (by simp [upd_some])
      clear hf
      by_cases hlt : i < l.length
      · have hlt' : (i : Int) < (l.length : Nat) := by omega
        have hwi : IntKind.i64.wrap ((i : Int) + 1) = ((i + 1 : Nat) : Int) := by rw [show ((i : Int) + 1) = ((i + 1 : Nat) : Int) from by omega]; exact wrap_nat (by omega)
        obtain ⟨hb1, hb2⟩ := ho l[i] (List.getElem_mem hlt)
        have hts := tot_succ hlt
        have hws : IntKind.i64.wrap (((tot l i : Nat) : Int) + (l[i].2.length : Nat)) = ((tot l (i + 1) : Nat) : Int) := by rw [wrap_i64 (by omega) (by omega)]; omega
        by_cases hbig : 524288 < tot l (i + 1)
        · have hbig' : (524288 : Int) < (tot l (i + 1) : Nat) := by omega
          simp only [k5_a, WK, vop, evAll, evOpt, evParts, vbuiltin, vun, vextract, Nat.reduceLT, Nat.reduceEqDiff, ↓reduceIte, reduceCtorEq, Nat.reduceAdd, Int.reduceLT, Int.reduceNeg, valloc_std, noSB, vhot, h22, g21, g20, h7, hlt', decide_true, hw.addr hlt, PtsV.load hlt, hb1.len T22, hws, hbig']
        · have hbig' : ¬ (524288 : Int) < (tot l (i + 1) : Nat) := by omega
          simp only [k5_a, WK, vop, evAll, evOpt, evParts, vbuiltin, vun, vextract, Nat.reduceLT, Nat.reduceEqDiff, ↓reduceIte, reduceCtorEq, Nat.reduceAdd, Int.reduceLT, Int.reduceNeg, valloc_std, noSB, vhot, h22, g21, g20, h7, hlt', decide_true, decide_false, hw.addr hlt, PtsV.load hlt, hb1.len T22, hws, hbig', hwi]
          exact ⟨i + 1, ⟨by simp [upd_some], by omega, by simp [upd_some], by omega⟩, by omega⟩
      · have hlt' : ¬ (i : Int) < (l.length : Nat) := by omega
        have hil : i = l.length := by omega
        rw [hil] at ht
        by_cases hmany : 1024 < l.length
        · have hmany' : (1024 : Int) < (l.length : Nat) := by omega
          simp only [k5_a, WK, vop, evAll, evOpt, evParts, vbuiltin, vun, vextract, Nat.reduceLT, Nat.reduceEqDiff, ↓reduceIte, reduceCtorEq, Nat.reduceAdd, Int.reduceLT, Int.reduceNeg, valloc_std, noSB, vhot, h22, g21, g0, hlt', decide_false, decide_true, hw.len, hmany']
        · have hmany' : ¬ (1024 : Int) < (l.length : Nat) := by omega
          obtain ⟨s2, r, rm, h3, D3, K3, I3⟩ := newdisk_does s 1048576
          have Kb : Keep ⟨[], s2.toks⟩ s2 := ⟨fun r o h => by simp at h, Nat.le_refl _, fun _ h => h⟩
          simp only [k5_a, WK, vop, evAll, evOpt, evParts, vbuiltin, vun, vextract, Nat.reduceLT, Nat.reduceEqDiff, ↓reduceIte, reduceCtorEq, Nat.reduceAdd, Int.reduceLT, Int.reduceNeg, valloc_std, noSB, vhot, h22, g21, g0, hlt', decide_false, hw.len, hmany']
          refine KD.ret h3 ?_
          simp only [k5_a, WK, vop, evAll, evOpt, evParts, vbuiltin, vun, vextract, Nat.reduceLT, Nat.reduceEqDiff, ↓reduceIte, reduceCtorEq, Nat.reduceAdd, Int.reduceLT, Int.reduceNeg, valloc_std, noSB, vhot, ofNilP, eql_optr pTD, nilEP, g0, hw.len]
          refine Ev.loopF (fun (j : Nat) e2 t => e2 41 = .int .i64 (j : Nat) ∧ j ≤ l.length ∧ ∃ d fs all sf, DiskAt t r d rm fs ∧ Safe d all sf j ∧ OwnV 5 s2.toks.length t (e2 11) all ∧ Keep ⟨[], s2.toks⟩ t ∧ e2 12 = .int .i64 (sf : Nat) ∧ all.length = tot l j) (fun j => l.length - j) 0 ?_ ?_
          · exact ⟨by simp [upd_some], Nat.zero_le _, newD 1048576, [], [], 0, D3, Safe.new, by simp [upd_some, OwnV], Kb, by simp [upd_some], by simp [tot]⟩
          rintro j e2 t ⟨k41, hj, d, fs, all, sf, D, S, hown, kb, k12, hal⟩ hf2
          have k0 : e2 0 = w := (hf2 0 (by decide)).trans (by simp [upd_some, g0])
          have k1 : e2 1 = y := (hf2 1 (by decide)).trans (by simp [upd_some, g1])
          have k2 : e2 2 = .int .i64 kp := (hf2 2 (by decide)).trans (by simp [upd_some, g2])
          have k10 : e2 10 = .optr r 0 := (hf2 10 (by decide)).trans (by simp [upd_some])
          have k39 : e2 39 = w := (hf2 39 (by decide)).trans (by simp [upd_some])
          have k40 : e2 40 = .int .i64 (l.length : Nat) := (hf2 40 (by decide)).trans (by simp [upd_some])
          clear hf2
          have oF : ofVal (Value.string { data := #[102] }) = some (.str nmF) := rfl
          by_cases hjt : j < l.length
          · have hjt' : (j : Int) < (l.length : Nat) := by omega
            have hwj : IntKind.i64.wrap ((j : Int) + 1) = ((j + 1 : Nat) : Int) := by rw [show ((j : Int) + 1) = ((j + 1 : Nat) : Int) from by omega]; exact wrap_nat (by omega)
            obtain ⟨hb1, hb2⟩ := ho l[j] (List.getElem_mem hjt)
            have hts := tot_succ hjt
            have htm : tot l (j + 1) ≤ tot l l.length := tot_mono (by omega)
            have hwr := S.wr
            obtain ⟨p6, t1, h6, rfl, fs1, D1, K1, I1⟩ := append_sees (n := nmF) D S.ok (by omega) (.inl hb1 : RB t l[j].1 l[j].2) (by omega)
            obtain ⟨z1, S1⟩ := S.app l[j].2 (by omega)
            rw [z1] at h6
            have kb1 : Keep ⟨[], s2.toks⟩ t1 := ⟨fun r o h => by simp at h, Nat.le_trans kb.2.1 K1.tl, fun q hq => K1.tk q (kb.2.2 q hq)⟩
            obtain ⟨v7, t2, a1, a2, a3, a4⟩ := (hown.toks K1.tk).append' BT (σ0 := ⟨[], s2.toks⟩) rfl kb1 T22 hb1 (by omega)
            have D2 := D1.objs a4
            have hal2 : (all ++ l[j].2).length = tot l (j + 1) := by rw [List.length_append]; omega
            have hwr2 : (appendD nmF l[j].2 d).2.writes ≤ 2 * j + 1 := by have := (append_ok (n := nmF) (b := l[j].2) S.ok).2; omega
            have hl2 := a2.bts.len T22
            simp only [k5_a, WK, vop, evAll, evOpt, evParts, vbuiltin, vun, vextract, Nat.reduceLT, Nat.reduceEqDiff, ↓reduceIte, reduceCtorEq, Nat.reduceAdd, Int.reduceLT, Int.reduceNeg, valloc_std, noSB, vhot, k41, k40, k39, k10, hjt', decide_true, hw.addr hjt, PtsV.load hjt, oF]
            refine KD.ret h6 ?_
            by_cases hs : j < ys.length
            · have hs' : (j : Int) < (ys.length : Nat) := by omega
              cases hbv : ys[j] with
              | true =>
                obtain ⟨z3, S3⟩ := S1.snc hwr2
                obtain ⟨p8, t3, h8, rfl, fs3, D3', K3', I3'⟩ := sync_sees (n := nmF) D2 S1.ok (by omega)
                rw [z3] at h8
                simp only [k5_a, WK, vop, evAll, evOpt, evParts, vbuiltin, vun, vextract, Nat.reduceLT, Nat.reduceEqDiff, ↓reduceIte, reduceCtorEq, Nat.reduceAdd, Int.reduceLT, Int.reduceNeg, valloc_std, noSB, vhot, Int.natCast_zero, eq_self, decide_true, Bool.not_true, a1, k1, k41, k10, hy.len, hs', hy.addr hs, BoolsV.load hs, hbv, oF]
                refine KD.ret h8 ?_
                simp only [k5_a, WK, vop, evAll, evOpt, evParts, vbuiltin, vun, vextract, Nat.reduceLT, Nat.reduceEqDiff, ↓reduceIte, reduceCtorEq, Nat.reduceAdd, Int.reduceLT, Int.reduceNeg, valloc_std, noSB, vhot, Int.natCast_zero, eq_self, decide_true, Bool.not_true, hl2, k41, hwj]
                exact ⟨j + 1, ⟨by simp [upd_some], by omega, _, fs3, _, _, D3', S3, by simpa [upd_some] using a2.toks K3'.tk, ⟨fun r o h => by simp at h, Nat.le_trans a3.2.1 K3'.tl, fun q hq => K3'.tk q (a3.2.2 q hq)⟩, by simp [upd_some], hal2⟩, by omega⟩
              | false =>
                simp only [k5_a, WK, vop, evAll, evOpt, evParts, vbuiltin, vun, vextract, Nat.reduceLT, Nat.reduceEqDiff, ↓reduceIte, reduceCtorEq, Nat.reduceAdd, Int.reduceLT, Int.reduceNeg, valloc_std, noSB, vhot, Int.natCast_zero, eq_self, decide_true, Bool.not_true, a1, k1, k41, hy.len, hs', hy.addr hs, BoolsV.load hs, hbv, hwj]
                exact ⟨j + 1, ⟨by simp [upd_some], by omega, _, fs1, _, _, D2, S1, by simpa [upd_some] using a2, a3, by simp [upd_some, k12], hal2⟩, by omega⟩
            · have hs' : ¬ (j : Int) < (ys.length : Nat) := by omega
              simp only [k5_a, WK, vop, evAll, evOpt, evParts, vbuiltin, vun, vextract, Nat.reduceLT, Nat.reduceEqDiff, ↓reduceIte, reduceCtorEq, Nat.reduceAdd, Int.reduceLT, Int.reduceNeg, valloc_std, noSB, vhot, Int.natCast_zero, eq_self, decide_true, decide_false, Bool.not_true, a1, k1, k41, hy.len, hs', hwj]
              exact ⟨j + 1, ⟨by simp [upd_some], by omega, _, fs1, _, _, D2, S1, by simpa [upd_some] using a2, a3, by simp [upd_some, k12], hal2⟩, by omega⟩
          · have hjt' : ¬ (j : Int) < (l.length : Nat) := by omega
            have hjl : j = l.length := by omega
            have hwr := S.wr
            obtain ⟨t1, fs1, h4, D4, K4, I4⟩ := off_does D S.ok kp
            obtain ⟨fn, fo, fr⟩ := S.found kp
            have hok4 : (offD kp d).Ok := S.ok.off kp
            have hdn := down_does D4
            rw [fo] at hdn
            obtain ⟨p5, t2, h5, v5, q5, rfl, n5, K5, I5⟩ := names_sees D4 hok4
            rw [fn] at n5
            have R5 : RowS t2 1 v5 (([] : List (List UInt8)).map V.str) 0 := row_strs n5
            obtain ⟨t3, h6, fs3, D6, K6, I6⟩ := on_does (D4.pushes K5)
            have hok6 : ({ offD kp d with on := true } : Dk).Ok := hok4.head rfl hok4.arm hok4.rm hok4.kp
            obtain ⟨p7, t4, h7, v7, q7, rfl, n7, K7, I7⟩ := read_sees (n := nmF) D6 hok6
            simp only [k5_a, WK, vop, evAll, evOpt, evParts, vbuiltin, vun, vextract, Nat.reduceLT, Nat.reduceEqDiff, ↓reduceIte, reduceCtorEq, Nat.reduceAdd, Int.reduceLT, Int.reduceNeg, valloc_std, noSB, vhot, k41, k40, k10, k2, hjt', decide_false]
            refine KD.ret h4 ?_
            simp only [k5_a, WK, vop, evAll, evOpt, evParts, vbuiltin, vun, vextract, Nat.reduceLT, Nat.reduceEqDiff, ↓reduceIte, reduceCtorEq, Nat.reduceAdd, Int.reduceLT, Int.reduceNeg, valloc_std, noSB, vhot, k10]
            refine KD.ret hdn ?_
            simp only [k5_a, WK, vop, evAll, evOpt, evParts, vbuiltin, vun, vextract, Nat.reduceLT, Nat.reduceEqDiff, ↓reduceIte, reduceCtorEq, Nat.reduceAdd, Int.reduceLT, Int.reduceNeg, valloc_std, noSB, vhot, k10, Bool.not_true, Bool.not_false]
            refine KD.ret h5 ?_
            simp only [k5_a, WK, vop, evAll, evOpt, evParts, vbuiltin, vun, vextract, Nat.reduceLT, Nat.reduceEqDiff, ↓reduceIte, reduceCtorEq, Nat.reduceAdd, Int.reduceLT, Int.reduceNeg, valloc_std, noSB, vhot, k10, R5.len TSS, Int.natCast_zero, eq_self, decide_true, Bool.not_true]
            refine KD.ret h6 ?_
            simp only [k5_a, WK, vop, evAll, evOpt, evParts, vbuiltin, vun, vextract, Nat.reduceLT, Nat.reduceEqDiff, ↓reduceIte, reduceCtorEq, Nat.reduceAdd, Int.reduceLT, Int.reduceNeg, valloc_std, noSB, vhot, k10, oF]
            refine KD.ret h7 ?_
            rcases fr with ⟨hj0, er⟩ | ⟨hj0, er⟩
            · have hl0 : ((l.length : Nat) : Int) = 0 := by omega
              rw [er]
              simp only [k5_a, WK, vop, evAll, evOpt, evParts, vbuiltin, vun, vextract, Nat.reduceLT, Nat.reduceEqDiff, ↓reduceIte, reduceCtorEq, Nat.reduceAdd, Int.reduceLT, Int.reduceNeg, valloc_std, noSB, vhot, k0, hw.len, hl0, eq_self, decide_true]
              rfl
            · have hl0 : ¬ ((l.length : Nat) : Int) = 0 := by omega
              rw [er] at n7 ⊢
              have htm : tot l j ≤ tot l l.length := tot_mono (by omega)
              have hsl := S.sl
              have hmx : vmm true (.int .i64 kp) (.int .i64 0) = some (.int .i64 (kp.toNat : Nat)) := by
                simp only [vmm, ↓reduceIte]
                congr 2
                split <;> omega
              have hsub : IntKind.i64.wrap (((all.length : Nat) : Int) - (sf : Nat)) = ((all.length - sf : Nat) : Int) := by rw [wrap_i64 (by omega) (by omega)]; omega
              have hmn : vmm false (.int .i64 (kp.toNat : Nat)) (.int .i64 ((all.length - sf : Nat) : Int)) = some (.int .i64 ((min kp.toNat (all.length - sf) : Nat) : Int)) := by
                simp only [vmm, Bool.false_eq_true, ↓reduceIte]
                congr 2
                split <;> omega
              have hadd : IntKind.i64.wrap ((sf : Nat) + ((min kp.toNat (all.length - sf) : Nat) : Int)) = ((sf + min kp.toNat (all.length - sf) : Nat) : Int) := by rw [wrap_i64 (by omega) (by omega)]; omega
              obtain ⟨v9, hs9, hb9⟩ := hown.bts.slice (t := 28) T22 S5 (vbounds_hi (k := .i64) (n := ((sf + min kp.toNat (all.length - sf) : Nat) : Int)) (len := all.length) (by omega) (by omega)) (by omega) (by omega)
              rw [Int.toNat_natCast, List.drop_zero, Nat.sub_zero] at hb9
              have hsm := same3_does (rowOf_rb n7) (.inl hb9 : RB t4 v9 _) (by rw [List.length_take]; omega)
              rw [decide_eq_true rfl] at hsm
              simp only [k5_a, WK, vop, evAll, evOpt, evParts, vbuiltin, vun, vextract, Nat.reduceLT, Nat.reduceEqDiff, ↓reduceIte, reduceCtorEq, Nat.reduceAdd, Int.reduceLT, Int.reduceNeg, valloc_std, noSB, vhot, k0, k2, k12, hw.len, hl0, decide_false, hmx, hown.bts.len T22, hsub, hmn, Int.natCast_zero, eq_self, decide_true, hadd, hs9, T22]
              refine KD.ret hsm ?_
              simp only [k5_a, WK, vop, evAll, evOpt, evParts, vbuiltin, vun, vextract, Nat.reduceLT, Nat.reduceEqDiff, ↓reduceIte, reduceCtorEq, Nat.reduceAdd, Int.reduceLT, Int.reduceNeg, valloc_std, noSB, vhot]
    obtain ⟨r, σ', ⟨m, h⟩, rfl⟩ := key
    exact ⟨m, σ', h⟩
end Go.Proofs.Ytnbmfhnfmhgaaaa.Q

set_option linter.unusedVariables false
namespace Go.Proofs.Ytnbmfhnfmhgaaaa.rowDiskSafe
open Go Go.ChangeShapes Go.WideShapes Go.ChangeAt Go.RowKit Go.Proofs Go.Proofs.Ytnbmfhnfmhgaaaa.Q
theorem own : ownKnob Try.prog.godebug = none := by kernel_rfl
set_option maxRecDepth 100000 in
theorem contract (H : Type) (enc : TypeId × Value → H) (W : World) (base : Nat) (args : Array Value) (ds gs : List (DataW H)) (before : List MemPlace)
    (hval : ∀ (j : Nat) t v, Try.f5.params[j]? = some t → args[j]? = some v → Value.okWide Try.prog W .any base t v)
    (hW : DataW.Whole enc Try.prog Try.f5.params.toList Rows.diskSafeSpec.vars false W args.toList ds gs before) (hk : Rows.uptoSmall H (ds ++ gs) = true) :
    Calls Try.prog 5 args W fun e W' => ∃ v, e = .returned v ∧ Rows.diskSafeSpec.post enc Try.prog Try.f5 false true false false W args v W' := by
  have hl : laidOutB Try.prog = true := by kernel_rfl
  have hS : plainS Try.prog [22, 28, 5, 38, 4, 3] = true := by kernel_rfl
  have hpar : Try.f5.params.toList = [22, 38, 3] := rfl
  have hW' := hW
  obtain ⟨p, q, hA, hV, rfl, hfz, hnd⟩ := hW
  obtain ⟨rfl, rfl⟩ := trodVars_none hV
  rw [List.append_nil] at hk
  have hk2 : Rows.uptoBulkAll ds ≤ 1048576 := of_decide_eq_true hk
  rw [hpar] at hA
  refine (law_calls prims_ok hl hS (ts := [22, 38, 3]) (by decide) (by decide) disksafe_true (fun j t v h1 h2 => hval j t v (by rw [← Array.getElem?_toList, hpar]; exact h1) (by rw [← Array.getElem?_toList]; exact h2)) hA hk2).mono fun e W' h => ?_
  obtain ⟨rfl, hb⟩ := h
  exact law_post (tb := 4) hl rfl (by kernel_rfl) (by kernel_rfl) rfl hW' (by
    have hgs : ds.length = 3 := by rw [trodAll_len hA]; rfl
    match ds, hgs with
    | [d0, d1, d2], _ => exact ⟨rfl, rfl, rfl⟩) hb
set_option maxRecDepth 100000 in
theorem lifted (os : Os) (started : os.Started) (H : Type) (enc : TypeId × Value → H) (F : Stop.Interp) :
    ReturnsInHanded {} Try.checked os 5 .any ((Rows.OpenSpec.upto Rows.diskSafeSpec).pre6 enc Try.prog Try.f5 Rows.diskSafeUptoRow.domain false) (((Rows.OpenSpec.upto Rows.diskSafeSpec).at F).post enc Try.prog Try.f5 false true false false) := by
  refine returnsInHanded_of_cond (C := Try.checked) (s := Rows.OpenSpec.upto Rows.diskSafeSpec) (k := Rows.uptoSmall) rfl own started (by kernel_rfl) Try.func5
    (OpenSpec.witness (enc := enc) (C := Try.checked) (s := Rows.OpenSpec.upto Rows.diskSafeSpec) (k := Rows.uptoSmall) rfl false ⟨#[], #[.slice none 0 0, .slice none 0 0, .int .i64 0], []⟩ 8 (by kernel_rfl) (by kernel_rfl) (by kernel_rfl)
      (x := ([.nil, .nil, .lit (.int .i64 0)], [], [])) (by kernel_rfl) rfl (by kernel_rfl)) ?_
  intro W base args ds gs before hval hW _ hk _
  exact contract H enc W base args ds gs before hval hW hk
theorem proved : Rows.DiskSafeUptoSaid :=
  OpenClaim.holds_of_cond 5 Try.f5 rfl rfl rfl rfl rfl rfl rfl ⟨rfl, rfl, rfl, rfl, rfl⟩ rfl rfl rfl rfl rfl (by kernel_rfl) Try.func5 (by kernel_rfl)
    (of_decide_eq_true (by kernel_rfl)) (by unfold Func.isWrapper; first | (rw [if_pos (by decide +kernel)]; kernel_rfl) | (rw [if_neg (by decide +kernel)]; exact ⟨rfl, rfl⟩))
    (fun os started H enc _ F => lifted os started H enc F)
end Go.Proofs.Ytnbmfhnfmhgaaaa.rowDiskSafe

