/- A part of the proof: Cq, Tl, Tr, Td, Tf, Tg, Vo, Cr, Cs, Ct, Cu, Cv, Tw, La, Lb. -/
import Derived.Test.YtplhelapcpcncaaMb8
import Derived.Test.YtplhelapcpcncaaMb6
import Derived.Test.YtplhelapcpcncaaMb7
import Derived.Test.YtplhelapcpcncaaMb4
/- A module's bytes, the document's. -/
set_option linter.unusedVariables false
set_option linter.unusedSimpArgs false
set_option maxRecDepth 100000
namespace Go.Proofs.Ytplhelapcpcncaa.Q
open Go Go.RowKit Go.Proofs
theorem crefbytes_does {σ : St} {m : Mdl} {c : List V} {B : Nat} {st : Int} (hm : MdlS σ m c) (hM : MIn m B) (hB : B ≤ 1000000000) (hok : MdlOk m st) :
    ∃ r σ', Does Try.prog prims 30 [.agg c] σ (.ret r) σ' ∧ Keep σ σ' ∧ BtsV r (encM m) := by
  have key : ∃ q σ', Does Try.prog prims 30 [.agg c] σ q σ' ∧ ∃ r, q = .ret r ∧ Keep σ σ' ∧ BtsV r (encM m) := by
    apply k30_is.does (by simp)
    have hw : ∀ v ∈ m.consts, weight v ≤ 4294967296 := fun v hv => by have := weights_mem hv; have := hM.cw; omega
    have hm0 := hm
    obtain ⟨w1, w2, hc, hv, hf⟩ := hm
    obtain ⟨s1, hs1⟩ : ∃ s1 : St, s1 = ⟨σ.objs ++ [Ob.cells c], σ.toks⟩ := ⟨_, rfl⟩
    have k1 : Keep σ s1 := by rw [hs1]; exact (Keep.refl σ).push _
    have o1 : s1.objs[σ.objs.length]? = some (.cells c) := by rw [hs1]; exact push_new _ _
    have L : ∀ s', Keep s1 s' → vload Try.prog s'.objs 22 (.optr σ.objs.length 0) = some w1 ∧ vload Try.prog s'.objs 23 (.optr σ.objs.length 1) = some w2 := by
      intro s' hk
      have e1 := hk.1 _ _ o1
      exact ⟨by rw [vload_obj e1 VsG, hc]; rfl, by rw [vload_obj e1 FsG, hc]; rfl⟩
    have lf : vlen Try.prog 23 w2 = some (.int .i64 (m.funcs.length : Nat)) := by obtain ⟨cs, hr, _⟩ := hf; exact hr.len FT
    have lv := hv.len
    have hcode := hok.code
    have hfin := hM.fin
    have hfl := hok.fl
    have hcl : m.consts.length ≤ 1000000000 := by have := weights_len m.consts; have := hM.cw; omega
    have hall := hv.all'
    have hcB : ∀ i, ((m.consts.take i).flatMap cB).length ≤ 27000000000 := fun i => by
      have h1 := weights_take_le m.consts i
      have h2 := hM.cw
      have := constsB_len (l := m.consts.take i) (by omega) fun x hx => hall x (List.mem_of_mem_take hx)
      omega
    have hfB : ∀ i, ((m.funcs.take i).flatMap funB).length ≤ 10000000 := fun i => by
      have := funsB_len (l := m.funcs.take i) fun f hf => ⟨hfin f (List.mem_of_mem_take hf), hcode f (List.mem_of_mem_take hf)⟩
      rw [List.length_take] at this
      omega
    have hhM : ∀ x ∈ headM m, InI64 x := by unfold headM; simp; unfold InI64; omega
    have hhl : (putS (headM m)).length ≤ 9 * 2 := putS_len hhM
    obtain ⟨b1, s2, d2, k2, O2⟩ := refput_does (v := .nils) (bs := []) (x := ((m.consts.length : Nat) : Int)) BtsV.nil (by unfold InI64; omega) (by simp) s1
    have hpl := putN_len m.consts.length 8 (by omega)
    obtain ⟨b2, s3, d3, k3, O3⟩ := refput_does (x := ((m.funcs.length : Nat) : Int)) O2.bts (by unfold InI64; omega) (by simp; omega) s2
    have e0 : [] ++ putN ((m.consts.length : Nat) : Int).toNat ++ putN ((m.funcs.length : Nat) : Int).toNat = putS (headM m) := by simp [putS, headM]
    rw [e0] at O3
    simp only [k30_a, WK, vop, evAll, evOpt, evParts, vbuiltin, vun, vextract, Nat.reduceLT, Nat.reduceEqDiff, ↓reduceIte, reduceCtorEq, Nat.reduceAdd, Int.reduceLT, Int.reduceNeg, valloc_std, noSB, vhot, List.getD_cons_zero, vbox, vcells, ← hs1, ofVal_nil, MF0, (L s1 (Keep.refl _)).1, lv]
    refine KD.ret d2 ?_
    simp only [k30_a, WK, vop, evAll, evOpt, evParts, vbuiltin, vun, vextract, Nat.reduceLT, Nat.reduceEqDiff, ↓reduceIte, reduceCtorEq, Nat.reduceAdd, Int.reduceLT, Int.reduceNeg, valloc_std, noSB, vhot, MF1, (L s2 k2).2, lf]
    refine KD.ret d3 ?_
    have k23 := k2.trans k3
    simp only [k30_a, WK, vop, evAll, evOpt, evParts, vbuiltin, vun, vextract, Nat.reduceLT, Nat.reduceEqDiff, ↓reduceIte, reduceCtorEq, Nat.reduceAdd, Int.reduceLT, Int.reduceNeg, valloc_std, noSB, vhot, (L s3 k23).1, MF0, lv]
    refine Ev.loopF (fun (i : Nat) e σ' => e 24 = .int .i64 (i : Nat) ∧ i ≤ m.consts.length ∧ Keep s1 σ' ∧ BtsV (e 3) (putS (headM m) ++ (m.consts.take i).flatMap cB)) (fun i => m.consts.length - i) 0 ⟨by simp [upd_some], Nat.zero_le _, k23, by simpa [upd_some] using O3.bts⟩ ?_
    rintro i e σ' ⟨h24, hi, hk, hT⟩ hfr
    have g1 : e 1 = .optr σ.objs.length 0 := (hfr 1 (by decide)).trans (by simp [upd_some])
    have g22 : e 22 = w1 := (hfr 22 (by decide)).trans (by simp [upd_some])
    have g23 : e 23 = .int .i64 (m.consts.length : Nat) := (hfr 23 (by decide)).trans (by simp [upd_some])
    clear hfr
    by_cases hlt : i < m.consts.length
    · have hlt' : (i : Int) < (m.consts.length : Nat) := by omega
      have hwi : IntKind.i64.wrap ((i : Int) + 1) = ((i + 1 : Nat) : Int) := by rw [show ((i : Int) + 1) = ((i + 1 : Nat) : Int) from by omega]; exact wrap_nat (by omega)
      obtain ⟨ccs, cv, hva, hvl', hvc⟩ := hv.get hlt
      have hmem := List.getElem_mem hlt
      have hwv := hw _ hmem
      obtain ⟨ht1, ht2, ht3⟩ := typeC_fits (hok.2.1 _ hmem)
      obtain ⟨T, _, _, _, hfit⟩ := fitsS_ty ht1
      obtain ⟨s4, hs4⟩ : ∃ s4 : St, s4 = ⟨(σ'.objs ++ [Ob.cells val0C]).set σ'.objs.length (Ob.cells cv), σ'.toks⟩ := ⟨_, rfl⟩
      have q4 : IsV s4 σ'.objs.length cv := by rw [hs4]; exact IsV.made
      have k4 : Keep σ' s4 := by rw [hs4]; exact (Keep.refl σ').madeV _ _
      have st4 := IsV.new (σ := σ') (o := val0C) hvc.len rfl hvc.one
      rw [← hs4] at st4
      obtain ⟨k, n, t, l, w, hve, hce, hl, hk64, _⟩ := hvc.inv
      have hkv : kindV m.consts[i] = k := by rw [hve]; rfl
      have ldk : vload Try.prog s4.objs 3 (.optr σ'.objs.length 0) = some (.int .i64 k) := by rw [hce] at q4; exact q4.kind
      have hcb := hcB i
      have hcb1 := hcB (i + 1)
      rw [flat_take_succ hlt, List.length_append] at hcb1
      obtain ⟨b5, s5, d5, k5, O5⟩ := refput_does (x := k) hT hk64 (by rw [List.length_append]; omega) s4
      have q5 := k5.atV q4
      obtain ⟨x6, s6, d6, k6, B6⟩ := refbytes_fit _ T _ (Nat.le_refl _) hfit cv s5 hwv hvc
      have hl7 : (putS (headM m) ++ (m.consts.take i).flatMap cB ++ putN k.toNat).length + (putV m.consts[i]).length ≤ 140737488355328 := by
        simp only [List.length_append]
        rw [cB, List.length_append, hkv] at hcb1
        omega
      obtain ⟨b8, s8, ap8, O8, k8⟩ := (O5.keep k6).append BT rfl (k5.trans k6) T22 B6 hl7
      simp only [k30_a, WK, vop, evAll, evOpt, evParts, vbuiltin, vun, vextract, Nat.reduceLT, Nat.reduceEqDiff, ↓reduceIte, reduceCtorEq, Nat.reduceAdd, Int.reduceLT, Int.reduceNeg, valloc_std, noSB, vhot, h24, g22, g23, hlt', hva, hvl', VZ24, vbox, vcells, st4, FV0, ldk]
      refine KD.ret d5 ?_
      simp only [k30_a, WK, vop, evAll, evOpt, evParts, vbuiltin, vun, vextract, Nat.reduceLT, Nat.reduceEqDiff, ↓reduceIte, reduceCtorEq, Nat.reduceAdd, Int.reduceLT, Int.reduceNeg, valloc_std, noSB, vhot, q5.load hvc.len]
      refine KD.ret d6 ?_
      simp only [k30_a, WK, vop, evAll, evOpt, evParts, vbuiltin, vun, vextract, Nat.reduceLT, Nat.reduceEqDiff, ↓reduceIte, reduceCtorEq, Nat.reduceAdd, Int.reduceLT, Int.reduceNeg, valloc_std, noSB, vhot, ap8, h24, hwi]
      refine ⟨i + 1, ⟨by simp [upd_some], by omega, (hk.trans k4).trans k8, ?_⟩, by omega⟩
      have hb := O8.bts
      rw [flat_take_succ hlt, cB, hkv]
      simpa [List.append_assoc] using hb
    have hlt' : ¬ (i : Int) < (m.consts.length : Nat) := by omega
    rw [List.take_of_length_le (l := m.consts) (i := i) (by omega)] at hT
    have hcb := hcB m.consts.length
    rw [List.take_of_length_le (Nat.le_refl _)] at hcb
    simp only [k30_a, WK, vop, evAll, evOpt, evParts, vbuiltin, vun, vextract, Nat.reduceLT, Nat.reduceEqDiff, ↓reduceIte, reduceCtorEq, Nat.reduceAdd, Int.reduceLT, Int.reduceNeg, valloc_std, noSB, vhot, h24, g1, g23, hlt', MF1, (L σ' hk).2, lf]
    refine Ev.loopF (fun (n : Nat) e σ' => e 40 = .int .i64 (n : Nat) ∧ n ≤ m.funcs.length ∧ Keep s1 σ' ∧ BtsV (e 3) (putS (headM m) ++ m.consts.flatMap cB ++ (m.funcs.take n).flatMap funB)) (fun n => m.funcs.length - n) 0 ⟨by simp [upd_some], Nat.zero_le _, hk, by simpa [upd_some] using hT⟩ ?_
    rintro n e2 sb ⟨h40, hn, hkb, hT2⟩ hfr
    have j38 : e2 38 = w2 := (hfr 38 (by decide)).trans (by simp [upd_some])
    have j39 : e2 39 = .int .i64 (m.funcs.length : Nat) := (hfr 39 (by decide)).trans (by simp [upd_some])
    clear hfr
    by_cases hnl : n < m.funcs.length
    · have hnl' : (n : Int) < (m.funcs.length : Nat) := by omega
      have hwn : IntKind.i64.wrap ((n : Int) + 1) = ((n + 1 : Nat) : Int) := by rw [show ((n : Int) + 1) = ((n + 1 : Nat) : Int) from by omega]; exact wrap_nat (by omega)
      obtain ⟨p, cf, hp, hFS, hpl⟩ := fun_load hf hnl
      obtain ⟨s2', s3', wc, hs2', st3', k3', o3, hcodeS, hl3⟩ := funmade sb hFS (k1.trans hkb)
      obtain ⟨f, hfe⟩ : ∃ f, f = m.funcs[n] := ⟨_, rfl⟩
      have hfI : FunIn f := by rw [hfe]; exact hfin _ (List.getElem_mem hnl)
      have hfc : f.code.length ≤ 16384 := by rw [hfe]; exact hcode _ (List.getElem_mem hnl)
      rw [← hfe] at hFS o3 hcodeS
      have lc : vlen Try.prog 35 wc = some (.int .i64 (f.code.length : Nat)) := RowS.len hcodeS NT
      have hk3 := hkb.trans k3'
      have L3 : ∀ s', Keep s3' s' → vload Try.prog s'.objs 3 (.optr sb.objs.length 0) = some (.int .i64 f.params) ∧ vload Try.prog s'.objs 3 (.optr sb.objs.length 1) = some (.int .i64 f.locals) ∧ vload Try.prog s'.objs 3 (.optr sb.objs.length 2) = some (.int .i64 f.zero) ∧ vload Try.prog s'.objs 3 (.optr sb.objs.length 3) = some (.int .i64 f.stack) ∧ vload Try.prog s'.objs 35 (.optr sb.objs.length 4) = some wc := by
        intro s' hk
        have e3 := hk.1 _ _ o3
        exact ⟨by rw [vload_obj e3 G3]; rfl, by rw [vload_obj e3 G3]; rfl, by rw [vload_obj e3 G3]; rfl, by rw [vload_obj e3 G3]; rfl, by rw [vload_obj e3 NsG]; rfl⟩
      obtain ⟨f0, f1, f2, f3, f4⟩ := L3 s3' (Keep.refl _)
      have hfb := hfB n
      have hin := headF_in hfI hfc
      have hhf : (putS (headF f)).length ≤ 9 * 5 := putS_len hin
      have hiv : IntsV (.slice .exact 1 [.int .i64 f.params, .int .i64 f.locals, .int .i64 f.zero, .int .i64 f.stack, .int .i64 (f.code.length : Nat)] 5) (headF f) := ⟨.inr ⟨_, rfl⟩, hin⟩
      have hil : vlen Try.prog 70 (.slice .exact 1 [.int .i64 f.params, .int .i64 f.locals, .int .i64 f.zero, .int .i64 f.stack, .int .i64 (f.code.length : Nat)] 5) = some (.int .i64 5) := hiv.len IT
      simp only [k30_a, WK, vop, evAll, evOpt, evParts, vbuiltin, vun, vextract, Nat.reduceLT, Nat.reduceEqDiff, ↓reduceIte, reduceCtorEq, Nat.reduceAdd, Int.reduceLT, Int.reduceNeg, valloc_std, noSB, vhot, h40, j38, j39, hnl', hp, hpl sb (k1.trans hkb), FZ, vbox, vcells, ← hs2', st3', FFp, FF1', FF2', FF3', FF4', f0, f1, f2, f3, f4, lc, nb5, hil]
      refine Ev.loopF (fun (z : Nat) e σ' => e 57 = .int .i64 (z : Nat) ∧ z ≤ 5 ∧ Keep s3' σ' ∧ BtsV (e 3) (putS (headM m) ++ m.consts.flatMap cB ++ (m.funcs.take n).flatMap funB ++ putS ((headF f).take z))) (fun z => 5 - z) 0 ⟨by simp [upd_some], Nat.zero_le _, Keep.refl _, by simpa [upd_some, putS] using hT2⟩ ?_
      rintro z e4 sz ⟨h57, hz, hkz, hTz⟩ hfr
      have z7 : e4 7 = .optr sb.objs.length 0 := (hfr 7 (by decide)).trans (by simp [upd_some])
      have z40 : e4 40 = .int .i64 (n : Nat) := (hfr 40 (by decide)).trans (by simp [upd_some, h40])
      have z55 : e4 55 = .slice .exact 1 [.int .i64 f.params, .int .i64 f.locals, .int .i64 f.zero, .int .i64 f.stack, .int .i64 (f.code.length : Nat)] 5 := (hfr 55 (by decide)).trans (by simp [upd_some])
      have z56 : e4 56 = .int .i64 5 := (hfr 56 (by decide)).trans (by simp [upd_some])
      clear hfr
      have hzin : ∀ x ∈ (headF f).take z, InI64 x := fun x hx => hin x (List.mem_of_mem_take hx)
      have hzl := putS_len hzin
      rw [List.length_take] at hzl
      by_cases hz5 : z < 5
      · have hz5' : (z : Int) < 5 := by omega
        have hzf : z < (headF f).length := hz5
        have hwz : IntKind.i64.wrap ((z : Int) + 1) = ((z + 1 : Nat) : Int) := by rw [show ((z : Int) + 1) = ((z + 1 : Nat) : Int) from by omega]; exact wrap_nat (by omega)
        have ad := hiv.addr IT (Int.natCast_nonneg z) (by rw [show (headF f).length = 5 from rfl]; omega) (k := .i64)
        have ld := IntsV.load (P := Try.prog) (objs := sz.objs) IT hzf
        rw [Int.toNat_natCast] at ad
        obtain ⟨b5, s5, d5, k5, O5⟩ := refput_does (x := (headF f)[z]) hTz (hin _ (List.getElem_mem hzf)) (by simp only [List.length_append]; omega) sz
        simp only [k30_a, WK, vop, evAll, evOpt, evParts, vbuiltin, vun, vextract, Nat.reduceLT, Nat.reduceEqDiff, ↓reduceIte, reduceCtorEq, Nat.reduceAdd, Int.reduceLT, Int.reduceNeg, valloc_std, noSB, vhot, h57, z55, z56, hz5', ad, ld]
        refine KD.ret d5 ?_
        simp only [k30_a, WK, vop, evAll, evOpt, evParts, vbuiltin, vun, vextract, Nat.reduceLT, Nat.reduceEqDiff, ↓reduceIte, reduceCtorEq, Nat.reduceAdd, Int.reduceLT, Int.reduceNeg, valloc_std, noSB, vhot, h57, hwz]
        refine ⟨z + 1, ⟨by simp [upd_some], by omega, hkz.trans k5, ?_⟩, by omega⟩
        have hb := O5.bts
        rw [putS_take hzf]
        simpa [List.append_assoc] using hb
      have hz5' : ¬ (z : Int) < 5 := by omega
      rw [List.take_of_length_le (l := headF f) (i := z) (by rw [show (headF f).length = 5 from rfl]; omega)] at hTz
      have f4' := (L3 sz hkz).2.2.2.2
      simp only [k30_a, WK, vop, evAll, evOpt, evParts, vbuiltin, vun, vextract, Nat.reduceLT, Nat.reduceEqDiff, ↓reduceIte, reduceCtorEq, Nat.reduceAdd, Int.reduceLT, Int.reduceNeg, valloc_std, noSB, vhot, h57, z7, z56, hz5', FF4', f4', lc]
      refine Ev.loopF (fun (q : Nat) e σ' => e 68 = .int .i64 (q : Nat) ∧ q ≤ f.code.length ∧ Keep s3' σ' ∧ BtsV (e 3) (putS (headM m) ++ m.consts.flatMap cB ++ (m.funcs.take n).flatMap funB ++ putS (headF f) ++ (f.code.take q).flatMap insB)) (fun q => f.code.length - q) 0 ⟨by simp [upd_some], Nat.zero_le _, hkz, by simpa [upd_some] using hTz⟩ ?_
      rintro q e3 sc ⟨h68, hq, hkc, hT3⟩ hfr
      have l40 : e3 40 = .int .i64 (n : Nat) := (hfr 40 (by decide)).trans (by simp [upd_some, z40])
      have l66 : e3 66 = wc := (hfr 66 (by decide)).trans (by simp [upd_some])
      have l67 : e3 67 = .int .i64 (f.code.length : Nat) := (hfr 67 (by decide)).trans (by simp [upd_some])
      clear hfr
      by_cases hql : q < f.code.length
      · have hql' : (q : Int) < (f.code.length : Nat) := by omega
        have hwq : IntKind.i64.wrap ((q : Int) + 1) = ((q + 1 : Nat) : Int) := by rw [show ((q : Int) + 1) = ((q + 1 : Nat) : Int) from by omega]; exact wrap_nat (by omega)
        obtain ⟨pc, hpc, hlc⟩ := code_load hcodeS hql
        obtain ⟨ins, hine⟩ : ∃ ins, ins = f.code[q] := ⟨_, rfl⟩
        obtain ⟨s6, s7, hs6, st7, k7, o7, l7'⟩ := insmade sc ins
        have ldop : vload Try.prog s7.objs 3 (.optr sc.objs.length 0) = some (.int .i64 ins.op) := by rw [vload_obj o7 G3]; rfl
        have hlcb := hlc sc ((k1.trans hk3).trans hkc)
        rw [← hine] at hlcb
        have hii := hfI.2.2.2.2 ins (by rw [hine]; exact List.getElem_mem _)
        have hcb2 := codeB_len (l := f.code.take q) fun x hx => hfI.2.2.2.2 x (List.mem_of_mem_take hx)
        rw [List.length_take] at hcb2
        have hp1 := putN_len ins.op.toNat 8 (by have := hii.1; unfold InI64 at this; omega)
        obtain ⟨b8, s8, d8, k8, O8⟩ := refput_does (x := ins.op) hT3 hii.1 (by simp only [List.length_append]; omega) s7
        have lda : vload Try.prog s8.objs 3 (.optr sc.objs.length 1) = some (.int .i64 ins.a) := by rw [vload_obj (k8.1 _ _ o7) G3]; rfl
        obtain ⟨b9, s9, d9, k9, O9⟩ := refput_does (x := ins.a) O8.bts hii.2 (by simp only [List.length_append]; omega) s8
        simp only [k30_a, WK, vop, evAll, evOpt, evParts, vbuiltin, vun, vextract, Nat.reduceLT, Nat.reduceEqDiff, ↓reduceIte, reduceCtorEq, Nat.reduceAdd, Int.reduceLT, Int.reduceNeg, valloc_std, noSB, vhot, h68, l66, l67, hql', hpc, hlcb, NZ, vbox, vcells, ← hs6, st7, NF0, ldop]
        refine KD.ret d8 ?_
        simp only [k30_a, WK, vop, evAll, evOpt, evParts, vbuiltin, vun, vextract, Nat.reduceLT, Nat.reduceEqDiff, ↓reduceIte, reduceCtorEq, Nat.reduceAdd, Int.reduceLT, Int.reduceNeg, valloc_std, noSB, vhot, NF1, lda]
        refine KD.ret d9 ?_
        simp only [k30_a, WK, vop, evAll, evOpt, evParts, vbuiltin, vun, vextract, Nat.reduceLT, Nat.reduceEqDiff, ↓reduceIte, reduceCtorEq, Nat.reduceAdd, Int.reduceLT, Int.reduceNeg, valloc_std, noSB, vhot, h68, hwq]
        refine ⟨q + 1, ⟨by simp [upd_some], by omega, ((hkc.trans k7).trans k8).trans k9, ?_⟩, by omega⟩
        have hb := O9.bts
        have e3 : insB ins = putN ins.op.toNat ++ putN ins.a.toNat := by simp [insB, putS]
        rw [flat_take_succ hql, ← hine, e3]
        simpa [List.append_assoc] using hb
      have hql' : ¬ (q : Int) < (f.code.length : Nat) := by omega
      rw [List.take_of_length_le (l := f.code) (i := q) (by omega)] at hT3
      simp only [k30_a, WK, vop, evAll, evOpt, evParts, vbuiltin, vun, vextract, Nat.reduceLT, Nat.reduceEqDiff, ↓reduceIte, reduceCtorEq, Nat.reduceAdd, Int.reduceLT, Int.reduceNeg, valloc_std, noSB, vhot, h68, l40, l67, hql', hwn]
      refine ⟨n + 1, ⟨by simp [upd_some], by omega, hk3.trans hkc, ?_⟩, by omega⟩
      rw [flat_take_succ hnl, ← hfe, funB]
      simpa [List.append_assoc] using hT3
    have hnl' : ¬ (n : Int) < (m.funcs.length : Nat) := by omega
    rw [List.take_of_length_le (l := m.funcs) (i := n) (by omega)] at hT2
    simp only [k30_a, WK, vop, evAll, evOpt, evParts, vbuiltin, vun, vextract, Nat.reduceLT, Nat.reduceEqDiff, ↓reduceIte, reduceCtorEq, Nat.reduceAdd, Int.reduceLT, Int.reduceNeg, valloc_std, noSB, vhot, h40, j39, hnl']
    exact ⟨_, rfl, k1.trans hkb, hT2⟩
  obtain ⟨q, σ', h1, r, rfl, h2⟩ := key
  exact ⟨r, σ', h1, h2⟩
theorem crefencode_does {σ : St} {m : Mdl} {c : List V} {B : Nat} (hm : MdlS σ m c) (hM : MIn m B) (hB : B ≤ 1000000000) (st : Int) :
    ∃ r z σ', Does Try.prog prims 16 [.agg c, .int .i64 st] σ (.ret (.tuple [r, .int .i64 z])) σ' ∧ Keep σ σ' ∧ ((z = 0 ∧ MdlOk m st ∧ BtsV r (encM m)) ∨ (z = 40 ∧ ¬ MdlOk m st ∧ r = .nils)) := by
  have key : ∃ q σ', Does Try.prog prims 16 [.agg c, .int .i64 st] σ q σ' ∧ ∃ r z, q = .ret (.tuple [r, .int .i64 z]) ∧ Keep σ σ' ∧ ((z = 0 ∧ MdlOk m st ∧ BtsV r (encM m)) ∨ (z = 40 ∧ ¬ MdlOk m st ∧ r = .nils)) := by
    apply k16_is.does (by simp)
    have hw : ∀ v ∈ m.consts, weight v ≤ 4294967296 := fun v hv => by have := weights_mem hv; have := hM.cw; omega
    obtain ⟨s1, hs1⟩ : ∃ s1 : St, s1 = ⟨σ.objs ++ [Ob.cells c], σ.toks⟩ := ⟨_, rfl⟩
    have k1 : Keep σ s1 := by rw [hs1]; exact (Keep.refl σ).push _
    have o1 : s1.objs[σ.objs.length]? = some (.cells c) := by rw [hs1]; exact push_new _ _
    have L : ∀ s', Keep s1 s' → vload Try.prog s'.objs 25 (.optr σ.objs.length 0) = some (.agg c) := fun s' hk => vload_agg (hk.1 _ _ o1) MG (by rw [hm.len]; exact MS)
    obtain ⟨z, s2, d2, k2, hz⟩ := crefverify_does (hm.keep k1) st hw
    simp only [k16_a, WK, vop, evAll, evOpt, evParts, vbuiltin, vun, vextract, Nat.reduceLT, Nat.reduceEqDiff, ↓reduceIte, reduceCtorEq, Nat.reduceAdd, Int.reduceLT, Int.reduceNeg, valloc_std, noSB, vhot, List.getD_cons_zero, List.getD_cons_succ, vbox, vcells, ← hs1, ofVal_nil, L s1 (Keep.refl _)]
    refine KD.ret d2 ?_
    rcases hz with ⟨rfl, hok⟩ | ⟨rfl, hno⟩
    · obtain ⟨r, s3, d3, k3, h3⟩ := crefbytes_does (hm.keep (k1.trans k2)) hM hB hok
      simp only [k16_a, WK, vop, evAll, evOpt, evParts, vbuiltin, vun, vextract, Nat.reduceLT, Nat.reduceEqDiff, ↓reduceIte, reduceCtorEq, Nat.reduceAdd, Int.reduceLT, Int.reduceNeg, valloc_std, noSB, vhot, L s2 k2, eq_self, decide_true, Bool.not_true]
      refine KD.ret d3 ?_
      simp only [k16_a, WK, vop, evAll, evOpt, evParts, vbuiltin, vun, vextract, Nat.reduceLT, Nat.reduceEqDiff, ↓reduceIte, reduceCtorEq, Nat.reduceAdd, Int.reduceLT, Int.reduceNeg, valloc_std, noSB, vhot]
      exact ⟨r, 0, rfl, (k1.trans k2).trans k3, .inl ⟨rfl, hok, h3⟩⟩
    · simp only [k16_a, WK, vop, evAll, evOpt, evParts, vbuiltin, vun, vextract, Nat.reduceLT, Nat.reduceEqDiff, ↓reduceIte, reduceCtorEq, Nat.reduceAdd, Int.reduceLT, Int.reduceNeg, valloc_std, noSB, vhot, ofVal_nil, (show ((40 : Int) = 0) = False from by simp)]
      exact ⟨.nils, 40, rfl, k1.trans k2, .inr ⟨rfl, hno, rfl⟩⟩
  obtain ⟨q, σ', h1, r, z, rfl, h2⟩ := key
  exact ⟨r, z, σ', h1, h2⟩
end Go.Proofs.Ytplhelapcpcncaa.Q

set_option linter.unusedVariables false
set_option linter.unusedSimpArgs false
set_option maxRecDepth 100000
namespace Go.Proofs.Ytplhelapcpcncaa.Q
open Go Go.RowKit Go.Proofs
def I13a (v : V) (σ : St) (bs : List UInt8) : Nat → (Nat → V) → St → Prop := fun i e σ' => σ' = σ ∧ e 0 = v ∧ e 4 = .int .i64 i ∧ i ≤ runN bs
def I13b (v : V) (σ : St) (bs : List UInt8) : Nat → (Nat → V) → St → Prop := fun j e σ' => σ' = σ ∧ e 0 = v ∧ e 4 = .int .i64 (runN bs : Nat) ∧ e 6 = .int .i64 ((j : Int) - 1) ∧ e 5 = .int .i64 (valN ((bs.take (runN bs + 1)).drop j) : Nat) ∧ j ≤ runN bs + 1
theorem valN_drop {l : List UInt8} {k : Nat} (h : k < l.length) : valN (l.drop k) = valN (l.drop (k + 1)) * 128 + l[k].toNat % 128 := by
  rw [List.drop_eq_getElem_cons h]
  simp only [valN]
  omega
theorem take2_loop {v : V} {bs : List UInt8} (hv : BtsV v bs) (hlen : bs.length ≤ maxLen) {σ : St} (hn : runN bs < bs.length) (h9 : runN bs < 9) {R : VRes → St → Prop} (hR : R (.ret (.tuple [.int .i64 (valN (bs.take (runN bs + 1)) : Nat), .int .i64 (runN bs + 1 : Nat)])) σ) {e : Nat → V} {j : Nat} (h : I13b v σ bs j e σ) :
    Ev Try.prog prims 56 (.loop k55_l1) e σ (blockK 2 (seqC Try.prog prims 56 ((CC.region k55_r11).seq CC.ret) (fnK Try.prog 56 [ResultVar.tmp 2, ResultVar.tmp 3] R))) := by
  have hml : maxLen = 9223372036854775807 := by simp [maxLen, IntKind.max, IntKind.bits]
  refine Ev.loop' (I13b v σ bs) (fun i => i) j h ?_
  rintro j e σ' ⟨rfl, h0, h4, h6, h5, hj⟩
  have hwn : IntKind.i64.wrap ((runN bs : Int) + 1) = ((runN bs + 1 : Nat) : Int) := by rw [show ((runN bs : Int) + 1) = ((runN bs + 1 : Nat) : Int) from by omega]; exact wrap_nat (by omega)
  cases j with
  | zero =>
    simp only [k55_a, WK, vop, evAll, evOpt, evParts, vbuiltin, vun, vextract, Nat.reduceLT, Nat.reduceEqDiff, ↓reduceIte, reduceCtorEq, Nat.reduceAdd, Int.reduceLT, Int.reduceNeg, valloc_std, noSB, vhot, h0, h4, h6, h5, Int.natCast_zero, Int.zero_sub, Int.reduceLE, hwn, List.drop_zero]
    exact hR
  | succ k =>
    have h6' : e 6 = .int .i64 (k : Int) := by rw [h6]; congr 1; omega
    have hk : k < bs.length := by omega
    have hk' : (k : Int) < bs.length := by omega
    have hkt : k < (bs.take (runN bs + 1)).length := by rw [List.length_take]; omega
    have hd := valN_drop hkt
    have hb1 := valN_lt ((bs.take (runN bs + 1)).drop (k + 1))
    have hb2 := valN_lt ((bs.take (runN bs + 1)).drop k)
    have hl1 : ((bs.take (runN bs + 1)).drop (k + 1)).length ≤ 8 := by rw [List.length_drop, List.length_take]; omega
    have hl2 : ((bs.take (runN bs + 1)).drop k).length ≤ 9 := by rw [List.length_drop, List.length_take]; omega
    have hp1 : 128 ^ ((bs.take (runN bs + 1)).drop (k + 1)).length ≤ 128 ^ 8 := Nat.pow_le_pow_right (by omega) hl1
    have hp2 : 128 ^ ((bs.take (runN bs + 1)).drop k).length ≤ 128 ^ 9 := Nat.pow_le_pow_right (by omega) hl2
    have hget : (bs.take (runN bs + 1))[k] = bs[k] := by simp
    rw [hget] at hd
    have hw1 : IntKind.i64.wrap ((valN ((bs.take (runN bs + 1)).drop (k + 1)) : Int) * 128) = ((valN ((bs.take (runN bs + 1)).drop (k + 1)) * 128 : Nat) : Int) := by
      rw [show ((valN ((bs.take (runN bs + 1)).drop (k + 1)) : Int) * 128) = ((valN ((bs.take (runN bs + 1)).drop (k + 1)) * 128 : Nat) : Int) from by omega]
      exact wrap_nat (by omega)
    have hb256 := bs[k].toNat_lt
    have hc1 : IntKind.i64.wrap ((bs[k].toNat : Nat) : Int) = (bs[k].toNat : Nat) := wrap_nat (by omega)
    have hrem : Int.tmod ((bs[k].toNat : Nat) : Int) 128 = ((bs[k].toNat % 128 : Nat) : Int) := by rfl
    have hw2 : IntKind.i64.wrap (((valN ((bs.take (runN bs + 1)).drop (k + 1)) * 128 : Nat) : Int) + ((bs[k].toNat % 128 : Nat) : Int)) = ((valN ((bs.take (runN bs + 1)).drop k) : Nat) : Int) := by
      rw [hd, ← Int.natCast_add]
      exact wrap_nat (by omega)
    have hw3 : IntKind.i64.wrap ((k : Int) - 1) = (k : Int) - 1 := wrap_i64 (by omega) (by omega)
    have h0k : (0 : Int) ≤ k := by omega
    simp only [k55_a, WK, vop, evAll, evOpt, evParts, vbuiltin, vun, vextract, Nat.reduceLT, Nat.reduceEqDiff, ↓reduceIte, reduceCtorEq, Nat.reduceAdd, Int.reduceLT, Int.reduceNeg, valloc_std, noSB, vhot, h0, h4, h6', h5, hv.addr T22 S5 h0k hk', BtsV.load G5 hk, Int.toNat_natCast, h0k, hw1, hc1, hrem, hw2, hw3, vconv, T5, T3, Int.reduceEq]
    refine ⟨k, ⟨rfl, ?_⟩, by omega⟩
    simp only [upd_some, Nat.reduceEqDiff, ↓reduceIte, h0, h4, true_and]
    omega
theorem take2_does {v : V} {bs : List UInt8} (hv : BtsV v bs) (hlen : bs.length ≤ maxLen) (σ : St) : Does Try.prog prims 55 [v] σ (.ret (.tuple [.int .i64 ((takeS bs).1 : Nat), .int .i64 ((takeS bs).2 : Nat)])) σ := by
  apply k55_is.ret (by simp)
  have hrl := runN_len bs
  have hml : maxLen = 9223372036854775807 := by simp [maxLen, IntKind.max, IntKind.bits]
  simp only [k55_a, WK, vop, evAll, evOpt, evParts, vbuiltin, vun, vextract, Nat.reduceLT, Nat.reduceEqDiff, ↓reduceIte, reduceCtorEq, Nat.reduceAdd, Int.reduceLT, Int.reduceNeg, valloc_std, noSB, vhot]
  refine Ev.loop' (I13a v σ bs) (fun i => bs.length - i) 0 ?_ ?_
  · simp [I13a, upd_some]
  · rintro i e σ' ⟨rfl, h0, h4, hi1⟩
    by_cases h1 : i < bs.length
    · have h1' : (i : Int) < bs.length := Int.ofNat_lt.2 h1
      have h1n : ¬ (bs.length : Int) ≤ i := by omega
      have hwi : IntKind.i64.wrap ((i : Int) + 1) = ((i + 1 : Nat) : Int) := by rw [show ((i : Int) + 1) = ((i + 1 : Nat) : Int) from by omega]; exact wrap_nat (by omega)
      have hrun := runN_lt hi1 h1
      by_cases h3 : 127 < bs[i].toNat
      · have h3' : (128 : Int) ≤ bs[i].toNat := by omega
        simp only [k55_a, WK, vop, evAll, evOpt, evParts, vbuiltin, vun, vextract, Nat.reduceLT, Nat.reduceEqDiff, ↓reduceIte, reduceCtorEq, Nat.reduceAdd, Int.reduceLT, Int.reduceNeg, valloc_std, noSB, vhot, h0, h4, hv.len T22, hv.addr T22 S5 (Int.natCast_nonneg i) h1', BtsV.load G5 h1, h1', h3', Int.toNat_natCast, hwi]
        refine ⟨i + 1, ⟨rfl, ?_⟩, by omega⟩
        simp only [upd_some, Nat.reduceEqDiff, ↓reduceIte, h0, true_and]
        have := hrun.1 h3
        omega
      · have h3' : ¬ (128 : Int) ≤ bs[i].toNat := by omega
        have hri : i = runN bs := by
          have : ¬ i < runN bs := fun h => h3 (hrun.2 h)
          omega
        have hget : bs.getD (runN bs) 0 = bs[i] := by
          rw [← hri, List.getD_eq_getElem?_getD, List.getElem?_eq_getElem h1]
          rfl
        by_cases h9 : i < 9
        · have h9' : ¬ (9 : Int) ≤ i := by omega
          by_cases h5z : 0 < i
          · have h5' : (0 : Int) < i := by omega
            by_cases h4z : bs[i].toNat = 0
            · have hz : decide (((bs[i].toNat : Nat) : Int) = 0) = true := by simp [h4z]
              simp only [k55_a, WK, vop, evAll, evOpt, evParts, vbuiltin, vun, vextract, Nat.reduceLT, Nat.reduceEqDiff, ↓reduceIte, reduceCtorEq, Nat.reduceAdd, Int.reduceLT, Int.reduceNeg, valloc_std, noSB, vhot, h0, h4, hv.len T22, hv.addr T22 S5 (Int.natCast_nonneg i) h1', BtsV.load G5 h1, h1', h1n, h3', h9', h5', hz, Int.toNat_natCast, hwi]
              have : takeS bs = (0, 0) := by unfold takeS; rw [if_pos (.inr (.inr ⟨by omega, by rw [hget]; exact h4z⟩))]
              simp [this]
            · have hz : decide (((bs[i].toNat : Nat) : Int) = 0) = false := by simp only [decide_eq_false_iff_not]; omega
              simp only [k55_a, WK, vop, evAll, evOpt, evParts, vbuiltin, vun, vextract, Nat.reduceLT, Nat.reduceEqDiff, ↓reduceIte, reduceCtorEq, Nat.reduceAdd, Int.reduceLT, Int.reduceNeg, valloc_std, noSB, vhot, h0, h4, hv.len T22, hv.addr T22 S5 (Int.natCast_nonneg i) h1', BtsV.load G5 h1, h1', h1n, h3', h9', h5', hz, Int.toNat_natCast, hwi]
              have ht : takeS bs = (valN (bs.take (runN bs + 1)), runN bs + 1) := by unfold takeS; rw [if_neg (by rw [hget]; omega)]
              exact take2_loop hv hlen (by omega) (by omega) ⟨by rw [ht], rfl⟩ (j := i + 1) ⟨rfl, by simp [upd_some, h0], by simp [upd_some, ← hri, h4], by simp [upd_some], by simp [upd_some, ← hri, valN], by omega⟩
          · have h5' : ¬ (0 : Int) < i := by omega
            simp only [k55_a, WK, vop, evAll, evOpt, evParts, vbuiltin, vun, vextract, Nat.reduceLT, Nat.reduceEqDiff, ↓reduceIte, reduceCtorEq, Nat.reduceAdd, Int.reduceLT, Int.reduceNeg, valloc_std, noSB, vhot, h0, h4, hv.len T22, hv.addr T22 S5 (Int.natCast_nonneg i) h1', BtsV.load G5 h1, h1', h1n, h3', h9', h5', Int.toNat_natCast, hwi]
            have ht : takeS bs = (valN (bs.take (runN bs + 1)), runN bs + 1) := by unfold takeS; rw [if_neg (by rw [hget]; omega)]
            exact take2_loop hv hlen (by omega) (by omega) ⟨by rw [ht], rfl⟩ (j := i + 1) ⟨rfl, by simp [upd_some, h0], by simp [upd_some, ← hri, h4], by simp [upd_some], by simp [upd_some, ← hri, valN], by omega⟩
        · have h9' : (9 : Int) ≤ i := by omega
          simp only [k55_a, WK, vop, evAll, evOpt, evParts, vbuiltin, vun, vextract, Nat.reduceLT, Nat.reduceEqDiff, ↓reduceIte, reduceCtorEq, Nat.reduceAdd, Int.reduceLT, Int.reduceNeg, valloc_std, noSB, vhot, h0, h4, hv.len T22, hv.addr T22 S5 (Int.natCast_nonneg i) h1', BtsV.load G5 h1, h1', h1n, h3', h9', Int.toNat_natCast, hwi]
          have : takeS bs = (0, 0) := by unfold takeS; rw [if_pos (by omega)]
          simp [this]
    · have h1' : ¬ (i : Int) < bs.length := by omega
      have h1n : (bs.length : Int) ≤ i := by omega
      simp only [k55_a, WK, vop, evAll, evOpt, evParts, vbuiltin, vun, vextract, Nat.reduceLT, Nat.reduceEqDiff, ↓reduceIte, reduceCtorEq, Nat.reduceAdd, Int.reduceLT, Int.reduceNeg, valloc_std, noSB, vhot, h0, h4, hv.len T22, h1', h1n]
      have : takeS bs = (0, 0) := by unfold takeS; rw [if_pos (by omega)]
      simp [this]
end Go.Proofs.Ytplhelapcpcncaa.Q

set_option linter.unusedVariables false
set_option linter.unusedSimpArgs false
set_option maxRecDepth 100000
namespace Go.Proofs.Ytplhelapcpcncaa.Q
open Go Go.RowKit Go.Proofs
theorem toNat_ofNat_lt {n : Nat} (h : n < 256) : (UInt8.ofNat n).toNat = n := by rw [UInt8.toNat_ofNat']; omega
theorem putN_big {x : Nat} (h : 127 < x) : putN x = UInt8.ofNat (x % 128 + 128) :: putN (x / 128) := by rw [putN, dif_pos h]
theorem putN_small {x : Nat} (h : ¬ 127 < x) : putN x = [UInt8.ofNat x] := by rw [putN, dif_neg h]
theorem putN_pos (x : Nat) : 0 < (putN x).length := by
  by_cases h : 127 < x
  · rw [putN_big h]; simp
  · rw [putN_small h]; simp
/-- What is taken are the very bytes that Put makes. -/
theorem putN_valN : ∀ (l : List UInt8), runN l < l.length → (0 < runN l → (l.getD (runN l) 0).toNat ≠ 0) → putN (valN (l.take (runN l + 1))) = l.take (runN l + 1)
  | [], h, _ => by simp at h
  | b :: l, h, hz => by
    by_cases hb : 127 < b.toNat
    · simp only [runN, hb, if_true] at h hz ⊢
      simp only [List.length_cons] at h
      have hlast : (l.getD (runN l) 0).toNat ≠ 0 := by simpa using hz (by omega)
      have ih := putN_valN l (by omega) (fun _ => hlast)
      have hlt := runN_at (bs := l) (by omega)
      simp only [List.take_succ_cons, valN]
      have hpos : 0 < valN (l.take (runN l + 1)) := by
        rw [valN_take_succ (by omega)]
        have hp : 0 < 128 ^ runN l := Nat.pow_pos (by omega)
        have hg : l.getD (runN l) 0 = l[runN l]'(by omega) := by
          rw [List.getD_eq_getElem?_getD, List.getElem?_eq_getElem (by omega)]
          rfl
        rw [hg] at hlast
        have : 0 < (l[runN l]'(by omega)).toNat % 128 := by omega
        have := Nat.mul_pos hp this
        omega
      have hbl := b.toNat_lt
      rw [putN_big (by omega)]
      have e1 : (b.toNat % 128 + 128 * valN (l.take (runN l + 1))) / 128 = valN (l.take (runN l + 1)) := by omega
      have e2 : UInt8.ofNat ((b.toNat % 128 + 128 * valN (l.take (runN l + 1))) % 128 + 128) = b := by
        apply UInt8.toNat_inj.1
        rw [toNat_ofNat_lt (by omega)]
        omega
      rw [e1, e2, ih]
    · simp only [runN, hb, if_false] at h hz ⊢
      simp only [Nat.zero_add, List.take_succ_cons, List.take_zero, valN]
      have hbl := b.toNat_lt
      rw [putN_small (by omega)]
      congr 1
      apply UInt8.toNat_inj.1
      rw [toNat_ofNat_lt (by omega)]
      omega
theorem takeS_back {l : List UInt8} (h : (takeS l).2 ≠ 0) : putN (takeS l).1 = l.take (takeS l).2 := by
  unfold takeS at h ⊢
  split at h
  · simp at h
  · rename_i hc
    rw [if_neg hc]
    simp only [not_or, Nat.not_le, not_and] at hc
    exact putN_valN l hc.1 hc.2.2
end Go.Proofs.Ytplhelapcpcncaa.Q

set_option linter.unusedVariables false
set_option linter.unusedSimpArgs false
set_option maxRecDepth 100000
namespace Go.Proofs.Ytplhelapcpcncaa.Q
open Go Go.RowKit Go.Proofs
/-- Object r is a reader that has these bytes left. -/
def Rdr (σ : St) (r : Nat) (bs : List UInt8) (bad : Bool) : Prop := ∃ v, σ.objs[r]? = some (.cells [v, .bool bad]) ∧ BtsV v bs
theorem Rdr.keep {σ σ' : St} {r q : Nat} {bs : List UInt8} {bad : Bool} (h : Rdr σ r bs bad) (hk : KeepX q σ σ') (hne : r ≠ q) : Rdr σ' r bs bad := by
  obtain ⟨v, h1, h2⟩ := h
  exact ⟨v, hk.1 r _ hne h1, h2⟩
theorem Rdr.keep' {σ σ' : St} {r : Nat} {bs : List UInt8} {bad : Bool} (h : Rdr σ r bs bad) (hk : Keep σ σ') : Rdr σ' r bs bad := by
  obtain ⟨v, h1, h2⟩ := h
  exact ⟨v, hk.1 r _ h1, h2⟩
theorem PT : Try.prog.underlying 57 = some (.pointer 81) := by kernel_rfl
theorem FA0 (r : Nat) : vfieldAddr Try.prog 81 (.optr r 0) 0 = some (.optr r 0) := by kernel_rfl
theorem FA1 (r : Nat) : vfieldAddr Try.prog 81 (.optr r 0) 1 = some (.optr r 1) := by kernel_rfl
theorem BU (v : V) (h : one v = true) : vbuild Try.prog 81 [(0, v)] = some (.agg [v, .bool false]) := by
  cases v <;> first | (cases h; done) | kernel_rfl
/-- New. -/
theorem new_does {v : V} {bs : List UInt8} (hv : BtsV v bs) (hlen : bs.length ≤ 140737488300000) (σ : St) : ∃ r σ', Does Try.prog prims 31 [v] σ (.ret (.optr r 0)) σ' ∧ Keep σ σ' ∧ r = σ.objs.length ∧ Rdr σ' r bs false := by
  have key : ∃ r σ', Does Try.prog prims 31 [v] σ r σ' ∧ r = .ret (.optr σ.objs.length 0) ∧ Keep σ σ' ∧ Rdr σ' σ.objs.length bs false := by
    apply k31_is.does (by simp)
    have ho1 : OwnV 5 σ.toks.length σ (.slice .exact 1 [] 0) [] := .inr ⟨_, rfl, .inl rfl⟩
    obtain ⟨v', σ', ha, ho, hk, hob⟩ := ho1.append' BT rfl (Keep.refl σ) T22 hv (by simp; omega)
    rw [List.nil_append] at ho
    simp only [k31_a, WK, vop, evAll, evOpt, evParts, vbuiltin, vun, vextract, Nat.reduceLT, Nat.reduceEqDiff, ↓reduceIte, reduceCtorEq, Nat.reduceAdd, Int.reduceLT, Int.reduceNeg, valloc_std, noSB, vhot, List.getD_cons_zero, build0 BT, ha, BU v' ho.bts.one, vbox, vcells, hob]
    refine ⟨⟨fun r o h => ?_, hk.2⟩, v', ?_, ho.bts⟩
    · simp only
      rw [List.getElem?_append_left (List.getElem?_eq_some_iff.1 h).1]
      exact h
    · simp
  obtain ⟨r, σ', h1, rfl, h2, h3⟩ := key
  exact ⟨_, σ', h1, h2, rfl, h3⟩
/-- What a number's reading leaves. -/
def numS (bs : List UInt8) (bad : Bool) : Nat × List UInt8 × Bool :=
  if bad then (0, bs, true) else ((takeS bs).1, bs.drop (takeS bs).2, (takeS bs).2 == 0)
theorem number_does {σ : St} {r : Nat} {bs : List UInt8} {bad : Bool} (h : Rdr σ r bs bad) (hml : bs.length ≤ maxLen) :
    ∃ σ', Does Try.prog prims 32 [.optr r 0] σ (.ret (.int .i64 ((numS bs bad).1 : Nat))) σ' ∧ KeepX r σ σ' ∧ Rdr σ' r (numS bs bad).2.1 (numS bs bad).2.2 := by
  obtain ⟨v, hv, hb⟩ := h
  have key : ∃ q σ', Does Try.prog prims 32 [.optr r 0] σ q σ' ∧ q = .ret (.int .i64 ((numS bs bad).1 : Nat)) ∧ KeepX r σ σ' ∧ Rdr σ' r (numS bs bad).2.1 (numS bs bad).2.2 := by
    apply k32_is.does (by simp)
    cases bad with
    | true =>
      simp only [k32_a, WK, vop, evAll, evOpt, evParts, vbuiltin, vun, vextract, Nat.reduceLT, Nat.reduceEqDiff, ↓reduceIte, reduceCtorEq, Nat.reduceAdd, Int.reduceLT, Int.reduceNeg, valloc_std, noSB, vhot, List.getD_cons_zero, eql_optr PT, FA1, vload_obj hv G4, numS]
      exact ⟨rfl, KeepX.refl _ _, v, hv, hb⟩
    | false =>
      obtain ⟨ht1, ht2, ht3⟩ := takeS_lt bs
      have hst : ∀ x, one x = true → vstore Try.prog σ 4 (.optr r 1) x = some ⟨σ.objs.set r (.cells [v, x]), σ.toks⟩ := fun x hx => by
        rw [vstore_obj hv S4 hx (by simp)]; rfl
      have hd : decide (((takeS bs).2 : Int) = 0) = ((takeS bs).2 == 0) := by
        rw [Bool.eq_iff_iff]; simp
      have hv2 : (σ.objs.set r (.cells [v, .bool ((takeS bs).2 == 0)]))[r]? = some (.cells [v, .bool ((takeS bs).2 == 0)]) := obj_set hv
      obtain ⟨sl, hsl, htl⟩ := hb.slice T22 S5 (lo := some (.int .i64 ((takeS bs).2 : Nat))) (hi := none) (vbounds_lo (by omega) (by omega)) (by omega) (by omega)
      have hst2 : vstore Try.prog ⟨σ.objs.set r (.cells [v, .bool ((takeS bs).2 == 0)]), σ.toks⟩ 41 (.optr r 0) sl = some ⟨(σ.objs.set r (.cells [v, .bool ((takeS bs).2 == 0)])).set r (.cells [sl, .bool ((takeS bs).2 == 0)]), σ.toks⟩ := by
        rw [vstore_obj hv2 S22 htl.one (by simp)]; rfl
      simp only [k32_a, WK, vop, evAll, evOpt, evParts, vbuiltin, vun, vextract, Nat.reduceLT, Nat.reduceEqDiff, ↓reduceIte, reduceCtorEq, Nat.reduceAdd, Int.reduceLT, Int.reduceNeg, valloc_std, noSB, vhot, List.getD_cons_zero, eql_optr PT, FA1, FA0, vload_obj hv G4, vload_obj hv G22, numS]
      refine KD.ret (take_does hb hml _) ?_
      simp only [k32_a, WK, vop, evAll, evOpt, evParts, vbuiltin, vun, vextract, Nat.reduceLT, Nat.reduceEqDiff, ↓reduceIte, reduceCtorEq, Nat.reduceAdd, Int.reduceLT, Int.reduceNeg, valloc_std, noSB, vhot, List.getD_cons_zero, FA1, FA0, vload_obj hv2 G22, hd, hst (.bool ((takeS bs).2 == 0)) rfl, T22, hsl, hst2]
      refine ⟨(KeepX.set r _ σ).trans (KeepX.set r _ _), sl, obj_set hv2, ?_⟩
      rw [List.take_of_length_le (by rw [List.length_drop]; omega)] at htl
      rw [Int.toNat_natCast] at htl
      exact htl
  obtain ⟨q, σ', h1, rfl, h2, h3⟩ := key
  exact ⟨σ', h1, h2, h3⟩
end Go.Proofs.Ytplhelapcpcncaa.Q

set_option linter.unusedVariables false
set_option linter.unusedSimpArgs false
set_option maxRecDepth 100000
namespace Go.Proofs.Ytplhelapcpcncaa.Q
open Go Go.RowKit Go.Proofs
/-- Whether n bytes can be read. -/
def canS (bs : List UInt8) (bad : Bool) (n : Int) : Bool := !bad && decide (0 ≤ n) && decide (n ≤ bs.length)
/-- What a reading of n bytes leaves. -/
def bytS (bs : List UInt8) (bad : Bool) (n : Int) : List UInt8 × List UInt8 × Bool := if canS bs bad n = true then (bs.take n.toNat, bs.drop n.toNat, false) else ([], bs, true)
theorem bytes_does {σ : St} {r : Nat} {bs : List UInt8} {bad : Bool} (h : Rdr σ r bs bad) (hlen : bs.length ≤ 140737488300000) (n : Int) :
    ∃ v σ', Does Try.prog prims 54 [.optr r 0, .int .i64 n] σ (.ret v) σ' ∧ KeepX r σ σ' ∧ Rdr σ' r (bytS bs bad n).2.1 (bytS bs bad n).2.2 ∧ BtsV v (bytS bs bad n).1 := by
  obtain ⟨v, hv, hb⟩ := h
  have key : ∃ q σ', Does Try.prog prims 54 [.optr r 0, .int .i64 n] σ q σ' ∧ ∃ w, q = .ret w ∧ KeepX r σ σ' ∧ Rdr σ' r (bytS bs bad n).2.1 (bytS bs bad n).2.2 ∧ BtsV w (bytS bs bad n).1 := by
    apply k54_is.does (by simp)
    cases bad with
    | true =>
      have hc : bytS bs true n = ([], bs, true) := by simp [bytS, canS]
      simp only [k54_a, WK, vop, evAll, evOpt, evParts, vbuiltin, vun, vextract, Nat.reduceLT, Nat.reduceEqDiff, ↓reduceIte, reduceCtorEq, Nat.reduceAdd, Int.reduceLT, Int.reduceNeg, valloc_std, noSB, vhot, List.getD_cons_zero, List.getD_cons_succ, eql_optr PT, FA1, vload_obj hv G4, hc]
      exact ⟨_, rfl, KeepX.refl _ _, ⟨v, hv, hb⟩, BtsV.nil⟩
    | false =>
      have hst : vstore Try.prog σ 4 (.optr r 1) (.bool true) = some ⟨σ.objs.set r (.cells [v, .bool true]), σ.toks⟩ := by
        rw [vstore_obj hv S4 rfl (by simp)]; rfl
      by_cases hn : n < 0
      · have hc : bytS bs false n = ([], bs, true) := by
          have : ¬ 0 ≤ n := by omega
          simp [bytS, canS, this]
        simp only [k54_a, WK, vop, evAll, evOpt, evParts, vbuiltin, vun, vextract, Nat.reduceLT, Nat.reduceEqDiff, ↓reduceIte, reduceCtorEq, Nat.reduceAdd, Int.reduceLT, Int.reduceNeg, valloc_std, noSB, vhot, List.getD_cons_zero, List.getD_cons_succ, eql_optr PT, FA1, FA0, vload_obj hv G4, vload_obj hv G22, hb.len T22, hc, hn, hst]
        exact ⟨_, rfl, KeepX.set r _ σ, ⟨v, obj_set hv, hb⟩, BtsV.nil⟩
      · by_cases hg : (bs.length : Int) < n
        · have hc : bytS bs false n = ([], bs, true) := by
            have : ¬ n ≤ bs.length := by omega
            simp [bytS, canS, this]
          simp only [k54_a, WK, vop, evAll, evOpt, evParts, vbuiltin, vun, vextract, Nat.reduceLT, Nat.reduceEqDiff, ↓reduceIte, reduceCtorEq, Nat.reduceAdd, Int.reduceLT, Int.reduceNeg, valloc_std, noSB, vhot, List.getD_cons_zero, List.getD_cons_succ, eql_optr PT, FA1, FA0, vload_obj hv G4, vload_obj hv G22, hb.len T22, hc, hn, hg, hst]
          exact ⟨_, rfl, KeepX.set r _ σ, ⟨v, obj_set hv, hb⟩, BtsV.nil⟩
        · have hc : bytS bs false n = (bs.take n.toNat, bs.drop n.toNat, false) := by
            have h1 : 0 ≤ n := by omega
            have h2 : n ≤ bs.length := by omega
            simp [bytS, canS, h1, h2]
          obtain ⟨s1, hs1, ht1⟩ := hb.slice T22 S5 (lo := none) (hi := some (.int .i64 n)) (vbounds_hi (by omega) (by omega)) (by omega) (by omega)
          obtain ⟨s2, hs2, ht2⟩ := hb.slice T22 S5 (lo := some (.int .i64 n)) (hi := none) (vbounds_lo (by omega) (by omega)) (by omega) (by omega)
          rw [List.drop_zero, Nat.sub_zero] at ht1
          rw [List.take_of_length_le (by rw [List.length_drop]; omega)] at ht2
          have ho1 : OwnV 5 σ.toks.length σ (.slice .exact 1 [] 0) [] := .inr ⟨_, rfl, .inl rfl⟩
          obtain ⟨v', σ', ha, ho, hk, hob⟩ := ho1.append' BT rfl (Keep.refl σ) T22 ht1 (by rw [List.length_take]; simp; omega)
          rw [List.nil_append] at ho
          have hv' : σ'.objs[r]? = some (.cells [v, .bool false]) := by rw [hob]; exact hv
          have hst2 : vstore Try.prog σ' 41 (.optr r 0) s2 = some ⟨σ'.objs.set r (.cells [s2, .bool false]), σ'.toks⟩ := by
            rw [vstore_obj hv' S22 ht2.one (by simp)]; rfl
          simp only [k54_a, WK, vop, evAll, evOpt, evParts, vbuiltin, vun, vextract, Nat.reduceLT, Nat.reduceEqDiff, ↓reduceIte, reduceCtorEq, Nat.reduceAdd, Int.reduceLT, Int.reduceNeg, valloc_std, noSB, vhot, List.getD_cons_zero, List.getD_cons_succ, eql_optr PT, FA1, FA0, vload_obj hv G4, vload_obj hv G22, vload_obj hv' G22, hb.len T22, hc, hn, hg, T22, hs1, hs2, build0 BT, ha, hst2]
          exact ⟨_, rfl, (hk.x r).trans (KeepX.set r _ σ'), ⟨s2, obj_set hv', ht2⟩, ho.bts⟩
  obtain ⟨q, σ', h1, w, rfl, h2⟩ := key
  exact ⟨w, σ', h1, h2⟩
theorem bad_does {σ : St} {r : Nat} {bs : List UInt8} {bad : Bool} (h : Rdr σ r bs bad) : Does Try.prog prims 33 [.optr r 0] σ (.ret (.bool bad)) σ := by
  obtain ⟨v, hv, hb⟩ := h
  apply k33_is.ret (by simp)
  simp only [k33_a, WK, vop, evAll, evOpt, evParts, vbuiltin, vun, vextract, Nat.reduceLT, Nat.reduceEqDiff, ↓reduceIte, reduceCtorEq, Nat.reduceAdd, Int.reduceLT, Int.reduceNeg, valloc_std, noSB, vhot, List.getD_cons_zero, neq_optr PT, FA1, FA0, vload_obj hv G4]
theorem end_does {σ : St} {r : Nat} {bs : List UInt8} {bad : Bool} (h : Rdr σ r bs bad) : Does Try.prog prims 35 [.optr r 0] σ (.ret (.bool (!bad && decide ((bs.length : Int) = 0)))) σ := by
  obtain ⟨v, hv, hb⟩ := h
  apply k35_is.ret (by simp)
  cases bad with
  | true => simp only [k35_a, WK, vop, evAll, evOpt, evParts, vbuiltin, vun, vextract, Nat.reduceLT, Nat.reduceEqDiff, ↓reduceIte, reduceCtorEq, Nat.reduceAdd, Int.reduceLT, Int.reduceNeg, valloc_std, noSB, vhot, List.getD_cons_zero, neq_optr PT, FA1, FA0, vload_obj hv G4]; rfl
  | false => simp only [k35_a, WK, vop, evAll, evOpt, evParts, vbuiltin, vun, vextract, Nat.reduceLT, Nat.reduceEqDiff, ↓reduceIte, reduceCtorEq, Nat.reduceAdd, Int.reduceLT, Int.reduceNeg, valloc_std, noSB, vhot, List.getD_cons_zero, neq_optr PT, FA1, FA0, vload_obj hv G4, vload_obj hv G22, hb.len T22]; rfl
end Go.Proofs.Ytplhelapcpcncaa.Q

set_option linter.unusedVariables false
set_option linter.unusedSimpArgs false
set_option maxRecDepth 100000
namespace Go.Proofs.Ytplhelapcpcncaa.Q
open Go Go.RowKit Go.Proofs
theorem FB0 (r : Nat) : vfieldAddr Try.prog 63 (.optr r 0) 0 = some (.optr r 0) := by kernel_rfl
theorem FB1 (r : Nat) : vfieldAddr Try.prog 63 (.optr r 0) 1 = some (.optr r 1) := by kernel_rfl
theorem BV (v : V) (h : one v = true) : vbuild Try.prog 63 [(0, v)] = some (.agg [v, .bool false]) := by
  cases v <;> first | (cases h; done) | kernel_rfl
theorem numS_eq (bs : List UInt8) : numS bs false = if (takeS bs).2 = 0 then (0, bs, true) else ((takeS bs).1, bs.drop (takeS bs).2, false) := by
  unfold numS
  by_cases h : (takeS bs).2 = 0
  · simp [h, takeS_none h]
  · simp [h]
theorem refnumber_does {σ : St} {r : Nat} {bs : List UInt8} {bad : Bool} (h : Rdr σ r bs bad) (hml : bs.length ≤ maxLen) :
    ∃ σ', Does Try.prog prims 36 [.optr r 0] σ (.ret (.int .i64 ((numS bs bad).1 : Nat))) σ' ∧ KeepX r σ σ' ∧ Rdr σ' r (numS bs bad).2.1 (numS bs bad).2.2 := by
  obtain ⟨v, hv, hb⟩ := h
  have key : ∃ q σ', Does Try.prog prims 36 [.optr r 0] σ q σ' ∧ q = .ret (.int .i64 ((numS bs bad).1 : Nat)) ∧ KeepX r σ σ' ∧ Rdr σ' r (numS bs bad).2.1 (numS bs bad).2.2 := by
    apply k36_is.does (by simp)
    cases bad with
    | true =>
      simp only [k36_a, WK, vop, evAll, evOpt, evParts, vbuiltin, vun, vextract, Nat.reduceLT, Nat.reduceEqDiff, ↓reduceIte, reduceCtorEq, Nat.reduceAdd, Int.reduceLT, Int.reduceNeg, valloc_std, noSB, vhot, List.getD_cons_zero, FB1, vload_obj hv G4, numS]
      exact ⟨rfl, KeepX.refl _ _, v, hv, hb⟩
    | false =>
      obtain ⟨ht1, ht2, ht3⟩ := takeS_lt bs
      rw [numS_eq]
      by_cases hz : (takeS bs).2 = 0
      · have hd : decide (((takeS bs).2 : Int) = 0) = true := decide_eq_true (by omega)
        have hst : vstore Try.prog σ 4 (.optr r 1) (.bool true) = some ⟨σ.objs.set r (.cells [v, .bool true]), σ.toks⟩ := by
          rw [vstore_obj hv S4 rfl (by simp)]; rfl
        rw [if_pos hz]
        simp only [k36_a, WK, vop, evAll, evOpt, evParts, vbuiltin, vun, vextract, Nat.reduceLT, Nat.reduceEqDiff, ↓reduceIte, reduceCtorEq, Nat.reduceAdd, Int.reduceLT, Int.reduceNeg, valloc_std, noSB, vhot, List.getD_cons_zero, FB1, FB0, vload_obj hv G4, vload_obj hv G22]
        refine KD.ret (take2_does hb hml _) ?_
        simp only [k36_a, WK, vop, evAll, evOpt, evParts, vbuiltin, vun, vextract, Nat.reduceLT, Nat.reduceEqDiff, ↓reduceIte, reduceCtorEq, Nat.reduceAdd, Int.reduceLT, Int.reduceNeg, valloc_std, noSB, vhot, List.getD_cons_zero, FB1, FB0, hd, hst]
        exact ⟨rfl, KeepX.set r _ σ, v, obj_set hv, hb⟩
      · have hd : decide (((takeS bs).2 : Int) = 0) = false := decide_eq_false (by omega)
        obtain ⟨sl, hsl, htl⟩ := hb.slice T22 S5 (lo := some (.int .i64 ((takeS bs).2 : Nat))) (hi := none) (vbounds_lo (by omega) (by omega)) (by omega) (by omega)
        rw [List.take_of_length_le (by rw [List.length_drop]; omega), Int.toNat_natCast] at htl
        have hst : vstore Try.prog σ 41 (.optr r 0) sl = some ⟨σ.objs.set r (.cells [sl, .bool false]), σ.toks⟩ := by
          rw [vstore_obj hv S22 htl.one (by simp)]; rfl
        rw [if_neg hz]
        simp only [k36_a, WK, vop, evAll, evOpt, evParts, vbuiltin, vun, vextract, Nat.reduceLT, Nat.reduceEqDiff, ↓reduceIte, reduceCtorEq, Nat.reduceAdd, Int.reduceLT, Int.reduceNeg, valloc_std, noSB, vhot, List.getD_cons_zero, FB1, FB0, vload_obj hv G4, vload_obj hv G22]
        refine KD.ret (take2_does hb hml _) ?_
        simp only [k36_a, WK, vop, evAll, evOpt, evParts, vbuiltin, vun, vextract, Nat.reduceLT, Nat.reduceEqDiff, ↓reduceIte, reduceCtorEq, Nat.reduceAdd, Int.reduceLT, Int.reduceNeg, valloc_std, noSB, vhot, List.getD_cons_zero, FB1, FB0, hd, vload_obj hv G22, T22, hsl, hst]
        exact ⟨KeepX.set r _ σ, sl, obj_set hv, htl⟩
  obtain ⟨q, σ', h1, rfl, h2, h3⟩ := key
  exact ⟨σ', h1, h2, h3⟩
theorem refbytes_does {σ : St} {r : Nat} {bs : List UInt8} {bad : Bool} (h : Rdr σ r bs bad) (hlen : bs.length ≤ 140737488300000) (n : Int) :
    ∃ v σ', Does Try.prog prims 37 [.optr r 0, .int .i64 n] σ (.ret v) σ' ∧ KeepX r σ σ' ∧ Rdr σ' r (bytS bs bad n).2.1 (bytS bs bad n).2.2 ∧ BtsV v (bytS bs bad n).1 := by
  obtain ⟨v, hv, hb⟩ := h
  have key : ∃ q σ', Does Try.prog prims 37 [.optr r 0, .int .i64 n] σ q σ' ∧ ∃ w, q = .ret w ∧ KeepX r σ σ' ∧ Rdr σ' r (bytS bs bad n).2.1 (bytS bs bad n).2.2 ∧ BtsV w (bytS bs bad n).1 := by
    apply k37_is.does (by simp)
    have hst : vstore Try.prog σ 4 (.optr r 1) (.bool true) = some ⟨σ.objs.set r (.cells [v, .bool true]), σ.toks⟩ := by
      rw [vstore_obj hv S4 rfl (by simp)]; rfl
    cases bad with
    | true =>
      have hc : bytS bs true n = ([], bs, true) := by simp [bytS, canS]
      simp only [k37_a, WK, vop, evAll, evOpt, evParts, vbuiltin, vun, vextract, Nat.reduceLT, Nat.reduceEqDiff, ↓reduceIte, reduceCtorEq, Nat.reduceAdd, Int.reduceLT, Int.reduceNeg, valloc_std, noSB, vhot, List.getD_cons_zero, List.getD_cons_succ, FB1, vload_obj hv G4, hc, hst]
      exact ⟨_, rfl, KeepX.set r _ σ, ⟨v, obj_set hv, hb⟩, BtsV.nil⟩
    | false =>
      by_cases hn : n < 0
      · have hc : bytS bs false n = ([], bs, true) := by
          have : ¬ 0 ≤ n := by omega
          simp [bytS, canS, this]
        simp only [k37_a, WK, vop, evAll, evOpt, evParts, vbuiltin, vun, vextract, Nat.reduceLT, Nat.reduceEqDiff, ↓reduceIte, reduceCtorEq, Nat.reduceAdd, Int.reduceLT, Int.reduceNeg, valloc_std, noSB, vhot, List.getD_cons_zero, List.getD_cons_succ, FB1, FB0, vload_obj hv G4, vload_obj hv G22, hb.len T22, hc, hn, hst]
        exact ⟨_, rfl, KeepX.set r _ σ, ⟨v, obj_set hv, hb⟩, BtsV.nil⟩
      · by_cases hg : (bs.length : Int) < n
        · have hc : bytS bs false n = ([], bs, true) := by
            have : ¬ n ≤ bs.length := by omega
            simp [bytS, canS, this]
          simp only [k37_a, WK, vop, evAll, evOpt, evParts, vbuiltin, vun, vextract, Nat.reduceLT, Nat.reduceEqDiff, ↓reduceIte, reduceCtorEq, Nat.reduceAdd, Int.reduceLT, Int.reduceNeg, valloc_std, noSB, vhot, List.getD_cons_zero, List.getD_cons_succ, FB1, FB0, vload_obj hv G4, vload_obj hv G22, hb.len T22, hc, hn, hg, hst]
          exact ⟨_, rfl, KeepX.set r _ σ, ⟨v, obj_set hv, hb⟩, BtsV.nil⟩
        · have hc : bytS bs false n = (bs.take n.toNat, bs.drop n.toNat, false) := by
            have h1 : 0 ≤ n := by omega
            have h2 : n ≤ bs.length := by omega
            simp [bytS, canS, h1, h2]
          obtain ⟨s1, hs1, ht1⟩ := hb.slice T22 S5 (lo := none) (hi := some (.int .i64 n)) (vbounds_hi (by omega) (by omega)) (by omega) (by omega)
          obtain ⟨s2, hs2, ht2⟩ := hb.slice T22 S5 (lo := some (.int .i64 n)) (hi := none) (vbounds_lo (by omega) (by omega)) (by omega) (by omega)
          rw [List.drop_zero, Nat.sub_zero] at ht1
          rw [List.take_of_length_le (by rw [List.length_drop]; omega)] at ht2
          have ho1 : OwnV 5 σ.toks.length σ (.slice .exact 1 [] 0) [] := .inr ⟨_, rfl, .inl rfl⟩
          obtain ⟨v', σ', ha, ho, hk, hob⟩ := ho1.append' BT rfl (Keep.refl σ) T22 ht1 (by rw [List.length_take]; simp; omega)
          rw [List.nil_append] at ho
          have hv' : σ'.objs[r]? = some (.cells [v, .bool false]) := by rw [hob]; exact hv
          have hst2 : vstore Try.prog σ' 41 (.optr r 0) s2 = some ⟨σ'.objs.set r (.cells [s2, .bool false]), σ'.toks⟩ := by
            rw [vstore_obj hv' S22 ht2.one (by simp)]; rfl
          simp only [k37_a, WK, vop, evAll, evOpt, evParts, vbuiltin, vun, vextract, Nat.reduceLT, Nat.reduceEqDiff, ↓reduceIte, reduceCtorEq, Nat.reduceAdd, Int.reduceLT, Int.reduceNeg, valloc_std, noSB, vhot, List.getD_cons_zero, List.getD_cons_succ, FB1, FB0, vload_obj hv G4, vload_obj hv G22, vload_obj hv' G22, hb.len T22, hc, hn, hg, T22, hs1, hs2, build0 BT, ha, hst2]
          exact ⟨_, rfl, (hk.x r).trans (KeepX.set r _ σ'), ⟨s2, obj_set hv', ht2⟩, ho.bts⟩
  obtain ⟨q, σ', h1, w, rfl, h2⟩ := key
  exact ⟨w, σ', h1, h2⟩
/-! ### No reader -/
end Go.Proofs.Ytplhelapcpcncaa.Q

set_option linter.unusedVariables false
set_option linter.unusedSimpArgs false
namespace Go.Proofs.Ytplhelapcpcncaa.Q
open Go Go.RowKit Go.Proofs
/-! ### Numbers and bytes that are read -/
theorem numS_len (bs : List UInt8) (bad : Bool) : (numS bs bad).2.1.length ≤ bs.length := by
  unfold numS; split <;> simp
theorem bytS_len (bs : List UInt8) (bad : Bool) (n : Int) : (bytS bs bad n).2.1.length ≤ bs.length := by
  unfold bytS; split <;> simp
theorem bytS_len2 (bs : List UInt8) (bad : Bool) (n : Int) : (bytS bs bad n).1.length + (bytS bs bad n).2.1.length ≤ bs.length := by
  unfold bytS; split
  · simp; omega
  · simp
theorem numS_ok {bs : List UInt8} {bad : Bool} (h : (numS bs bad).2.2 = false) : bad = false ∧ bs = putN (numS bs bad).1 ++ (numS bs bad).2.1 ∧ (numS bs bad).1 < 2 ^ 63 := by
  unfold numS at h ⊢
  cases bad with
  | true => simp at h
  | false =>
    simp at h ⊢
    refine ⟨?_, (takeS_lt bs).1⟩
    rw [takeS_back h, List.take_append_drop]
theorem numS_in (bs : List UInt8) (bad : Bool) : (numS bs bad).1 < 2 ^ 63 := by
  unfold numS
  cases bad with
  | true => simp
  | false => exact (takeS_lt bs).1
/-! ### A value that is read -/
abbrev RS := List UInt8 × Bool
def rdN (g : RS → List Val × RS) : Nat → RS → List Val × RS
  | 0, s => ([], s)
  | n + 1, s => if (rdN g n s).2.2 = true then rdN g n s else ((rdN g n s).1 ++ (g (rdN g n s).2).1, (g (rdN g n s).2).2)
def one1 (f : RS → Val × RS) (s : RS) : List Val × RS := ([(f s).1], (f s).2)
def two2 (f g : RS → Val × RS) (s : RS) : List Val × RS := ([(f s).1, (g (f s).2).1], (g (f s).2).2)
def rdRow (st : Bool) (k : Int) (g : RS → List Val × RS) (s : RS) : Val × RS :=
  let a := numS s.1 s.2
  let p := rdN g (min a.1 65) (a.2.1, a.2.2 || (st && decide (64 < a.1)))
  (.mk k 0 [] p.1, p.2)
def rdInt (st : Bool) (s : RS) : Val × RS :=
  let a := numS s.1 s.2
  let b := numS a.2.1 a.2.2
  (.mk 1 (if a.1 = 1 then -(b.1 : Int) - 1 else (b.1 : Int)) [] [], (b.2.1, b.2.2 || (st && decide (1 < a.1))))
def rdBool (st : Bool) (s : RS) : Val × RS :=
  let a := numS s.1 s.2
  (.mk 2 (a.1 : Int) [] [], (a.2.1, a.2.2 || (st && decide (1 < a.1))))
def rdText (st : Bool) (s : RS) : Val × RS :=
  let a := numS s.1 s.2
  let c := bytS a.2.1 (a.2.2 || (st && decide (256 < a.1))) (a.1 : Int)
  (.mk 3 0 c.1 [], c.2)
/-- st: as the document tells it, strict. -/
def rdS (st : Bool) : Ty → RS → Val × RS
  | .int => rdInt st
  | .bool => rdBool st
  | .text => rdText st
  | .list e => rdRow st 4 (one1 (rdS st e))
  | .mapI e => rdRow st 5 (two2 (rdInt st) (rdS st e))
  | .mapT e => rdRow st 5 (two2 (rdText st) (rdS st e))
/-! ### How much is read -/
def wB : Ty → Nat
  | .int => 1 | .bool => 1 | .text => 1
  | .list e => 1 + 65 * wB e
  | .mapI e => 1 + 65 * (1 + wB e)
  | .mapT e => 1 + 65 * (1 + wB e)
def WOkG (g : RS → List Val × RS) (B : Nat) : Prop := ∀ s, weights (g s).1 + (g s).2.1.length ≤ s.1.length + B
/-! ### What was put is read -/
/-- It reads what was put of these. -/
def BackG (f : RS → Val × RS) (P : Val → Bool) : Prop := ∀ v rest, P v = true → (∃ c, ValC v c) → f (putV v ++ rest, false) = (v, (rest, false))
theorem ValsW.all {l : List Val} {w : V} (h : ValsW l w) : ∀ x ∈ l, ∃ c, ValC x c := by
  intro x hx
  obtain ⟨i, hi, rfl⟩ := List.mem_iff_getElem.1 hx
  obtain ⟨_, c, _, _, hc⟩ := h.get hi
  exact ⟨c, hc⟩
/-! ### What is read strictly is what was put -/
def CanG (f : RS → Val × RS) : Prop := ∀ s, (f s).2.2 = false → s.2 = false ∧ putV (f s).1 ++ (f s).2.1 = s.1
end Go.Proofs.Ytplhelapcpcncaa.Q

/- A module that is read; a constant. -/
set_option linter.unusedVariables false
set_option linter.unusedSimpArgs false
set_option maxRecDepth 100000
namespace Go.Proofs.Ytplhelapcpcncaa.Q
open Go Go.RowKit Go.Proofs
/-! ### What is read -/
def rdA {α : Type} (g : RS → α × RS) : Nat → RS → List α × RS
  | 0, s => ([], s)
  | n + 1, s => if (rdA g n s).2.2 = true then rdA g n s else ((rdA g n s).1 ++ [(g (rdA g n s).2).1], (g (rdA g n s).2).2)
def rdConst (s : RS) : Val × RS :=
  let k := numS s.1 s.2
  let a := numS k.2.1 k.2.2
  if k.1 = 1 then
    let b := numS a.2.1 a.2.2
    (.mk 1 (if a.1 = 1 then -(b.1 : Int) - 1 else (b.1 : Int)) [] [], b.2)
  else if k.1 = 3 then
    let t := bytS a.2.1 a.2.2 (a.1 : Int)
    (.mk 3 0 t.1 [], t.2)
  else (.mk k.1 a.1 [] [], a.2)
def rdIns (s : RS) : Ins × RS :=
  let a := numS s.1 s.2
  let b := numS a.2.1 a.2.2
  (⟨a.1, b.1⟩, b.2)
def rdFun (s : RS) : Fun × RS :=
  let a := numS s.1 s.2
  let b := numS a.2.1 a.2.2
  let c := numS b.2.1 b.2.2
  let d := numS c.2.1 c.2.2
  let n := numS d.2.1 d.2.2
  let p := rdA rdIns n.1 n.2
  (⟨a.1, b.1, c.1, d.1, p.1⟩, p.2)
def rdMdl (bs : List UInt8) : Mdl × RS :=
  let c := numS bs false
  let f := numS c.2.1 c.2.2
  let p := rdA rdConst c.1 f.2
  let q := rdA rdFun f.1 p.2
  (⟨p.1, q.1⟩, q.2)
open Classical in
noncomputable def decM (bs : List UInt8) (st : Int) : Mdl × Int :=
  if (rdMdl bs).2.2 = false ∧ (rdMdl bs).2.1 = [] then
    if MdlOk (rdMdl bs).1 st then if encM (rdMdl bs).1 = bs then ((rdMdl bs).1, 0) else (⟨[], []⟩, 11) else (⟨[], []⟩, 40)
  else (⟨[], []⟩, 11)
theorem rdA_step {α : Type} {g : RS → α × RS} {s : RS} {i : Nat} (h : (rdA g i s).2.2 = false) : rdA g (i + 1) s = ((rdA g i s).1 ++ [(g (rdA g i s).2).1], (g (rdA g i s).2).2) := by
  rw [rdA, if_neg (by rw [h]; decide)]
theorem rdA_stay {α : Type} {g : RS → α × RS} {s : RS} {i : Nat} (h : (rdA g i s).2.2 = true) : ∀ n, i ≤ n → rdA g n s = rdA g i s
  | 0, hn => by rw [Nat.le_zero.1 hn]
  | n + 1, hn => by
    rcases Nat.lt_or_ge i (n + 1) with h1 | h1
    · rw [rdA, rdA_stay h n (by omega), if_pos h]
    · rw [show i = n + 1 by omega]
/-- Each reading takes something, or it is the last one. -/
def Eats {α : Type} (g : RS → α × RS) : Prop := ∀ s : RS, s.2 = false → ((g s).2.2 = false → (g s).2.1.length < s.1.length) ∧ (g s).2.1.length ≤ s.1.length
theorem numS_eats (bs : List UInt8) : ((numS bs false).2.2 = false → (numS bs false).2.1.length < bs.length) ∧ (numS bs false).2.1.length ≤ bs.length := by
  refine ⟨fun h => ?_, numS_len _ _⟩
  obtain ⟨_, h2, _⟩ := numS_ok h
  have := putN_pos (numS bs false).1
  have h3 := congrArg List.length h2
  rw [List.length_append] at h3
  omega
theorem rdA_eats {α : Type} {g : RS → α × RS} (H : Eats g) (s : RS) : ∀ n, (rdA g n s).2.1.length ≤ s.1.length ∧ (s.2 = false → (rdA g n s).1.length + (rdA g n s).2.1.length ≤ s.1.length + 1 ∧ ((rdA g n s).2.2 = false → (rdA g n s).1.length + (rdA g n s).2.1.length ≤ s.1.length))
  | 0 => by simp [rdA]
  | n + 1 => by
    obtain ⟨h1, h2⟩ := rdA_eats H s n
    rw [rdA]
    by_cases hb : (rdA g n s).2.2 = true
    · rw [if_pos hb]
      exact ⟨h1, fun hs => ⟨(h2 hs).1, fun h => by rw [hb] at h; cases h⟩⟩
    · rw [if_neg hb]
      have hb' : (rdA g n s).2.2 = false := by simpa using hb
      obtain ⟨h3, h4⟩ := H (rdA g n s).2 hb'
      refine ⟨Nat.le_trans h4 h1, fun hs => ?_⟩
      obtain ⟨h5, h6⟩ := h2 hs
      have h7 := h6 hb'
      simp only [List.length_append, List.length_cons, List.length_nil]
      refine ⟨by omega, fun h => ?_⟩
      have := h3 h
      omega
theorem rdA_bad {α : Type} {g : RS → α × RS} {s : RS} (h : s.2 = true) (n : Nat) : rdA g n s = ([], s) := by
  have := rdA_stay (g := g) (s := s) (i := 0) (by exact h) n (Nat.zero_le _)
  rw [this]; rfl
theorem numS_stay {bs : List UInt8} {bad : Bool} (h : (numS bs bad).2.2 = false) : bad = false := (numS_ok h).1
theorem rdIns_eats : Eats rdIns := by
  intro s hs
  unfold rdIns
  simp only
  have h1 := numS_eats s.1
  rw [hs]
  have h2 := numS_len (numS s.1 false).2.1 (numS s.1 false).2.2
  refine ⟨fun h => ?_, by omega⟩
  have h3 := numS_stay h
  have := h1.1 h3
  omega
theorem rdConst_eats : Eats rdConst := by
  intro s hs
  unfold rdConst
  simp only
  have h1 := numS_eats s.1
  rw [hs]
  have h2 := numS_len (numS s.1 false).2.1 (numS s.1 false).2.2
  generalize numS s.1 false = k at *
  have h3 := numS_len (numS k.2.1 k.2.2).2.1 (numS k.2.1 k.2.2).2.2
  have h4 := bytS_len (numS k.2.1 k.2.2).2.1 (numS k.2.1 k.2.2).2.2 ((numS k.2.1 k.2.2).1 : Int)
  have e1 : (numS k.2.1 k.2.2).2.2 = false → k.2.2 = false := numS_stay
  split
  · refine ⟨fun h => ?_, by simp only; omega⟩
    have := h1.1 (e1 (numS_stay h))
    simp only at h ⊢
    omega
  · split
    · refine ⟨fun h => ?_, by simp only; omega⟩
      simp only at h ⊢
      have e2 : (numS k.2.1 k.2.2).2.2 = false := by
        cases e : (numS k.2.1 k.2.2).2.2 with
        | false => rfl
        | true => rw [e] at h; simp [bytS, canS] at h
      have := h1.1 (e1 e2)
      omega
    · refine ⟨fun h => ?_, by simp only; omega⟩
      have := h1.1 (e1 h)
      simp only at h ⊢
      omega
theorem rdFun_eats : Eats rdFun := by
  intro s hs
  unfold rdFun
  simp only
  have h1 := numS_eats s.1
  rw [hs]
  generalize numS s.1 false = a at *
  have l2 := numS_len a.2.1 a.2.2
  have s2 : (numS a.2.1 a.2.2).2.2 = false → a.2.2 = false := numS_stay
  generalize numS a.2.1 a.2.2 = b at *
  have l3 := numS_len b.2.1 b.2.2
  have s3 : (numS b.2.1 b.2.2).2.2 = false → b.2.2 = false := numS_stay
  generalize numS b.2.1 b.2.2 = c at *
  have l4 := numS_len c.2.1 c.2.2
  have s4 : (numS c.2.1 c.2.2).2.2 = false → c.2.2 = false := numS_stay
  generalize numS c.2.1 c.2.2 = d at *
  have l5 := numS_len d.2.1 d.2.2
  have s5 : (numS d.2.1 d.2.2).2.2 = false → d.2.2 = false := numS_stay
  generalize numS d.2.1 d.2.2 = n at *
  have l6 := (rdA_eats rdIns_eats n.2 n.1).1
  refine ⟨fun h => ?_, by omega⟩
  have s6 : n.2.2 = false := by
    cases e : n.2.2 with
    | false => rfl
    | true => rw [rdA_bad e] at h; rw [e] at h; cases h
  have := h1.1 (s2 (s3 (s4 (s5 s6))))
  omega
theorem num_in (bs : List UInt8) (bad : Bool) : InI64 ((numS bs bad).1 : Int) := by have := numS_in bs bad; unfold InI64; omega
/-! ### Cells of one's own -/
theorem cell_set {σ : St} {o j : Nat} {c : List V} (h : IsV σ o c) (hj : j < c.length) {t : TypeId} (ht : sizeT Try.prog t = some 1) {v : V} (hv : one v = true) : ∃ σ', vstore Try.prog σ t (.optr o j) v = some σ' ∧ IsV σ' o (c.set j v) ∧ KeepX o σ σ' ∧ σ'.objs.length = σ.objs.length := by
  obtain ⟨σ', hs⟩ : ∃ σ' : St, σ' = ⟨σ.objs.set o (.cells (c.set j v)), σ.toks⟩ := ⟨_, rfl⟩
  obtain ⟨k, hk⟩ := KeepX.set_eq h hs
  exact ⟨σ', by rw [vstore_obj h ht hv hj, hs], hk, k, by rw [hs]; simp⟩
theorem cell_all {σ : St} {o : Nat} {c c' : List V} (h : IsV σ o c) {t : TypeId} (ht : sizeT Try.prog t = some c'.length) (hl : c'.length = c.length) (h1 : c'.all one = true) : ∃ σ', vstore Try.prog σ t (.optr o 0) (.agg c') = some σ' ∧ IsV σ' o c' ∧ KeepX o σ σ' ∧ σ'.objs.length = σ.objs.length := by
  obtain ⟨σ', hs⟩ : ∃ σ' : St, σ' = ⟨σ.objs.set o (.cells c'), σ.toks⟩ := ⟨_, rfl⟩
  obtain ⟨k, hk⟩ := KeepX.set_eq h hs
  exact ⟨σ', by rw [vstore_agg (cs' := c') h ht hl h1, hs], hk, k, by rw [hs]; simp⟩
theorem cell_new (σ : St) (z : List V) : ∃ σ', σ' = (⟨σ.objs ++ [Ob.cells z], σ.toks⟩ : St) ∧ IsV σ' σ.objs.length z ∧ Keep σ σ' ∧ σ'.objs.length = σ.objs.length + 1 := by
  refine ⟨_, rfl, push_new _ _, (Keep.refl σ).push _, by simp⟩
theorem IsV.x {σ σ' : St} {o q : Nat} {c : List V} (h : IsV σ o c) (hk : KeepX q σ σ') (hne : o ≠ q) : IsV σ' o c := hk.1 _ _ hne h
theorem KeepX.over' {σ σ1 σ2 : St} {r q : Nat} (h : KeepX r σ σ1) (h2 : KeepX q σ1 σ2) (hq : q = r ∨ σ.objs.length ≤ q) : KeepX r σ σ2 := by
  refine ⟨fun p o hp ho => h2.1 p o ?_ (h.1 p o hp ho), Nat.le_trans h.2.1 h2.2.1, fun k hk => h2.2.2 k (h.2.2 k hk)⟩
  have := (List.getElem?_eq_some_iff.1 ho).1
  rcases hq with hq | hq <;> omega
theorem KeepX.len' {r : Nat} {σ σ' : St} (hk : KeepX r σ σ') (hr : r < σ'.objs.length) : σ.objs.length ≤ σ'.objs.length := by
  apply Nat.le_of_not_lt
  intro hlt
  have h1 := hk.1 σ'.objs.length _ (by omega) (List.getElem?_eq_getElem hlt)
  have := (List.getElem?_eq_some_iff.1 h1).1
  omega
theorem Rdr.lt {σ : St} {r : Nat} {bs : List UInt8} {bad : Bool} (h : Rdr σ r bs bad) : r < σ.objs.length := by
  obtain ⟨v, hv, _⟩ := h
  exact (List.getElem?_eq_some_iff.1 hv).1
theorem IsV.lt {σ : St} {o : Nat} {c : List V} (h : IsV σ o c) : o < σ.objs.length := (List.getElem?_eq_some_iff.1 h).1
theorem CU27 : isU8 Try.prog 5 = true := by kernel_rfl
theorem CBk (k : Int) : vbuild Try.prog 29 [(0, .int .i64 k)] = some (.agg [.int .i64 k, .int .i64 0, .str [], .nils]) := by kernel_rfl
theorem constant_does {σ : St} {r : Nat} {s : RS} (h : Rdr σ r s.1 s.2) (hl : s.1.length ≤ 140737488300000) :
    ∃ c σ', Does Try.prog prims 34 [.optr r 0] σ (.ret (.agg c)) σ' ∧ KeepX r σ σ' ∧ Rdr σ' r (rdConst s).2.1 (rdConst s).2.2 ∧ ValC (rdConst s).1 c := by
  have key : ∃ q σ', Does Try.prog prims 34 [.optr r 0] σ q σ' ∧ ∃ c, q = .ret (.agg c) ∧ KeepX r σ σ' ∧ Rdr σ' r (rdConst s).2.1 (rdConst s).2.2 ∧ ValC (rdConst s).1 c := by
    apply k34_is.does (by simp)
    have hml : maxLen = 9223372036854775807 := by simp [maxLen, IntKind.max, IntKind.bits]
    have hrl := h.lt
    obtain ⟨s0, hs0, i0, k0, l0⟩ := cell_new σ val0C
    obtain ⟨s1, d1, k1, r1⟩ := number_does (h.keep' k0) (by omega)
    have hn1 := numS_len s.1 s.2
    have in1 := num_in s.1 s.2
    obtain ⟨k, hk⟩ : ∃ k, k = numS s.1 s.2 := ⟨_, rfl⟩
    rw [← hk] at d1 r1 hn1 in1
    have i1 := i0.x k1 (by omega)
    have hl1 := k1.len' r1.lt
    obtain ⟨s2, hs2, i2, k2, l2⟩ := cell_new s1 val0C
    obtain ⟨s3, st3, i3, kx3, l3⟩ := cell_all i2 (t := 29) (c' := [.int .i64 (k.1 : Nat), .int .i64 0, .str [], .nils]) VS24 rfl rfl
    have ld3 : vload Try.prog s3.objs 3 (.optr s1.objs.length 0) = some (.int .i64 (k.1 : Nat)) := i3.kind
    have r3 := (r1.keep' k2).keep kx3 (by have := r1.lt; omega)
    have i13 := (k2.atV i1).x kx3 (by omega)
    have kk3 : KeepX r σ s3 := (((k0.x r).trans k1).over' (k2.x r) (.inl rfl)).over' kx3 (.inr (by omega))
    simp only [k34_a, WK, vop, evAll, evOpt, evParts, vbuiltin, vun, vextract, Nat.reduceLT, Nat.reduceEqDiff, ↓reduceIte, reduceCtorEq, Nat.reduceAdd, Int.reduceLT, Int.reduceNeg, valloc_std, noSB, vhot, List.getD_cons_zero, VZ24, vbox, vcells, ← hs0]
    refine KD.ret d1 ?_
    simp only [k34_a, WK, vop, evAll, evOpt, evParts, vbuiltin, vun, vextract, Nat.reduceLT, Nat.reduceEqDiff, ↓reduceIte, reduceCtorEq, Nat.reduceAdd, Int.reduceLT, Int.reduceNeg, valloc_std, noSB, vhot, CBk, VZ24, vbox, vcells, ← hs2, st3, FV0, ld3]
    by_cases hk1 : k.1 = 1
    · have e1 : ((k.1 : Nat) : Int) = 1 := by omega
      obtain ⟨s4, d4, k4, r4⟩ := number_does r3 (by omega)
      obtain ⟨a, ha⟩ : ∃ a, a = numS k.2.1 k.2.2 := ⟨_, rfl⟩
      have hn2 := numS_len k.2.1 k.2.2
      have in2 := num_in k.2.1 k.2.2
      rw [← ha] at d4 r4 hn2 in2
      obtain ⟨s5, d5, k5, r5⟩ := number_does r4 (by omega)
      obtain ⟨b, hb⟩ : ∃ b, b = numS a.2.1 a.2.2 := ⟨_, rfl⟩
      have in3 := num_in a.2.1 a.2.2
      rw [← hb] at d5 r5 in3
      have i5 := (i3.x k4 (by have := r1.lt; omega)).x k5 (by have := r1.lt; omega)
      have i15 := (i13.x k4 (by omega)).x k5 (by omega)
      obtain ⟨s6, st6, i6, k6, l6⟩ := cell_set i5 (j := 1) (by simp) (t := 3) S3 (v := .int .i64 (b.1 : Nat)) rfl
      have r6 := r5.keep k6 (by have := r1.lt; omega)
      have i16 := i15.x k6 (by omega)
      have kk6 : KeepX r σ s6 := ((kk3.trans k4).trans k5).over' k6 (.inr (by omega))
      have hrd : rdConst s = (.mk 1 (if a.1 = 1 then -(b.1 : Int) - 1 else (b.1 : Int)) [] [], b.2) := by
        unfold rdConst
        simp only [← hk, ← ha, ← hb, hk1, if_true]
      rw [hrd]
      by_cases hneg : a.1 = 1
      · have e2 : ((a.1 : Nat) : Int) = 1 := by omega
        have w1 : IntKind.i64.wrap (0 - ((b.1 : Nat) : Int)) = -((b.1 : Nat) : Int) := by unfold InI64 at in3; rw [wrap_i64 (by omega) (by omega)]; omega
        have w2 : IntKind.i64.wrap (-((b.1 : Nat) : Int) - 1) = -((b.1 : Nat) : Int) - 1 := by unfold InI64 at in3; exact wrap_i64 (by omega) (by omega)
        obtain ⟨s7, st7, i7, k7, l7⟩ := cell_set i6 (j := 1) (by simp) (t := 3) S3 (v := .int .i64 (-((b.1 : Nat) : Int) - 1)) rfl
        have r7 := r6.keep k7 (by have := r1.lt; omega)
        have i17 := i16.x k7 (by omega)
        have ld7 := i7.load (by simp)
        obtain ⟨s8, st8, i8, k8, l8⟩ := cell_all i17 (t := 29) (c' := [.int .i64 (k.1 : Nat), .int .i64 (-((b.1 : Nat) : Int) - 1), .str [], .nils]) VS24 rfl rfl
        have r8 := r7.keep k8 (by omega)
        simp only [e1] at ld7 st8 i8
        simp only [List.set_cons_succ, List.set_cons_zero] at ld7
        simp only [k34_a, WK, vop, evAll, evOpt, evParts, vbuiltin, vun, vextract, Nat.reduceLT, Nat.reduceEqDiff, ↓reduceIte, reduceCtorEq, Nat.reduceAdd, Int.reduceLT, Int.reduceNeg, valloc_std, noSB, vhot, e1]
        refine KD.ret d4 ?_
        simp only [k34_a, WK, vop, evAll, evOpt, evParts, vbuiltin, vun, vextract, Nat.reduceLT, Nat.reduceEqDiff, ↓reduceIte, reduceCtorEq, Nat.reduceAdd, Int.reduceLT, Int.reduceNeg, valloc_std, noSB, vhot]
        refine KD.ret d5 ?_
        simp only [k34_a, WK, vop, evAll, evOpt, evParts, vbuiltin, vun, vextract, Nat.reduceLT, Nat.reduceEqDiff, ↓reduceIte, reduceCtorEq, Nat.reduceAdd, Int.reduceLT, Int.reduceNeg, valloc_std, noSB, vhot, FV1, st6, e2, w1, w2, st7, ld7, st8, i8.load (show [V.int .i64 1, V.int .i64 (-((b.1 : Nat) : Int) - 1), V.str [], V.nils].length = 4 from rfl)]
        refine ⟨_, rfl, (kk6.over' k7 (.inr (by omega))).over' k8 (.inr (by omega)), r8, ?_⟩
        rw [if_pos hneg]
        exact .mk (by unfold InI64; omega) (by unfold InI64 at in3 ⊢; omega) .nil
      · have e2 : (((a.1 : Nat) : Int) = 1) = False := eq_false (by omega)
        have ld6 := i6.load (by simp)
        obtain ⟨s8, st8, i8, k8, l8⟩ := cell_all i16 (t := 29) (c' := [.int .i64 (k.1 : Nat), .int .i64 ((b.1 : Nat) : Int), .str [], .nils]) VS24 rfl rfl
        have r8 := r6.keep k8 (by omega)
        simp only [e1] at ld6 st8 i8
        simp only [List.set_cons_succ, List.set_cons_zero] at ld6
        simp only [k34_a, WK, vop, evAll, evOpt, evParts, vbuiltin, vun, vextract, Nat.reduceLT, Nat.reduceEqDiff, ↓reduceIte, reduceCtorEq, Nat.reduceAdd, Int.reduceLT, Int.reduceNeg, valloc_std, noSB, vhot, e1]
        refine KD.ret d4 ?_
        simp only [k34_a, WK, vop, evAll, evOpt, evParts, vbuiltin, vun, vextract, Nat.reduceLT, Nat.reduceEqDiff, ↓reduceIte, reduceCtorEq, Nat.reduceAdd, Int.reduceLT, Int.reduceNeg, valloc_std, noSB, vhot]
        refine KD.ret d5 ?_
        simp only [k34_a, WK, vop, evAll, evOpt, evParts, vbuiltin, vun, vextract, Nat.reduceLT, Nat.reduceEqDiff, ↓reduceIte, reduceCtorEq, Nat.reduceAdd, Int.reduceLT, Int.reduceNeg, valloc_std, noSB, vhot, FV1, st6, e2, ld6, st8, i8.load (show [V.int .i64 1, V.int .i64 ((b.1 : Nat) : Int), V.str [], V.nils].length = 4 from rfl)]
        refine ⟨_, rfl, kk6.over' k8 (.inr (by omega)), r8, ?_⟩
        rw [if_neg hneg]
        exact .mk (by unfold InI64; omega) in3 .nil
    have e1 : (((k.1 : Nat) : Int) = 1) = False := eq_false (by omega)
    by_cases hk3 : k.1 = 3
    · have e3 : ((k.1 : Nat) : Int) = 3 := by omega
      obtain ⟨s4, d4, k4, r4⟩ := number_does r3 (by omega)
      obtain ⟨a, ha⟩ : ∃ a, a = numS k.2.1 k.2.2 := ⟨_, rfl⟩
      have hn2 := numS_len k.2.1 k.2.2
      rw [← ha] at d4 r4 hn2
      obtain ⟨tv, s5, d5, k5, r5, b5⟩ := bytes_does r4 (by omega) ((a.1 : Nat) : Int)
      obtain ⟨t, ht⟩ : ∃ t, t = bytS a.2.1 a.2.2 ((a.1 : Nat) : Int) := ⟨_, rfl⟩
      rw [← ht] at r5 b5
      have i5 := (i3.x k4 (by have := r1.lt; omega)).x k5 (by have := r1.lt; omega)
      have i15 := (i13.x k4 (by omega)).x k5 (by omega)
      obtain ⟨s6, st6, i6, k6, l6⟩ := cell_set i5 (j := 2) (by simp) (t := 9) S9 (v := .str t.1) rfl
      have r6 := r5.keep k6 (by have := r1.lt; omega)
      have i16 := i15.x k6 (by omega)
      have kk6 : KeepX r σ s6 := ((kk3.trans k4).trans k5).over' k6 (.inr (by omega))
      have hrd : rdConst s = (.mk 3 0 t.1 [], t.2) := by
        unfold rdConst
        simp only [← hk, ← ha, ← ht, hk1, hk3, if_false, if_true]
        rw [if_neg (by omega)]
      rw [hrd]
      have ld6 := i6.load (by simp)
      obtain ⟨s8, st8, i8, k8, l8⟩ := cell_all i16 (t := 29) (c' := [.int .i64 (k.1 : Nat), .int .i64 0, .str t.1, .nils]) VS24 rfl rfl
      have r8 := r6.keep k8 (by omega)
      simp only [e3] at ld6 st8 i8
      simp only [List.set_cons_succ, List.set_cons_zero] at ld6
      simp only [k34_a, WK, vop, evAll, evOpt, evParts, vbuiltin, vun, vextract, Nat.reduceLT, Nat.reduceEqDiff, ↓reduceIte, reduceCtorEq, Nat.reduceAdd, Int.reduceLT, Int.reduceNeg, valloc_std, noSB, vhot, e3, (show ((3 : Int) = 1) = False from by simp)]
      refine KD.ret d4 ?_
      simp only [k34_a, WK, vop, evAll, evOpt, evParts, vbuiltin, vun, vextract, Nat.reduceLT, Nat.reduceEqDiff, ↓reduceIte, reduceCtorEq, Nat.reduceAdd, Int.reduceLT, Int.reduceNeg, valloc_std, noSB, vhot]
      refine KD.ret d5 ?_
      simp only [k34_a, WK, vop, evAll, evOpt, evParts, vbuiltin, vun, vextract, Nat.reduceLT, Nat.reduceEqDiff, ↓reduceIte, reduceCtorEq, Nat.reduceAdd, Int.reduceLT, Int.reduceNeg, valloc_std, noSB, vhot, FV2, b5.str T22 CU27 T9, st6, ld6, st8, i8.load (show [V.int .i64 3, V.int .i64 0, V.str t.1, V.nils].length = 4 from rfl)]
      exact ⟨_, rfl, kk6.over' k8 (.inr (by omega)), r8, .mk (by unfold InI64; omega) (by unfold InI64; omega) .nil⟩
    have e3 : (((k.1 : Nat) : Int) = 3) = False := eq_false (by omega)
    obtain ⟨s4, d4, k4, r4⟩ := number_does r3 (by omega)
    obtain ⟨a, ha⟩ : ∃ a, a = numS k.2.1 k.2.2 := ⟨_, rfl⟩
    have in2 := num_in k.2.1 k.2.2
    rw [← ha] at d4 r4 in2
    have i4 := i3.x k4 (by have := r1.lt; omega)
    have i14 := i13.x k4 (by omega)
    obtain ⟨s6, st6, i6, k6, l6⟩ := cell_set i4 (j := 1) (by simp) (t := 3) S3 (v := .int .i64 (a.1 : Nat)) rfl
    have r6 := r4.keep k6 (by have := r1.lt; omega)
    have i16 := i14.x k6 (by omega)
    have kk6 : KeepX r σ s6 := (kk3.trans k4).over' k6 (.inr (by omega))
    have hrd : rdConst s = (.mk k.1 a.1 [] [], a.2) := by
      unfold rdConst
      simp only [← hk, ← ha, hk1, hk3, if_false]
    rw [hrd]
    have ld6 := i6.load (by simp)
    obtain ⟨s8, st8, i8, k8, l8⟩ := cell_all i16 (t := 29) (c' := [.int .i64 (k.1 : Nat), .int .i64 (a.1 : Nat), .str [], .nils]) VS24 rfl rfl
    have r8 := r6.keep k8 (by omega)
    simp only [List.set_cons_succ, List.set_cons_zero] at ld6
    simp only [k34_a, WK, vop, evAll, evOpt, evParts, vbuiltin, vun, vextract, Nat.reduceLT, Nat.reduceEqDiff, ↓reduceIte, reduceCtorEq, Nat.reduceAdd, Int.reduceLT, Int.reduceNeg, valloc_std, noSB, vhot, e1, e3]
    refine KD.ret d4 ?_
    simp only [k34_a, WK, vop, evAll, evOpt, evParts, vbuiltin, vun, vextract, Nat.reduceLT, Nat.reduceEqDiff, ↓reduceIte, reduceCtorEq, Nat.reduceAdd, Int.reduceLT, Int.reduceNeg, valloc_std, noSB, vhot, FV1, st6, ld6, st8, i8.load (show [V.int .i64 (k.1 : Nat), V.int .i64 (a.1 : Nat), V.str [], V.nils].length = 4 from rfl)]
    exact ⟨_, rfl, kk6.over' k8 (.inr (by omega)), r8, .mk in1 in2 .nil⟩
  obtain ⟨q, σ', h1, c, rfl, h2⟩ := key
  exact ⟨c, σ', h1, h2⟩
end Go.Proofs.Ytplhelapcpcncaa.Q

/- Decode, the program's. -/
set_option linter.unusedVariables false
set_option linter.unusedSimpArgs false
set_option maxRecDepth 100000
namespace Go.Proofs.Ytplhelapcpcncaa.Q
open Go Go.RowKit Go.Proofs
theorem CVRT : RowT Try.prog 22 29 4 56 := ⟨VT22, VS24, ⟨_, VZ24, rfl⟩, by kernel_rfl, by omega⟩
theorem NRT : RowT Try.prog 35 39 2 16 := ⟨NT, NS, ⟨_, NZ, rfl⟩, by kernel_rfl, by omega⟩
theorem FRT : RowT Try.prog 23 37 5 56 := ⟨FT, FS, ⟨_, FZ, rfl⟩, by kernel_rfl, by omega⟩
theorem MZ' : zeroT Try.prog 25 = some (.agg [.nils, .nils]) := by kernel_rfl
theorem MB0 : vbuild Try.prog 25 [] = some (.agg [.nils, .nils]) := by kernel_rfl
theorem VsS : sizeT Try.prog 22 = some 1 := by kernel_rfl
theorem FsS : sizeT Try.prog 23 = some 1 := by kernel_rfl
theorem NsS : sizeT Try.prog 35 = some 1 := by kernel_rfl
theorem build1N (a b : Int) : vbuildSlice Try.prog 35 1 [(0, .agg [.int .i64 a, .int .i64 b])] = some (.slice .exact 2 [.int .i64 a, .int .i64 b] 1) := by kernel_rfl
theorem build1F (a b c d w : V) : vbuildSlice Try.prog 23 1 [(0, .agg [a, b, c, d, w])] = some (.slice .exact 5 [a, b, c, d, w] 1) := by kernel_rfl
theorem buildN2 (a b : Int) : vbuild Try.prog 39 [(0, .int .i64 a), (1, .int .i64 b)] = some (.agg [.int .i64 a, .int .i64 b]) := by kernel_rfl
theorem buildF4 (a b c d : Int) : vbuild Try.prog 37 [(0, .int .i64 a), (1, .int .i64 b), (2, .int .i64 c), (3, .int .i64 d)] = some (.agg [.int .i64 a, .int .i64 b, .int .i64 c, .int .i64 d, .nils]) := by kernel_rfl
theorem cbuild1V {c : List V} (hc : c.length = 4) : vbuildSlice Try.prog 22 1 [(0, .agg c)] = some (.slice .exact 4 c 1) := by
  obtain ⟨a, b, d, e, rfl⟩ : ∃ a b d e, c = [a, b, d, e] := by
    match c, hc with
    | [a, b, d, e], _ => exact ⟨a, b, d, e, rfl⟩
  kernel_rfl
theorem ValsC.snoc' : ∀ {l : List Val} {cs : List V} {v : Val} {c : List V}, ValsC l cs → ValC v c → ValsC (l ++ [v]) (cs ++ c)
  | [], _, v, c, .nil, h => by have := ValsC.cons h .nil; simpa using this
  | a :: l, _, v, c, .cons (c := c1) (cs := cs1) h1 h2, h => by
    rw [List.append_assoc]
    exact .cons h1 (ValsC.snoc' h2 h)
theorem OwnR.vals' {m : Nat} {σ : St} {w : V} {cs : List V} {l : List Val} (h : OwnR 29 4 m σ w cs l.length) (hc : ValsC l cs) : ValsW l w := by
  rcases h.2 with ⟨rfl, h0⟩ | ⟨p, rfl, _⟩
  · have : l = [] := List.length_eq_zero_iff.1 h0
    subst this
    exact .nil
  · exact .row hc
theorem OwnR.one' {e k m n : Nat} {σ : St} {v : V} {cs : List V} (h : OwnR e k m σ v cs n) : one v = true := h.row.one
def FunsC (l : List Fun) (cs : List V) : Prop := cs.length = l.length * 5 ∧ ∀ (i : Nat) (h : i < l.length) (τ : St), FunS τ l[i] ((cs.drop (i * 5)).take 5)
theorem FunsC.snoc {l : List Fun} {cs : List V} {f : Fun} {c : List V} (h : FunsC l cs) (hf : ∀ τ, FunS τ f c) (hc : c.length = 5) : FunsC (l ++ [f]) (cs ++ c) := by
  obtain ⟨h1, h2⟩ := h
  refine ⟨by simp [h1, hc]; omega, fun i hi τ => ?_⟩
  simp only [List.length_append, List.length_cons, List.length_nil] at hi
  rcases Nat.lt_or_ge i l.length with hlt | hge
  · rw [List.getElem_append_left hlt, List.drop_append_of_le_length (by omega), List.take_append_of_le_length (by rw [List.length_drop]; omega)]
    exact h2 i hlt τ
  · have : i = l.length := by omega
    subst this
    rw [List.getElem_append_right (Nat.le_refl _), ← h1, List.drop_left, ← hc, List.take_length]
    simpa using hf τ
theorem FunsC.row {l : List Fun} {cs : List V} {w : V} {e m : Nat} {σ : St} (h : FunsC l cs) (ho : OwnR e 5 m σ w cs l.length) (τ : St) : FunsS τ w l := ⟨cs, .inl ho.row, fun i hi => h.2 i hi τ⟩
/-! ### What is read is small -/
theorem rdA_mem {α : Type} {g : RS → α × RS} (H : Eats g) (s : RS) : ∀ n, ∀ x ∈ (rdA g n s).1, ∃ s' : RS, s'.2 = false ∧ s'.1.length ≤ s.1.length ∧ x = (g s').1
  | 0, x, hx => by simp [rdA] at hx
  | n + 1, x, hx => by
    rw [rdA] at hx
    by_cases hb : (rdA g n s).2.2 = true
    · rw [if_pos hb] at hx; exact rdA_mem H s n x hx
    · rw [if_neg hb, List.mem_append, List.mem_singleton] at hx
      rcases hx with hx | rfl
      · exact rdA_mem H s n x hx
      · exact ⟨_, by simpa using hb, (rdA_eats H s n).1, rfl⟩
theorem rdConst_weight (s : RS) : weight (rdConst s).1 + (rdConst s).2.1.length ≤ s.1.length + 1 := by
  unfold rdConst
  simp only
  have h1 := numS_len s.1 s.2
  generalize numS s.1 s.2 = k at *
  have h2 := numS_len k.2.1 k.2.2
  generalize numS k.2.1 k.2.2 = a at *
  have h3 := numS_len a.2.1 a.2.2
  have h4 := bytS_len2 a.2.1 a.2.2 (a.1 : Int)
  split
  · simp only [weight, weights, List.length_nil]; omega
  · split
    · simp only [weight, weights]; omega
    · simp only [weight, weights, List.length_nil]; omega
theorem rdA_weight (s : RS) : ∀ n, weights (rdA rdConst n s).1 + (rdA rdConst n s).2.1.length ≤ s.1.length + (rdA rdConst n s).1.length
  | 0 => by simp [rdA, weights]
  | n + 1 => by
    have ih := rdA_weight s n
    rw [rdA]
    split
    · exact ih
    · have := rdConst_weight (rdA rdConst n s).2
      rw [weights_append, List.length_append]
      simp only [weights, List.length_cons, List.length_nil]
      omega
theorem rdA_count {α : Type} {g : RS → α × RS} (H : Eats g) (s : RS) (n : Nat) : (rdA g n s).1.length ≤ s.1.length + 1 := by
  cases hs : s.2 with
  | true => rw [rdA_bad hs]; simp
  | false => have := ((rdA_eats H s n).2 hs).1; omega
theorem rdIns_in (s : RS) : InI64 (rdIns s).1.op ∧ InI64 (rdIns s).1.a := ⟨num_in _ _, num_in _ _⟩
theorem rdFun_in (s : RS) : InI64 (rdFun s).1.params ∧ InI64 (rdFun s).1.locals ∧ InI64 (rdFun s).1.zero ∧ InI64 (rdFun s).1.stack ∧ (rdFun s).1.code.length ≤ s.1.length + 1 ∧ ∀ i ∈ (rdFun s).1.code, InI64 i.op ∧ InI64 i.a := by
  unfold rdFun
  simp only
  have h1 := numS_len s.1 s.2
  generalize ha : numS s.1 s.2 = a at *
  have h2 := numS_len a.2.1 a.2.2
  generalize hb : numS a.2.1 a.2.2 = b at *
  have h3 := numS_len b.2.1 b.2.2
  generalize hc : numS b.2.1 b.2.2 = c at *
  have h4 := numS_len c.2.1 c.2.2
  generalize hd : numS c.2.1 c.2.2 = d at *
  have h5 := numS_len d.2.1 d.2.2
  generalize hn : numS d.2.1 d.2.2 = n at *
  refine ⟨by rw [← ha]; exact num_in _ _, by rw [← hb]; exact num_in _ _, by rw [← hc]; exact num_in _ _, by rw [← hd]; exact num_in _ _, ?_, fun i hi => ?_⟩
  · have := rdA_count rdIns_eats n.2 n.1
    omega
  · obtain ⟨s', _, _, rfl⟩ := rdA_mem rdIns_eats n.2 n.1 i hi
    exact rdIns_in s'
theorem rdMdl_in (bs : List UInt8) : MIn (rdMdl bs).1 (2 * bs.length + 2) := by
  unfold rdMdl
  simp only
  have h1 := numS_len bs false
  generalize numS bs false = c at *
  have h2 := numS_len c.2.1 c.2.2
  generalize numS c.2.1 c.2.2 = f at *
  have h3 := rdA_weight f.2 c.1
  have h4 := rdA_count rdConst_eats f.2 c.1
  have h5 := (rdA_eats rdConst_eats f.2 c.1).1
  generalize rdA rdConst c.1 f.2 = p at *
  have h6 := rdA_count rdFun_eats p.2 f.1
  refine ⟨by simp only; omega, by simp only; omega, fun x hx => ?_⟩
  obtain ⟨s', _, h7, rfl⟩ := rdA_mem rdFun_eats p.2 f.1 x hx
  obtain ⟨g1, g2, g3, g4, g5, g6⟩ := rdFun_in s'
  exact ⟨g1, g2, g3, g4, by omega, g6⟩
theorem decM_bad {bs : List UInt8} (st : Int) (h : ¬ ((rdMdl bs).2.2 = false ∧ (rdMdl bs).2.1 = [])) : decM bs st = (⟨[], []⟩, 11) := by unfold decM; rw [if_neg h]
theorem decM_no {bs : List UInt8} {st : Int} (h : (rdMdl bs).2.2 = false ∧ (rdMdl bs).2.1 = []) (h2 : ¬ MdlOk (rdMdl bs).1 st) : decM bs st = (⟨[], []⟩, 40) := by unfold decM; rw [if_pos h, if_neg h2]
theorem decM_other {bs : List UInt8} {st : Int} (h : (rdMdl bs).2.2 = false ∧ (rdMdl bs).2.1 = []) (h2 : MdlOk (rdMdl bs).1 st) (h3 : ¬ encM (rdMdl bs).1 = bs) : decM bs st = (⟨[], []⟩, 11) := by unfold decM; rw [if_pos h, if_pos h2, if_neg h3]
theorem decM_ok {bs : List UInt8} {st : Int} (h : (rdMdl bs).2.2 = false ∧ (rdMdl bs).2.1 = []) (h2 : MdlOk (rdMdl bs).1 st) (h3 : encM (rdMdl bs).1 = bs) : decM bs st = ((rdMdl bs).1, 0) := by unfold decM; rw [if_pos h, if_pos h2, if_pos h3]
theorem mdl_none (τ : St) : MdlS τ ⟨[], []⟩ [.nils, .nils] := ⟨.nils, .nils, rfl, .nil, [], .inl (RowV.nil 5), fun i hi => by simp at hi⟩
end Go.Proofs.Ytplhelapcpcncaa.Q

set_option linter.unusedVariables false
set_option linter.unusedSimpArgs false
set_option maxRecDepth 100000
namespace Go.Proofs.Ytplhelapcpcncaa.Q
open Go Go.RowKit Go.Proofs
theorem Rdr.objs {σ σ' : St} {r : Nat} {bs : List UInt8} {bad : Bool} (h : Rdr σ r bs bad) (ho : σ'.objs = σ.objs) : Rdr σ' r bs bad := let ⟨v, h1, h2⟩ := h; ⟨v, by rw [ho]; exact h1, h2⟩
theorem IsV.objs {σ σ' : St} {o : Nat} {c : List V} (h : IsV σ o c) (ho : σ'.objs = σ.objs) : IsV σ' o c := by unfold IsV; rw [ho]; exact h
theorem dec_l0 {σ s4 : St} {s : RS} {n r o4 o7 : Nat} (hl : s.1.length ≤ 400000000) (hn : n < 9223372036854775808) (hr : σ.objs.length ≤ r) (ho4 : σ.objs.length ≤ o4) (ho7 : σ.objs.length ≤ o7) (h1 : o4 ≠ r) (h2 : o7 ≠ r) (h3 : o4 ≠ o7)
    (r4 : Rdr s4 r s.1 s.2) (m4 : IsV s4 o7 [.nils, .nils]) (a4 : IsV s4 o4 [.nils, .nils]) (kσ4 : Keep σ s4)
    {e : Nat → V} (f6 : e 6 = .optr r 0) (f7 : e 7 = .optr o7 0) (f8 : e 8 = .int .i64 (n : Nat)) (f10 : e 10 = .int .i64 0) :
    Ev Try.prog prims 110 (.loop k17_l0) e s4 (fun x e' σ' => x = .exit 0 ∧ Rdr σ' r (rdA rdConst n s).2.1 (rdA rdConst n s).2.2 ∧ (∃ w, IsV σ' o7 [w, .nils] ∧ ValsW (rdA rdConst n s).1 w) ∧ IsV σ' o4 [.nils, .nils] ∧ Keep σ σ') := by
  have hE := rdConst_eats
  refine Ev.loopF (fun (i : Nat) e σ' => e 10 = .int .i64 (i : Nat) ∧ i ≤ n ∧ Rdr σ' r (rdA rdConst i s).2.1 (rdA rdConst i s).2.2 ∧ (∃ w cs, IsV σ' o7 [w, .nils] ∧ OwnR 29 4 σ.toks.length σ' w cs (rdA rdConst i s).1.length ∧ ValsC (rdA rdConst i s).1 cs) ∧ IsV σ' o4 [.nils, .nils] ∧ Keep σ σ') (fun i => n - i) 0
    ⟨by simpa using f10, Nat.zero_le _, r4, ⟨.nils, [], m4, OwnR.nil, .nil⟩, a4, kσ4⟩ ?_
  rintro i e σ' ⟨h10, hi, hR, ⟨w, cs, hM, hO, hC⟩, hA, hk⟩ hfr
  have g6 : e 6 = .optr r 0 := (hfr 6 (by decide)).trans f6
  have g7 : e 7 = .optr o7 0 := (hfr 7 (by decide)).trans f7
  have g8 : e 8 = .int .i64 (n : Nat) := (hfr 8 (by decide)).trans f8
  clear hfr
  have hSl := (rdA_eats hE s i).1
  have hSc := rdA_count hE s i
  by_cases hlt : i < n
  · have hlt' : (i : Int) < (n : Nat) := by omega
    have hwi : IntKind.i64.wrap ((i : Int) + 1) = ((i + 1 : Nat) : Int) := by rw [show ((i : Int) + 1) = ((i + 1 : Nat) : Int) from by omega]; exact wrap_nat (by omega)
    have hbd := bad_does hR
    cases hbad : (rdA rdConst i s).2.2 with
    | true =>
      have hP := rdA_stay hbad n hi
      rw [hbad] at hbd
      simp only [k17_a, WK, vop, evAll, evOpt, evParts, vbuiltin, vun, vextract, Nat.reduceLT, Nat.reduceEqDiff, ↓reduceIte, reduceCtorEq, Nat.reduceAdd, Int.reduceLT, Int.reduceNeg, valloc_std, noSB, vhot, h10, g8, g6, hlt']
      refine KD.ret hbd ?_
      simp only [k17_a, WK, vop, evAll, evOpt, evParts, vbuiltin, vun, vextract, Nat.reduceLT, Nat.reduceEqDiff, ↓reduceIte, reduceCtorEq, Nat.reduceAdd, Int.reduceLT, Int.reduceNeg, valloc_std, noSB, vhot]
      rw [hP]
      exact ⟨hR, ⟨w, hM, hO.vals' hC⟩, hA, hk⟩
    | false =>
    rw [hbad] at hbd
    have hstep := rdA_step hbad
    generalize rdA rdConst i s = S at *
    obtain ⟨cv, s5, d5, k5, r5, v5⟩ := constant_does hR (by omega)
    have m5 := hM.x k5 h2
    have a5 := hA.x k5 h1
    have kσ5 : Keep σ s5 := hk.overX2 k5 hr
    have O5 : OwnR 29 4 σ.toks.length s5 w cs S.1.length := hO.keep k5.2.2
    obtain ⟨w', s6, ap6, O6, k6, ob6⟩ := O5.append CVRT rfl kσ5 (t2 := 22) (y := .slice .exact 4 cv 1) (ys := cv) (l := 1) (by simp [vnews, VT22]) v5.len v5.one (by omega) (by omega)
    have m6 := m5.objs ob6
    have a6 := a5.objs ob6
    have r6 := r5.objs ob6
    obtain ⟨s7, st7, m7, k7, l7⟩ := cell_set m6 (j := 0) (by simp) (t := 22) VsS (v := w') O6.one'
    have ldw : vload Try.prog σ'.objs 22 (.optr o7 0) = some w := by rw [vload_obj hM VsG]; rfl
    have ldw5 : vload Try.prog s5.objs 22 (.optr o7 0) = some w := by rw [vload_obj m5 VsG]; rfl
    simp only [k17_a, WK, vop, evAll, evOpt, evParts, vbuiltin, vun, vextract, Nat.reduceLT, Nat.reduceEqDiff, ↓reduceIte, reduceCtorEq, Nat.reduceAdd, Int.reduceLT, Int.reduceNeg, valloc_std, noSB, vhot, h10, g8, g6, hlt']
    refine KD.ret hbd ?_
    simp only [k17_a, WK, vop, evAll, evOpt, evParts, vbuiltin, vun, vextract, Nat.reduceLT, Nat.reduceEqDiff, ↓reduceIte, reduceCtorEq, Nat.reduceAdd, Int.reduceLT, Int.reduceNeg, valloc_std, noSB, vhot, h10, g6, g7, MF0, ldw]
    refine KD.ret d5 ?_
    simp only [k17_a, WK, vop, evAll, evOpt, evParts, vbuiltin, vun, vextract, Nat.reduceLT, Nat.reduceEqDiff, ↓reduceIte, reduceCtorEq, Nat.reduceAdd, Int.reduceLT, Int.reduceNeg, valloc_std, noSB, vhot, h10, g6, g7, MF0, ldw, ldw5, cbuild1V v5.len, ap6, ob6, st7, hwi]
    refine ⟨i + 1, ⟨by simp [upd_some], by omega, ?_, ⟨w', cs ++ cv, m7, ?_, ?_⟩, a6.x k7 h3, k6.overX2 k7 ho7⟩, by omega⟩
    · rw [hstep]; exact r6.keep k7 (Ne.symm h2)
    · rw [hstep]
      simp only [List.length_append, List.length_cons, List.length_nil]
      exact O6.keep k7.2.2
    · rw [hstep]; exact hC.snoc' v5
  · have hlt' : ¬ (i : Int) < (n : Nat) := by omega
    have : i = n := by omega
    subst this
    simp only [k17_a, WK, vop, evAll, evOpt, evParts, vbuiltin, vun, vextract, Nat.reduceLT, Nat.reduceEqDiff, ↓reduceIte, reduceCtorEq, Nat.reduceAdd, Int.reduceLT, Int.reduceNeg, valloc_std, noSB, vhot, h10, g8, hlt']
    exact ⟨hR, ⟨w, hM, hO.vals' hC⟩, hA, hk⟩
/-- The instructions of a function. -/
theorem dec_l2 {σ s4 : St} {s : RS} {n r o4 o7 oF : Nat} {a b c d : V} {cm : List V} {w2 : V} {cs2 : List V} {n2 : Nat} (hl : s.1.length ≤ 400000000) (hn : n < 9223372036854775808) (hr : σ.objs.length ≤ r) (hoF : σ.objs.length ≤ oF) (h1 : o4 ≠ r) (h2 : o7 ≠ r) (h3 : oF ≠ r) (h4 : o4 ≠ oF) (h5 : o7 ≠ oF)
    (r4 : Rdr s4 r s.1 s.2) (m4 : IsV s4 o7 cm) (a4 : IsV s4 o4 [.nils, .nils]) (f4 : IsV s4 oF [a, b, c, d, .nils]) (ho : OwnR 37 5 σ.toks.length s4 w2 cs2 n2) (kσ4 : Keep σ s4)
    {e : Nat → V} (f6 : e 6 = .optr r 0) (f12 : e 12 = .optr oF 0) (f14 : e 14 = .int .i64 (n : Nat)) (f13 : e 13 = .int .i64 0) :
    Ev Try.prog prims 110 (.loop k17_l2) e s4 (fun x e' σ' => x = .exit 4 ∧ Rdr σ' r (rdA rdIns n s).2.1 (rdA rdIns n s).2.2 ∧ (∃ w, IsV σ' oF [a, b, c, d, w] ∧ one w = true ∧ ∀ τ, CodeS τ w (rdA rdIns n s).1) ∧ IsV σ' o7 cm ∧ IsV σ' o4 [.nils, .nils] ∧ OwnR 37 5 σ.toks.length σ' w2 cs2 n2 ∧ Keep σ σ') := by
  have hE := rdIns_eats
  have hml : maxLen = 9223372036854775807 := by simp [maxLen, IntKind.max, IntKind.bits]
  obtain ⟨β, hβ⟩ : ∃ β : St, β = ⟨σ.objs, s4.toks⟩ := ⟨_, rfl⟩
  have kβ4 : Keep β s4 := by rw [hβ]; exact ⟨kσ4.1, Nat.le_refl _, fun _ h => h⟩
  have kσβ : Keep σ β := by rw [hβ]; exact ⟨fun _ _ h => h, kσ4.2⟩
  have hlβ : β.objs.length = σ.objs.length := by rw [hβ]
  have htβ : β.toks = s4.toks := by rw [hβ]
  refine Ev.loopF (fun (i : Nat) e σ' => e 13 = .int .i64 (i : Nat) ∧ i ≤ n ∧ Rdr σ' r (rdA rdIns i s).2.1 (rdA rdIns i s).2.2 ∧ (∃ w, IsV σ' oF [a, b, c, d, w] ∧ OwnR 39 2 β.toks.length σ' w ((rdA rdIns i s).1.flatMap insC) (rdA rdIns i s).1.length) ∧ IsV σ' o7 cm ∧ IsV σ' o4 [.nils, .nils] ∧ Keep β σ') (fun i => n - i) 0
    ⟨by simpa using f13, Nat.zero_le _, r4, ⟨.nils, f4, OwnR.nil⟩, m4, a4, kβ4⟩ ?_
  rintro i e σ' ⟨h13, hi, hR, ⟨w, hF, hO⟩, hM, hA, hk⟩ hfr
  have g6 : e 6 = .optr r 0 := (hfr 6 (by decide)).trans f6
  have g12 : e 12 = .optr oF 0 := (hfr 12 (by decide)).trans f12
  have g14 : e 14 = .int .i64 (n : Nat) := (hfr 14 (by decide)).trans f14
  clear hfr
  have hSl := (rdA_eats hE s i).1
  have hSc := rdA_count hE s i
  have done : ∀ τ, CodeS τ w (rdA rdIns i s).1 := fun τ => .inl hO.row
  have ho' : OwnR 37 5 σ.toks.length σ' w2 cs2 n2 := ho.keep (by rw [← htβ]; exact hk.2.2)
  by_cases hlt : i < n
  · have hlt' : (i : Int) < (n : Nat) := by omega
    have hwi : IntKind.i64.wrap ((i : Int) + 1) = ((i + 1 : Nat) : Int) := by rw [show ((i : Int) + 1) = ((i + 1 : Nat) : Int) from by omega]; exact wrap_nat (by omega)
    have hbd := bad_does hR
    cases hbad : (rdA rdIns i s).2.2 with
    | true =>
      have hP := rdA_stay hbad n hi
      rw [hbad] at hbd
      simp only [k17_a, WK, vop, evAll, evOpt, evParts, vbuiltin, vun, vextract, Nat.reduceLT, Nat.reduceEqDiff, ↓reduceIte, reduceCtorEq, Nat.reduceAdd, Int.reduceLT, Int.reduceNeg, valloc_std, noSB, vhot, h13, g14, g6, hlt']
      refine KD.ret hbd ?_
      simp only [k17_a, WK, vop, evAll, evOpt, evParts, vbuiltin, vun, vextract, Nat.reduceLT, Nat.reduceEqDiff, ↓reduceIte, reduceCtorEq, Nat.reduceAdd, Int.reduceLT, Int.reduceNeg, valloc_std, noSB, vhot]
      rw [hP]
      exact ⟨hR, ⟨w, hF, hO.one', done⟩, hM, hA, ho', kσβ.trans hk⟩
    | false =>
    rw [hbad] at hbd
    have hstep := rdA_step hbad
    generalize rdA rdIns i s = S at *
    obtain ⟨s5, d5, k5, r5⟩ := number_does hR (by omega)
    obtain ⟨p, hp⟩ : ∃ p, p = numS S.2.1 S.2.2 := ⟨_, rfl⟩
    have hpl := numS_len S.2.1 S.2.2
    rw [← hp] at d5 r5 hpl
    obtain ⟨s6, d6, k6, r6⟩ := number_does r5 (by omega)
    obtain ⟨q, hq⟩ : ∃ q, q = numS p.2.1 p.2.2 := ⟨_, rfl⟩
    rw [← hq] at d6 r6
    have hins : rdIns S.2 = (⟨(p.1 : Nat), (q.1 : Nat)⟩, q.2) := by unfold rdIns; simp only [← hp, ← hq]
    have f6' := (hF.x k5 h3).x k6 h3
    have m6 := (hM.x k5 h2).x k6 h2
    have a6 := (hA.x k5 h1).x k6 h1
    have kβ6 : Keep β s6 := (hk.overX2 k5 (by omega)).overX2 k6 (by omega)
    have O6 : OwnR 39 2 β.toks.length s6 w (S.1.flatMap insC) S.1.length := (hO.keep k5.2.2).keep k6.2.2
    obtain ⟨w', s7, ap7, O7, k7, ob7⟩ := O6.append NRT rfl kβ6 (t2 := 35) (y := .slice .exact 2 [.int .i64 (p.1 : Nat), .int .i64 (q.1 : Nat)] 1) (ys := [.int .i64 (p.1 : Nat), .int .i64 (q.1 : Nat)]) (l := 1) (by simp [vnews, NT]) rfl rfl (by omega) (by omega)
    have f7' := f6'.objs ob7
    obtain ⟨s8, st8, F8, k8, l8⟩ := cell_set f7' (j := 4) (by simp) (t := 35) NsS (v := w') O7.one'
    have ldw : vload Try.prog σ'.objs 35 (.optr oF 4) = some w := by rw [vload_obj hF NsG]; rfl
    have ldw5 : vload Try.prog s5.objs 35 (.optr oF 4) = some w := by rw [vload_obj (hF.x k5 h3) NsG]; rfl
    have ldw6 : vload Try.prog s6.objs 35 (.optr oF 4) = some w := by rw [vload_obj f6' NsG]; rfl
    simp only [k17_a, WK, vop, evAll, evOpt, evParts, vbuiltin, vun, vextract, Nat.reduceLT, Nat.reduceEqDiff, ↓reduceIte, reduceCtorEq, Nat.reduceAdd, Int.reduceLT, Int.reduceNeg, valloc_std, noSB, vhot, h13, g14, g6, hlt']
    refine KD.ret hbd ?_
    simp only [k17_a, WK, vop, evAll, evOpt, evParts, vbuiltin, vun, vextract, Nat.reduceLT, Nat.reduceEqDiff, ↓reduceIte, reduceCtorEq, Nat.reduceAdd, Int.reduceLT, Int.reduceNeg, valloc_std, noSB, vhot, h13, g6, g12, FF4', ldw]
    refine KD.ret d5 ?_
    simp only [k17_a, WK, vop, evAll, evOpt, evParts, vbuiltin, vun, vextract, Nat.reduceLT, Nat.reduceEqDiff, ↓reduceIte, reduceCtorEq, Nat.reduceAdd, Int.reduceLT, Int.reduceNeg, valloc_std, noSB, vhot, h13, g6, g12, FF4', ldw]
    refine KD.ret d6 ?_
    simp only [k17_a, WK, vop, evAll, evOpt, evParts, vbuiltin, vun, vextract, Nat.reduceLT, Nat.reduceEqDiff, ↓reduceIte, reduceCtorEq, Nat.reduceAdd, Int.reduceLT, Int.reduceNeg, valloc_std, noSB, vhot, h13, g6, g12, FF4', ldw, ldw5, ldw6, buildN2, build1N, ap7, ob7, st8, hwi]
    refine ⟨i + 1, ⟨by simp [upd_some], by omega, ?_, ⟨w', F8, ?_⟩, (m6.objs ob7).x k8 h5, (a6.objs ob7).x k8 h4, k7.overX2 k8 (by omega)⟩, by omega⟩
    · rw [hstep, hins]; exact (r6.objs ob7).keep k8 (Ne.symm h3)
    · rw [hstep, hins]
      simp only [List.length_append, List.length_cons, List.length_nil, List.flatMap_append, List.flatMap_cons, List.flatMap_nil, List.append_nil, insC]
      exact O7.keep k8.2.2
  · have hlt' : ¬ (i : Int) < (n : Nat) := by omega
    have : i = n := by omega
    subst this
    simp only [k17_a, WK, vop, evAll, evOpt, evParts, vbuiltin, vun, vextract, Nat.reduceLT, Nat.reduceEqDiff, ↓reduceIte, reduceCtorEq, Nat.reduceAdd, Int.reduceLT, Int.reduceNeg, valloc_std, noSB, vhot, h13, g14, hlt']
    exact ⟨hR, ⟨w, hF, hO.one', done⟩, hM, hA, ho', kσβ.trans hk⟩
/-- The functions. -/
theorem dec_l1 {σ s4 : St} {s : RS} {n r o4 o7 : Nat} {w : V} (hl : s.1.length ≤ 400000000) (hn : n < 9223372036854775808) (hr : σ.objs.length ≤ r) (ho4 : σ.objs.length ≤ o4) (ho7 : σ.objs.length ≤ o7) (h1 : o4 ≠ r) (h2 : o7 ≠ r) (h3 : o4 ≠ o7)
    (r4 : Rdr s4 r s.1 s.2) (m4 : IsV s4 o7 [w, .nils]) (a4 : IsV s4 o4 [.nils, .nils]) (kσ4 : Keep σ s4)
    {e : Nat → V} (f6 : e 6 = .optr r 0) (f7 : e 7 = .optr o7 0) (f9 : e 9 = .int .i64 (n : Nat)) (f11 : e 11 = .int .i64 0) :
    Ev Try.prog prims 110 (.loop k17_l1) e s4 (fun x e' σ' => x = .exit 2 ∧ Rdr σ' r (rdA rdFun n s).2.1 (rdA rdFun n s).2.2 ∧ (∃ w2, IsV σ' o7 [w, w2] ∧ ∀ τ, FunsS τ w2 (rdA rdFun n s).1) ∧ IsV σ' o4 [.nils, .nils] ∧ Keep σ σ') := by
  have hE := rdFun_eats
  have hml : maxLen = 9223372036854775807 := by simp [maxLen, IntKind.max, IntKind.bits]
  refine Ev.loopF (fun (i : Nat) e σ' => e 11 = .int .i64 (i : Nat) ∧ i ≤ n ∧ Rdr σ' r (rdA rdFun i s).2.1 (rdA rdFun i s).2.2 ∧ (∃ w2 cs, IsV σ' o7 [w, w2] ∧ OwnR 37 5 σ.toks.length σ' w2 cs (rdA rdFun i s).1.length ∧ FunsC (rdA rdFun i s).1 cs) ∧ IsV σ' o4 [.nils, .nils] ∧ Keep σ σ') (fun i => n - i) 0
    ⟨by simpa using f11, Nat.zero_le _, r4, ⟨.nils, [], m4, OwnR.nil, rfl, fun i hi => by simp [rdA] at hi⟩, a4, kσ4⟩ ?_
  rintro i e σ' ⟨h11, hi, hR, ⟨w2, cs, hM, hO, hC⟩, hA, hk⟩ hfr
  have g6 : e 6 = .optr r 0 := (hfr 6 (by decide)).trans f6
  have g7 : e 7 = .optr o7 0 := (hfr 7 (by decide)).trans f7
  have g9 : e 9 = .int .i64 (n : Nat) := (hfr 9 (by decide)).trans f9
  clear hfr
  have hSl := (rdA_eats hE s i).1
  have hSc := rdA_count hE s i
  by_cases hlt : i < n
  · have hlt' : (i : Int) < (n : Nat) := by omega
    have hwi : IntKind.i64.wrap ((i : Int) + 1) = ((i + 1 : Nat) : Int) := by rw [show ((i : Int) + 1) = ((i + 1 : Nat) : Int) from by omega]; exact wrap_nat (by omega)
    have hbd := bad_does hR
    cases hbad : (rdA rdFun i s).2.2 with
    | true =>
      have hP := rdA_stay hbad n hi
      rw [hbad] at hbd
      simp only [k17_a, WK, vop, evAll, evOpt, evParts, vbuiltin, vun, vextract, Nat.reduceLT, Nat.reduceEqDiff, ↓reduceIte, reduceCtorEq, Nat.reduceAdd, Int.reduceLT, Int.reduceNeg, valloc_std, noSB, vhot, h11, g9, g6, hlt']
      refine KD.ret hbd ?_
      simp only [k17_a, WK, vop, evAll, evOpt, evParts, vbuiltin, vun, vextract, Nat.reduceLT, Nat.reduceEqDiff, ↓reduceIte, reduceCtorEq, Nat.reduceAdd, Int.reduceLT, Int.reduceNeg, valloc_std, noSB, vhot]
      rw [hP]
      exact ⟨hR, ⟨w2, hM, fun τ => hC.row hO τ⟩, hA, hk⟩
    | false =>
    rw [hbad] at hbd
    have hstep := rdA_step hbad
    generalize rdA rdFun i s = S at *
    obtain ⟨t1, d1, k1, q1⟩ := number_does hR (by omega)
    obtain ⟨a, ha⟩ : ∃ a, a = numS S.2.1 S.2.2 := ⟨_, rfl⟩
    have la := numS_len S.2.1 S.2.2
    rw [← ha] at d1 q1 la
    obtain ⟨t2, d2, k2, q2⟩ := number_does q1 (by omega)
    obtain ⟨b, hb⟩ : ∃ b, b = numS a.2.1 a.2.2 := ⟨_, rfl⟩
    have lb := numS_len a.2.1 a.2.2
    rw [← hb] at d2 q2 lb
    obtain ⟨t3, d3, k3, q3⟩ := number_does q2 (by omega)
    obtain ⟨c, hc⟩ : ∃ c, c = numS b.2.1 b.2.2 := ⟨_, rfl⟩
    have lc := numS_len b.2.1 b.2.2
    rw [← hc] at d3 q3 lc
    obtain ⟨t4, d4, k4, q4⟩ := number_does q3 (by omega)
    obtain ⟨d, hd⟩ : ∃ d, d = numS c.2.1 c.2.2 := ⟨_, rfl⟩
    have ld := numS_len c.2.1 c.2.2
    rw [← hd] at d4 q4 ld
    have kx4 : KeepX r σ' t4 := ((k1.trans k2).trans k3).trans k4
    have kσt4 : Keep σ t4 := hk.overX2 kx4 hr
    obtain ⟨t5, ht5, F5, k5, l5⟩ := cell_new t4 [.int .i64 0, .int .i64 0, .int .i64 0, .int .i64 0, .nils]
    obtain ⟨t6, st6, F6, k6, l6⟩ := cell_all F5 (t := 37) (c' := [.int .i64 (a.1 : Nat), .int .i64 (b.1 : Nat), .int .i64 (c.1 : Nat), .int .i64 (d.1 : Nat), .nils]) FS rfl rfl
    have hrt := q4.lt
    have hlo := kx4.len' hrt
    have m4' := hM.x kx4 h2
    have a4' := hA.x kx4 h1
    have hm4 := m4'.lt
    have ha4 := a4'.lt
    have q6 := (q4.keep' k5).keep k6 (by omega)
    have m6 := (k5.atV m4').x k6 (by omega)
    have a6 := (k5.atV a4').x k6 (by omega)
    have hσl : σ.objs.length ≤ t4.objs.length := by
      apply Nat.le_of_not_lt
      intro hlt'
      have h1 := kσt4.1 t4.objs.length _ (List.getElem?_eq_getElem hlt')
      have := (List.getElem?_eq_some_iff.1 h1).1
      omega
    have kσt6 : Keep σ t6 := (kσt4.trans k5).overX2 k6 hσl
    have O6 : OwnR 37 5 σ.toks.length t6 w2 cs S.1.length := ((hO.keep kx4.2.2).keep k5.2.2).keep k6.2.2
    obtain ⟨t7, d7, k7, q7⟩ := number_does q6 (by omega)
    obtain ⟨z, hz⟩ : ∃ z, z = numS d.2.1 d.2.2 := ⟨_, rfl⟩
    have lz := numS_len d.2.1 d.2.2
    have iz := numS_in d.2.1 d.2.2
    rw [← hz] at d7 q7 lz iz
    have F7 := F6.x k7 (by omega)
    have m7 := m6.x k7 h2
    have a7 := a6.x k7 h1
    have kσt7 : Keep σ t7 := kσt6.overX2 k7 hr
    have O7 : OwnR 37 5 σ.toks.length t7 w2 cs S.1.length := O6.keep k7.2.2
    have hfun : rdFun S.2 = (⟨(a.1 : Nat), (b.1 : Nat), (c.1 : Nat), (d.1 : Nat), (rdA rdIns z.1 z.2).1⟩, (rdA rdIns z.1 z.2).2) := by unfold rdFun; simp only [← ha, ← hb, ← hc, ← hd, ← hz]
    simp only [k17_a, WK, vop, evAll, evOpt, evParts, vbuiltin, vun, vextract, Nat.reduceLT, Nat.reduceEqDiff, ↓reduceIte, reduceCtorEq, Nat.reduceAdd, Int.reduceLT, Int.reduceNeg, valloc_std, noSB, vhot, h11, g9, g6, hlt']
    refine KD.ret hbd ?_
    simp only [k17_a, WK, vop, evAll, evOpt, evParts, vbuiltin, vun, vextract, Nat.reduceLT, Nat.reduceEqDiff, ↓reduceIte, reduceCtorEq, Nat.reduceAdd, Int.reduceLT, Int.reduceNeg, valloc_std, noSB, vhot, g6]
    refine KD.ret d1 ?_
    simp only [k17_a, WK, vop, evAll, evOpt, evParts, vbuiltin, vun, vextract, Nat.reduceLT, Nat.reduceEqDiff, ↓reduceIte, reduceCtorEq, Nat.reduceAdd, Int.reduceLT, Int.reduceNeg, valloc_std, noSB, vhot, g6]
    refine KD.ret d2 ?_
    simp only [k17_a, WK, vop, evAll, evOpt, evParts, vbuiltin, vun, vextract, Nat.reduceLT, Nat.reduceEqDiff, ↓reduceIte, reduceCtorEq, Nat.reduceAdd, Int.reduceLT, Int.reduceNeg, valloc_std, noSB, vhot, g6]
    refine KD.ret d3 ?_
    simp only [k17_a, WK, vop, evAll, evOpt, evParts, vbuiltin, vun, vextract, Nat.reduceLT, Nat.reduceEqDiff, ↓reduceIte, reduceCtorEq, Nat.reduceAdd, Int.reduceLT, Int.reduceNeg, valloc_std, noSB, vhot, g6]
    refine KD.ret d4 ?_
    simp only [k17_a, WK, vop, evAll, evOpt, evParts, vbuiltin, vun, vextract, Nat.reduceLT, Nat.reduceEqDiff, ↓reduceIte, reduceCtorEq, Nat.reduceAdd, Int.reduceLT, Int.reduceNeg, valloc_std, noSB, vhot, g6, buildF4, FZ, vbox, vcells, ← ht5, st6]
    refine KD.ret d7 ?_
    simp only [k17_a, WK, vop, evAll, evOpt, evParts, vbuiltin, vun, vextract, Nat.reduceLT, Nat.reduceEqDiff, ↓reduceIte, reduceCtorEq, Nat.reduceAdd, Int.reduceLT, Int.reduceNeg, valloc_std, noSB, vhot]
    refine Ev.cut (dec_l2 (s := z.2) (n := z.1) (by omega) (by omega) hr hσl h1 h2 (by omega) (by omega) (by omega) q7 m7 a7 F7 O7 kσt7 (by simp [upd_some, g6]) (by simp [upd_some]) (by simp [upd_some]) (by simp [upd_some])) ?_
    rintro x e' t8 ⟨rfl, q8, ⟨wc, F8, hwc1, hwc⟩, m8, a8, O8, k8⟩ hfr
    have j7 : e' 7 = .optr o7 0 := (hfr 7 (by decide)).trans (by simp [upd_some, g7])
    have j11 : e' 11 = .int .i64 (i : Nat) := (hfr 11 (by decide)).trans (by simp [upd_some, h11])
    have j12 : e' 12 = .optr t4.objs.length 0 := (hfr 12 (by decide)).trans (by simp [upd_some])
    clear hfr
    have hFS : ∀ τ, FunS τ ⟨(a.1 : Nat), (b.1 : Nat), (c.1 : Nat), (d.1 : Nat), (rdA rdIns z.1 z.2).1⟩ [.int .i64 (a.1 : Nat), .int .i64 (b.1 : Nat), .int .i64 (c.1 : Nat), .int .i64 (d.1 : Nat), wc] := fun τ => ⟨wc, rfl, hwc τ⟩
    obtain ⟨w2', t9, ap9, O9, k9, ob9⟩ := O8.append FRT rfl k8 (t2 := 23) (y := .slice .exact 5 [.int .i64 (a.1 : Nat), .int .i64 (b.1 : Nat), .int .i64 (c.1 : Nat), .int .i64 (d.1 : Nat), wc] 1) (ys := [.int .i64 (a.1 : Nat), .int .i64 (b.1 : Nat), .int .i64 (c.1 : Nat), .int .i64 (d.1 : Nat), wc]) (l := 1) (by simp [vnews, FT]) rfl (by simp only [List.all_cons, List.all_nil, hwc1]; rfl) (by omega) (by omega)
    have m9 := m8.objs ob9
    obtain ⟨t10, st10, m10, k10, l10⟩ := cell_set m9 (j := 1) (by simp) (t := 23) FsS (v := w2') O9.one'
    have ldw : vload Try.prog t8.objs 23 (.optr o7 1) = some w2 := by rw [vload_obj m8 FsG]; rfl
    have ldF : vload Try.prog t8.objs 37 (.optr t4.objs.length 0) = some (.agg [.int .i64 (a.1 : Nat), .int .i64 (b.1 : Nat), .int .i64 (c.1 : Nat), .int .i64 (d.1 : Nat), wc]) := vload_agg F8 FG FS
    simp only [k17_a, WK, vop, evAll, evOpt, evParts, vbuiltin, vun, vextract, Nat.reduceLT, Nat.reduceEqDiff, ↓reduceIte, reduceCtorEq, Nat.reduceAdd, Int.reduceLT, Int.reduceNeg, valloc_std, noSB, vhot, j7, j11, j12, MF1, ldw, ldF, build1F, ap9, ob9, st10, hwi]
    refine ⟨i + 1, ⟨by simp [upd_some], by omega, ?_, ⟨w2', cs ++ [.int .i64 (a.1 : Nat), .int .i64 (b.1 : Nat), .int .i64 (c.1 : Nat), .int .i64 (d.1 : Nat), wc], m10, ?_, ?_⟩, (a8.objs ob9).x k10 h3, k9.overX2 k10 ho7⟩, by omega⟩
    · rw [hstep, hfun]; exact (q8.objs ob9).keep k10 (Ne.symm h2)
    · rw [hstep, hfun]
      simp only [List.length_append, List.length_cons, List.length_nil]
      exact O9.keep k10.2.2
    · rw [hstep, hfun]
      exact hC.snoc hFS rfl
  · have hlt' : ¬ (i : Int) < (n : Nat) := by omega
    have : i = n := by omega
    subst this
    simp only [k17_a, WK, vop, evAll, evOpt, evParts, vbuiltin, vun, vextract, Nat.reduceLT, Nat.reduceEqDiff, ↓reduceIte, reduceCtorEq, Nat.reduceAdd, Int.reduceLT, Int.reduceNeg, valloc_std, noSB, vhot, h11, g9, hlt']
    exact ⟨hR, ⟨w2, hM, fun τ => hC.row hO τ⟩, hA, hk⟩
theorem cdecode_does {v : V} {bs : List UInt8} (hv : BtsV v bs) (hl : bs.length ≤ 400000000) (st : Int) (σ : St) :
    ∃ c σ', Does Try.prog prims 17 [v, .int .i64 st] σ (.ret (.tuple [.agg c, .int .i64 (decM bs st).2])) σ' ∧ Keep σ σ' ∧ ∀ τ, MdlS τ (decM bs st).1 c := by
  have key : ∃ q σ', Does Try.prog prims 17 [v, .int .i64 st] σ q σ' ∧ ∃ c, q = .ret (.tuple [.agg c, .int .i64 (decM bs st).2]) ∧ Keep σ σ' ∧ ∀ τ, MdlS τ (decM bs st).1 c := by
    apply k17_is.does (by simp)
    have hml : maxLen = 9223372036854775807 := by simp [maxLen, IntKind.max, IntKind.bits]
    obtain ⟨s0, hs0, a0, k0, l0⟩ := cell_new σ [V.nils, .nils]
    obtain ⟨r, s1, d1, k1, hr, r1⟩ := new_does hv (by omega) s0
    obtain ⟨s2, hs2, m2, k2, l2⟩ := cell_new s1 [V.nils, .nils]
    have a2 := k2.atV (k1.atV a0)
    have r2 := r1.keep' k2
    have hrl := r1.lt
    obtain ⟨s3, d3, k3, r3⟩ := number_does r2 (by omega)
    obtain ⟨c, hc⟩ : ∃ c, c = numS bs false := ⟨_, rfl⟩
    have hn1 := numS_len bs false
    have in1 := numS_in bs false
    rw [← hc] at d3 r3 hn1 in1
    obtain ⟨s4, d4, k4, r4⟩ := number_does r3 (by omega)
    obtain ⟨f, hf⟩ : ∃ f, f = numS c.2.1 c.2.2 := ⟨_, rfl⟩
    have hn2 := numS_len c.2.1 c.2.2
    have in2 := numS_in c.2.1 c.2.2
    rw [← hf] at d4 r4 hn2 in2
    have m4 := (m2.x k3 (by omega)).x k4 (by omega)
    have a4 := (a2.x k3 (by omega)).x k4 (by omega)
    have kσ4 : Keep σ s4 := (((k0.trans k1).trans k2).overX2 k3 (by omega)).overX2 k4 (by omega)
    have hmd : rdMdl bs = (⟨(rdA rdConst c.1 f.2).1, (rdA rdFun f.1 (rdA rdConst c.1 f.2).2).1⟩, (rdA rdFun f.1 (rdA rdConst c.1 f.2).2).2) := by unfold rdMdl; simp only [← hc, ← hf]
    have hin := rdMdl_in bs
    have hPl := (rdA_eats rdConst_eats f.2 c.1).1
    have hQl := (rdA_eats rdFun_eats (rdA rdConst c.1 f.2).2 f.1).1
    simp only [k17_a, WK, vop, evAll, evOpt, evParts, vbuiltin, vun, vextract, Nat.reduceLT, Nat.reduceEqDiff, ↓reduceIte, reduceCtorEq, Nat.reduceAdd, Int.reduceLT, Int.reduceNeg, valloc_std, noSB, vhot, List.getD_cons_zero, List.getD_cons_succ, MZ', vbox, vcells, ← hs0]
    refine KD.ret d1 ?_
    simp only [k17_a, WK, vop, evAll, evOpt, evParts, vbuiltin, vun, vextract, Nat.reduceLT, Nat.reduceEqDiff, ↓reduceIte, reduceCtorEq, Nat.reduceAdd, Int.reduceLT, Int.reduceNeg, valloc_std, noSB, vhot, MZ', vbox, vcells, ← hs2]
    refine KD.ret d3 ?_
    simp only [k17_a, WK, vop, evAll, evOpt, evParts, vbuiltin, vun, vextract, Nat.reduceLT, Nat.reduceEqDiff, ↓reduceIte, reduceCtorEq, Nat.reduceAdd, Int.reduceLT, Int.reduceNeg, valloc_std, noSB, vhot]
    refine KD.ret d4 ?_
    simp only [k17_a, WK, vop, evAll, evOpt, evParts, vbuiltin, vun, vextract, Nat.reduceLT, Nat.reduceEqDiff, ↓reduceIte, reduceCtorEq, Nat.reduceAdd, Int.reduceLT, Int.reduceNeg, valloc_std, noSB, vhot]
    refine Ev.cut (dec_l0 (σ := σ) (s := f.2) (n := c.1) (r := r) (o4 := σ.objs.length) (o7 := s1.objs.length) (by omega) (by omega) (by omega) (by omega) (by omega) (by omega) (by omega) (by omega) r4 m4 a4 kσ4 (by simp [upd_some]) (by simp [upd_some]) (by simp [upd_some]) (by simp [upd_some])) ?_
    rintro x e s5 ⟨rfl, r5, ⟨w, m5, hw⟩, a5, k5⟩ hfr
    have g0 : e 0 = v := (hfr 0 (by decide)).trans (by simp [upd_some])
    have g1 : e 1 = .int .i64 st := (hfr 1 (by decide)).trans (by simp [upd_some])
    have g4 : e 4 = .optr σ.objs.length 0 := (hfr 4 (by decide)).trans (by simp [upd_some])
    have g6 : e 6 = .optr r 0 := (hfr 6 (by decide)).trans (by simp [upd_some])
    have g7 : e 7 = .optr s1.objs.length 0 := (hfr 7 (by decide)).trans (by simp [upd_some])
    have g9 : e 9 = .int .i64 (f.1 : Nat) := (hfr 9 (by decide)).trans (by simp [upd_some])
    clear hfr
    generalize rdA rdConst c.1 f.2 = P at *
    simp only [k17_a, WK, vop, evAll, evOpt, evParts, vbuiltin, vun, vextract, Nat.reduceLT, Nat.reduceEqDiff, ↓reduceIte, reduceCtorEq, Nat.reduceAdd, Int.reduceLT, Int.reduceNeg, valloc_std, noSB, vhot]
    refine Ev.cut (dec_l1 (σ := σ) (s := P.2) (n := f.1) (r := r) (o4 := σ.objs.length) (o7 := s1.objs.length) (by omega) (by omega) (by omega) (by omega) (by omega) (by omega) (by omega) (by omega) r5 m5 a5 k5 (by simp [upd_some, g6]) (by simp [upd_some, g7]) (by simp [upd_some, g9]) (by simp [upd_some])) ?_
    rintro x e' s6 ⟨rfl, r6, ⟨w2, m6, hw2⟩, a6, k6⟩ hfr
    have j0 : e' 0 = v := (hfr 0 (by decide)).trans (by simp [upd_some, g0])
    have j1 : e' 1 = .int .i64 st := (hfr 1 (by decide)).trans (by simp [upd_some, g1])
    have j4 : e' 4 = .optr σ.objs.length 0 := (hfr 4 (by decide)).trans (by simp [upd_some, g4])
    have j6 : e' 6 = .optr r 0 := (hfr 6 (by decide)).trans (by simp [upd_some, g6])
    have j7 : e' 7 = .optr s1.objs.length 0 := (hfr 7 (by decide)).trans (by simp [upd_some, g7])
    clear hfr g0 g1 g4 g6 g7 g9
    generalize rdA rdFun f.1 P.2 = Q at *
    have hend := end_does r6
    have zero : ∀ s : St, IsV s σ.objs.length [.nils, .nils] → Keep σ s → ∃ s', vstore Try.prog s 25 (.optr σ.objs.length 0) (.agg [.nils, .nils]) = some s' ∧ vload Try.prog s'.objs 25 (.optr σ.objs.length 0) = some (.agg [.nils, .nils]) ∧ Keep σ s' := by
      intro s hs hk
      obtain ⟨s', h1, h2, h3, _⟩ := cell_all hs (t := 25) (c' := [.nils, .nils]) MS rfl rfl
      exact ⟨s', h1, vload_agg h2 MG MS, hk.overX2 h3 (Nat.le_refl _)⟩
    by_cases hgood : Q.2.2 = false ∧ Q.2.1 = []
    · have hgood' : (rdMdl bs).2.2 = false ∧ (rdMdl bs).2.1 = [] := by rw [hmd]; exact hgood
      have hyes : (!Q.2.2 && decide ((Q.2.1.length : Int) = 0)) = true := by rw [hgood.1, hgood.2]; rfl
      rw [hyes] at hend
      have hmS : ∀ τ, MdlS τ (rdMdl bs).1 [w, w2] := fun τ => by rw [hmd]; exact ⟨w, w2, rfl, hw, hw2 τ⟩
      have ldm : vload Try.prog s6.objs 25 (.optr s1.objs.length 0) = some (.agg [w, w2]) := vload_agg m6 MG MS
      obtain ⟨x, z, s7, d7, k7, hz⟩ := cencode_does (hmS s6) hin (by omega) st
      have a7 := k7.atV a6
      have m7 := k7.atV m6
      have k67 := k6.trans k7
      simp only [k17_a, WK, vop, evAll, evOpt, evParts, vbuiltin, vun, vextract, Nat.reduceLT, Nat.reduceEqDiff, ↓reduceIte, reduceCtorEq, Nat.reduceAdd, Int.reduceLT, Int.reduceNeg, valloc_std, noSB, vhot, j6]
      refine KD.ret hend ?_
      simp only [k17_a, WK, vop, evAll, evOpt, evParts, vbuiltin, vun, vextract, Nat.reduceLT, Nat.reduceEqDiff, ↓reduceIte, reduceCtorEq, Nat.reduceAdd, Int.reduceLT, Int.reduceNeg, valloc_std, noSB, vhot, j7, j1, ldm]
      refine KD.ret d7 ?_
      rcases hz with ⟨rfl, hok, hx⟩ | ⟨rfl, hno, rfl⟩
      · by_cases heq : encM (rdMdl bs).1 = bs
        · rw [decM_ok hgood' hok heq]
          have ldm7 : vload Try.prog s7.objs 25 (.optr s1.objs.length 0) = some (.agg [w, w2]) := vload_agg m7 MG MS
          obtain ⟨s8, st8, a8, k8, _⟩ := cell_all a7 (t := 25) (c' := [w, w2]) MS rfl (by have h1 := hw.one; obtain ⟨cs, h2, _⟩ := hw2 s7; simp only [List.all_cons, List.all_nil, h1, h2.one]; rfl)
          have hd : decide (encM (rdMdl bs).1 = bs) = true := decide_eq_true heq
          simp only [k17_a, WK, vop, evAll, evOpt, evParts, vbuiltin, vun, vextract, Nat.reduceLT, Nat.reduceEqDiff, ↓reduceIte, reduceCtorEq, Nat.reduceAdd, Int.reduceLT, Int.reduceNeg, valloc_std, noSB, vhot, j0, j4, j7, hx.str T22 CU27 T9, hv.str T22 CU27 T9, strBin, hd, eq_self, decide_true, Bool.not_true, ldm7, st8, vload_agg a8 MG MS]
          exact ⟨[w, w2], rfl, k67.overX2 k8 (Nat.le_refl _), hmS⟩
        · rw [decM_other hgood' hok heq]
          obtain ⟨s8, st8, ld8, k8⟩ := zero s7 a7 k67
          have hd : decide (encM (rdMdl bs).1 = bs) = false := decide_eq_false heq
          simp only [k17_a, WK, vop, evAll, evOpt, evParts, vbuiltin, vun, vextract, Nat.reduceLT, Nat.reduceEqDiff, ↓reduceIte, reduceCtorEq, Nat.reduceAdd, Int.reduceLT, Int.reduceNeg, valloc_std, noSB, vhot, j0, j4, hx.str T22 CU27 T9, hv.str T22 CU27 T9, strBin, hd, eq_self, decide_true, Bool.not_true, Bool.not_false, MB0, st8, ld8]
          exact ⟨_, rfl, k8, mdl_none⟩
      · rw [decM_no hgood' hno]
        obtain ⟨s8, st8, ld8, k8⟩ := zero s7 a7 k67
        simp only [k17_a, WK, vop, evAll, evOpt, evParts, vbuiltin, vun, vextract, Nat.reduceLT, Nat.reduceEqDiff, ↓reduceIte, reduceCtorEq, Nat.reduceAdd, Int.reduceLT, Int.reduceNeg, valloc_std, noSB, vhot, j4, (show ((40 : Int) = 0) = False from by simp), decide_false, Bool.not_false, MB0, st8, ld8]
        exact ⟨_, rfl, k8, mdl_none⟩
    · have hno : (!Q.2.2 && decide ((Q.2.1.length : Int) = 0)) = false := by
        rw [Bool.eq_false_iff]
        intro h
        simp at h
        exact hgood h
      rw [hno] at hend
      rw [decM_bad st (by rw [hmd]; exact hgood)]
      obtain ⟨s8, st8, ld8, k8⟩ := zero s6 a6 k6
      simp only [k17_a, WK, vop, evAll, evOpt, evParts, vbuiltin, vun, vextract, Nat.reduceLT, Nat.reduceEqDiff, ↓reduceIte, reduceCtorEq, Nat.reduceAdd, Int.reduceLT, Int.reduceNeg, valloc_std, noSB, vhot, j6]
      refine KD.ret hend ?_
      simp only [k17_a, WK, vop, evAll, evOpt, evParts, vbuiltin, vun, vextract, Nat.reduceLT, Nat.reduceEqDiff, ↓reduceIte, reduceCtorEq, Nat.reduceAdd, Int.reduceLT, Int.reduceNeg, valloc_std, noSB, vhot, j4, MB0, st8, ld8]
      exact ⟨_, rfl, k8, mdl_none⟩
  obtain ⟨q, σ', h1, c, rfl, h2⟩ := key
  exact ⟨c, σ', h1, h2⟩
end Go.Proofs.Ytplhelapcpcncaa.Q

/- Decode, the document's. -/
set_option linter.unusedVariables false
set_option linter.unusedSimpArgs false
set_option maxRecDepth 100000
namespace Go.Proofs.Ytplhelapcpcncaa.Q
open Go Go.RowKit Go.Proofs
theorem buildF1 (a : Int) : vbuild Try.prog 37 [(0, .int .i64 a)] = some (.agg [.int .i64 a, .int .i64 0, .int .i64 0, .int .i64 0, .nils]) := by kernel_rfl
theorem buildN1 (a : Int) : vbuild Try.prog 39 [(0, .int .i64 a)] = some (.agg [.int .i64 a, .int .i64 0]) := by kernel_rfl
theorem Rdr.parts {σ : St} {r : Nat} {bs : List UInt8} {bad : Bool} (h : Rdr σ r bs bad) : ∃ v, BtsV v bs ∧ vload Try.prog σ.objs 4 (.optr r 1) = some (.bool bad) ∧ vload Try.prog σ.objs 41 (.optr r 0) = some v := by
  obtain ⟨v, h1, h2⟩ := h
  exact ⟨v, h2, by rw [vload_obj h1 G4]; rfl, by rw [vload_obj h1 G22]; rfl⟩
theorem ref_l0 {σ s4 : St} {s : RS} {n r o4 o7 : Nat} (hl : s.1.length ≤ 400000000) (hn : n < 9223372036854775808) (hr : σ.objs.length ≤ r) (ho4 : σ.objs.length ≤ o4) (ho7 : σ.objs.length ≤ o7) (h1 : o4 ≠ r) (h2 : o7 ≠ r) (h3 : o4 ≠ o7)
    (r4 : Rdr s4 r s.1 s.2) (m4 : IsV s4 o7 [.nils, .nils]) (a4 : IsV s4 o4 [.nils, .nils]) (kσ4 : Keep σ s4)
    {e : Nat → V} (f6 : e 6 = .optr r 0) (f7 : e 7 = .optr o7 0) (f8 : e 8 = .int .i64 (n : Nat)) (f10 : e 10 = .int .i64 0) :
    Ev Try.prog prims 158 (.loop k18_l0) e s4 (fun x e' σ' => x = .exit 0 ∧ Rdr σ' r (rdA rdConst n s).2.1 (rdA rdConst n s).2.2 ∧ (∃ w, IsV σ' o7 [w, .nils] ∧ ValsW (rdA rdConst n s).1 w) ∧ IsV σ' o4 [.nils, .nils] ∧ Keep σ σ') := by
  have hE := rdConst_eats
  have hml : maxLen = 9223372036854775807 := by simp [maxLen, IntKind.max, IntKind.bits]
  refine Ev.loopF (fun (i : Nat) e σ' => e 10 = .int .i64 (i : Nat) ∧ i ≤ n ∧ Rdr σ' r (rdA rdConst i s).2.1 (rdA rdConst i s).2.2 ∧ (∃ w cs, IsV σ' o7 [w, .nils] ∧ OwnR 29 4 σ.toks.length σ' w cs (rdA rdConst i s).1.length ∧ ValsC (rdA rdConst i s).1 cs) ∧ IsV σ' o4 [.nils, .nils] ∧ Keep σ σ') (fun i => n - i) 0
    ⟨by simpa using f10, Nat.zero_le _, r4, ⟨.nils, [], m4, OwnR.nil, .nil⟩, a4, kσ4⟩ ?_
  rintro i e σ' ⟨h10, hi, hR, ⟨w, cs, hM, hO, hC⟩, hA, hk⟩ hfr
  have g6 : e 6 = .optr r 0 := (hfr 6 (by decide)).trans f6
  have g7 : e 7 = .optr o7 0 := (hfr 7 (by decide)).trans f7
  have g8 : e 8 = .int .i64 (n : Nat) := (hfr 8 (by decide)).trans f8
  clear hfr
  have hSl := (rdA_eats hE s i).1
  have hSc := rdA_count hE s i
  obtain ⟨bv, _, hbd, _⟩ := hR.parts
  by_cases hlt : i < n
  · have hlt' : (i : Int) < (n : Nat) := by omega
    have hwi : IntKind.i64.wrap ((i : Int) + 1) = ((i + 1 : Nat) : Int) := by rw [show ((i : Int) + 1) = ((i + 1 : Nat) : Int) from by omega]; exact wrap_nat (by omega)
    cases hbad : (rdA rdConst i s).2.2 with
    | true =>
      have hP := rdA_stay hbad n hi
      rw [hbad] at hbd
      simp only [k18_a, WK, vop, evAll, evOpt, evParts, vbuiltin, vun, vextract, Nat.reduceLT, Nat.reduceEqDiff, ↓reduceIte, reduceCtorEq, Nat.reduceAdd, Int.reduceLT, Int.reduceNeg, valloc_std, noSB, vhot, h10, g8, g6, hlt', FB1, hbd]
      rw [hP]
      exact ⟨hR, ⟨w, hM, hO.vals' hC⟩, hA, hk⟩
    | false =>
    rw [hbad] at hbd
    have hstep := rdA_step hbad
    generalize rdA rdConst i s = S at *
    -- one more: c is what is read
    have fin : ∀ (s5 : St) (o : Nat) (cv : List V) (e5 : Nat → V), e5 10 = .int .i64 (i : Nat) → e5 7 = .optr o7 0 → e5 11 = .optr o 0 → Rdr s5 r (rdConst S.2).2.1 (rdConst S.2).2.2 → IsV s5 o cv → ValC (rdConst S.2).1 cv → IsV s5 o7 [w, .nils] → IsV s5 o4 [.nils, .nils] → OwnR 29 4 σ.toks.length s5 w cs S.1.length → Keep σ s5 →
        ∃ w' s6 s7, vload Try.prog s5.objs 22 (.optr o7 0) = some w ∧ vload Try.prog s5.objs 29 (.optr o 0) = some (.agg cv) ∧ vbuildSlice Try.prog 22 1 [(0, .agg cv)] = some (.slice .exact 4 cv 1) ∧ vappend Try.prog s5 22 22 w (.slice .exact 4 cv 1) = some (w', s6) ∧ vstore Try.prog s6 22 (.optr o7 0) w' = some s7 ∧
          Rdr s7 r (rdA rdConst (i + 1) s).2.1 (rdA rdConst (i + 1) s).2.2 ∧ (∃ w cs, IsV s7 o7 [w, .nils] ∧ OwnR 29 4 σ.toks.length s7 w cs (rdA rdConst (i + 1) s).1.length ∧ ValsC (rdA rdConst (i + 1) s).1 cs) ∧ IsV s7 o4 [.nils, .nils] ∧ Keep σ s7 := by
      intro s5 o cv e5 _ _ _ r5 c5 v5 m5 a5 O5 kσ5
      obtain ⟨w', s6, ap6, O6, k6, ob6⟩ := O5.append CVRT rfl kσ5 (t2 := 22) (y := .slice .exact 4 cv 1) (ys := cv) (l := 1) (by simp [vnews, VT22]) v5.len v5.one (by omega) (by omega)
      have m6 := m5.objs ob6
      obtain ⟨s7, st7, m7, k7, l7⟩ := cell_set m6 (j := 0) (by simp) (t := 22) VsS (v := w') O6.one'
      refine ⟨w', s6, s7, by rw [vload_obj m5 VsG]; rfl, vload_agg c5 VGA (by rw [v5.len]; exact VS24), cbuild1V v5.len, ap6, st7, ?_, ⟨w', cs ++ cv, m7, ?_, ?_⟩, (a5.objs ob6).x k7 h3, k6.overX2 k7 ho7⟩
      · rw [hstep]; exact (r5.objs ob6).keep k7 (Ne.symm h2)
      · rw [hstep]
        simp only [List.length_append, List.length_cons, List.length_nil]
        exact O6.keep k7.2.2
      · rw [hstep]; exact hC.snoc' v5
    obtain ⟨s5, d5, k5, r5⟩ := refnumber_does hR (by omega)
    obtain ⟨k, hke⟩ : ∃ k, k = numS S.2.1 S.2.2 := ⟨_, rfl⟩
    have hn1 := numS_len S.2.1 S.2.2
    have in1 := num_in S.2.1 S.2.2
    rw [← hke] at d5 r5 hn1 in1
    have m5 := hM.x k5 h2
    have a5 := hA.x k5 h1
    have kσ5 : Keep σ s5 := hk.overX2 k5 hr
    have O5 : OwnR 29 4 σ.toks.length s5 w cs S.1.length := hO.keep k5.2.2
    obtain ⟨s6, hs6, c6, k6, l6⟩ := cell_new s5 val0C
    obtain ⟨s7, st7, c7, k7, l7⟩ := cell_all c6 (t := 29) (c' := [.int .i64 (k.1 : Nat), .int .i64 0, .str [], .nils]) VS24 rfl rfl
    have hm5 := m5.lt
    have ha5 := a5.lt
    have hr5 := r5.lt
    have m7 := (k6.atV m5).x k7 (by omega)
    have a7 := (k6.atV a5).x k7 (by omega)
    have r7 := (r5.keep' k6).keep k7 (by omega)
    have hσ5 : σ.objs.length ≤ s5.objs.length := by omega
    have kσ7 : Keep σ s7 := (kσ5.trans k6).overX2 k7 hσ5
    have O7 : OwnR 29 4 σ.toks.length s7 w cs S.1.length := (O5.keep k6.2.2).keep k7.2.2
    have ldk := c7.kind
    obtain ⟨s8, d8, k8, r8⟩ := refnumber_does r7 (by omega)
    obtain ⟨a, ha⟩ : ∃ a, a = numS k.2.1 k.2.2 := ⟨_, rfl⟩
    have hn2 := numS_len k.2.1 k.2.2
    have in2 := num_in k.2.1 k.2.2
    rw [← ha] at d8 r8 hn2 in2
    have c8 := c7.x k8 (by omega)
    have m8 := m7.x k8 h2
    have a8 := a7.x k8 h1
    have kσ8 := kσ7.overX2 k8 hr
    have O8 : OwnR 29 4 σ.toks.length s8 w cs S.1.length := O7.keep k8.2.2
    simp only [k18_a, WK, vop, evAll, evOpt, evParts, vbuiltin, vun, vextract, Nat.reduceLT, Nat.reduceEqDiff, ↓reduceIte, reduceCtorEq, Nat.reduceAdd, Int.reduceLT, Int.reduceNeg, valloc_std, noSB, vhot, h10, g8, g6, hlt', FB1, hbd]
    refine KD.ret d5 ?_
    simp only [k18_a, WK, vop, evAll, evOpt, evParts, vbuiltin, vun, vextract, Nat.reduceLT, Nat.reduceEqDiff, ↓reduceIte, reduceCtorEq, Nat.reduceAdd, Int.reduceLT, Int.reduceNeg, valloc_std, noSB, vhot, CBk, VZ24, vbox, vcells, ← hs6, st7, FV0, ldk]
    by_cases hk1 : k.1 = 1
    · have e1 : ((k.1 : Nat) : Int) = 1 := by omega
      obtain ⟨s9, d9, k9, r9⟩ := refnumber_does r8 (by omega)
      obtain ⟨b, hb⟩ : ∃ b, b = numS a.2.1 a.2.2 := ⟨_, rfl⟩
      have in3 := num_in a.2.1 a.2.2
      rw [← hb] at d9 r9 in3
      have c9 := c8.x k9 (by omega)
      have m9 := m8.x k9 h2
      have a9 := a8.x k9 h1
      have kσ9 := kσ8.overX2 k9 hr
      have O9 : OwnR 29 4 σ.toks.length s9 w cs S.1.length := O8.keep k9.2.2
      obtain ⟨s10, st10, c10, k10, l10⟩ := cell_set c9 (j := 1) (by simp) (t := 3) S3 (v := .int .i64 (b.1 : Nat)) rfl
      have r10 := r9.keep k10 (by omega)
      have m10 := m9.x k10 (by omega)
      have a10 := a9.x k10 (by omega)
      have kσ10 := kσ9.overX2 k10 hσ5
      have O10 : OwnR 29 4 σ.toks.length s10 w cs S.1.length := O9.keep k10.2.2
      simp only [List.set_cons_succ, List.set_cons_zero] at c10
      have hrd : rdConst S.2 = (.mk 1 (if a.1 = 1 then -(b.1 : Int) - 1 else (b.1 : Int)) [] [], b.2) := by
        unfold rdConst
        simp only [← hke, ← ha, ← hb, hk1, if_true]
      rw [hrd] at fin
      by_cases hneg : a.1 = 1
      · have e2 : ((a.1 : Nat) : Int) = 1 := by omega
        have w1 : IntKind.i64.wrap (0 - ((b.1 : Nat) : Int)) = -((b.1 : Nat) : Int) := by unfold InI64 at in3; rw [wrap_i64 (by omega) (by omega)]; omega
        have w2 : IntKind.i64.wrap (-((b.1 : Nat) : Int) - 1) = -((b.1 : Nat) : Int) - 1 := by unfold InI64 at in3; exact wrap_i64 (by omega) (by omega)
        obtain ⟨s11, st11, c11, k11, l11⟩ := cell_set c10 (j := 1) (by simp) (t := 3) S3 (v := .int .i64 (-((b.1 : Nat) : Int) - 1)) rfl
        simp only [List.set_cons_succ, List.set_cons_zero] at c11
        rw [if_pos hneg] at fin
        have ldn := c10.num
        obtain ⟨w', s12, s13, x1, x2, x3, x4, x5, x6, x7, x8, x9⟩ := fin s11 s5.objs.length _ (upd (upd (upd e (some 10) (.int .i64 (i : Nat))) (some 7) (.optr o7 0)) (some 11) (.optr s5.objs.length 0)) (by simp [upd_some]) (by simp [upd_some]) (by simp [upd_some]) (r10.keep k11 (by omega)) c11 (by rw [e1]; exact .mk (by unfold InI64; omega) (by unfold InI64 at in3 ⊢; omega) .nil) (m10.x k11 (by omega)) (a10.x k11 (by omega)) (O10.keep k11.2.2) (kσ10.overX2 k11 hσ5)
        simp only [k18_a, WK, vop, evAll, evOpt, evParts, vbuiltin, vun, vextract, Nat.reduceLT, Nat.reduceEqDiff, ↓reduceIte, reduceCtorEq, Nat.reduceAdd, Int.reduceLT, Int.reduceNeg, valloc_std, noSB, vhot, e1, g6]
        refine KD.ret d8 ?_
        simp only [k18_a, WK, vop, evAll, evOpt, evParts, vbuiltin, vun, vextract, Nat.reduceLT, Nat.reduceEqDiff, ↓reduceIte, reduceCtorEq, Nat.reduceAdd, Int.reduceLT, Int.reduceNeg, valloc_std, noSB, vhot, g6]
        refine KD.ret d9 ?_
        simp only [k18_a, WK, vop, evAll, evOpt, evParts, vbuiltin, vun, vextract, Nat.reduceLT, Nat.reduceEqDiff, ↓reduceIte, reduceCtorEq, Nat.reduceAdd, Int.reduceLT, Int.reduceNeg, valloc_std, noSB, vhot, FV1, st10, e2, ldn, w1, w2, st11, g7, MF0, x1, x2, x3, x4, x5, h10, hwi]
        exact ⟨i + 1, ⟨by simp [upd_some], by omega, x6, x7, x8, x9⟩, by omega⟩
      · have e2 : (((a.1 : Nat) : Int) = 1) = False := eq_false (by omega)
        rw [if_neg hneg] at fin
        obtain ⟨w', s12, s13, x1, x2, x3, x4, x5, x6, x7, x8, x9⟩ := fin s10 s5.objs.length _ (upd (upd (upd e (some 10) (.int .i64 (i : Nat))) (some 7) (.optr o7 0)) (some 11) (.optr s5.objs.length 0)) (by simp [upd_some]) (by simp [upd_some]) (by simp [upd_some]) r10 c10 (by rw [e1]; exact .mk (by unfold InI64; omega) in3 .nil) m10 a10 O10 kσ10
        simp only [k18_a, WK, vop, evAll, evOpt, evParts, vbuiltin, vun, vextract, Nat.reduceLT, Nat.reduceEqDiff, ↓reduceIte, reduceCtorEq, Nat.reduceAdd, Int.reduceLT, Int.reduceNeg, valloc_std, noSB, vhot, e1, g6]
        refine KD.ret d8 ?_
        simp only [k18_a, WK, vop, evAll, evOpt, evParts, vbuiltin, vun, vextract, Nat.reduceLT, Nat.reduceEqDiff, ↓reduceIte, reduceCtorEq, Nat.reduceAdd, Int.reduceLT, Int.reduceNeg, valloc_std, noSB, vhot, g6]
        refine KD.ret d9 ?_
        simp only [k18_a, WK, vop, evAll, evOpt, evParts, vbuiltin, vun, vextract, Nat.reduceLT, Nat.reduceEqDiff, ↓reduceIte, reduceCtorEq, Nat.reduceAdd, Int.reduceLT, Int.reduceNeg, valloc_std, noSB, vhot, FV1, st10, e2, g7, MF0, x1, x2, x3, x4, x5, h10, hwi]
        exact ⟨i + 1, ⟨by simp [upd_some], by omega, x6, x7, x8, x9⟩, by omega⟩
    have e1 : (((k.1 : Nat) : Int) = 1) = False := eq_false (by omega)
    by_cases hk3 : k.1 = 3
    · have e3 : ((k.1 : Nat) : Int) = 3 := by omega
      obtain ⟨tv, s9, d9, k9, r9, b9⟩ := refbytes_does r8 (by omega) ((a.1 : Nat) : Int)
      obtain ⟨t, ht⟩ : ∃ t, t = bytS a.2.1 a.2.2 ((a.1 : Nat) : Int) := ⟨_, rfl⟩
      rw [← ht] at r9 b9
      have c9 := c8.x k9 (by omega)
      obtain ⟨s10, st10, c10, k10, l10⟩ := cell_set c9 (j := 2) (by simp) (t := 9) S9 (v := .str t.1) rfl
      simp only [List.set_cons_succ, List.set_cons_zero] at c10
      have hrd : rdConst S.2 = (.mk 3 0 t.1 [], t.2) := by
        unfold rdConst
        simp only [← hke, ← ha, ← ht, hk1, hk3, if_false, if_true]
        rw [if_neg (by omega)]
      rw [hrd] at fin
      obtain ⟨w', s12, s13, x1, x2, x3, x4, x5, x6, x7, x8, x9⟩ := fin s10 s5.objs.length _ (upd (upd (upd e (some 10) (.int .i64 (i : Nat))) (some 7) (.optr o7 0)) (some 11) (.optr s5.objs.length 0)) (by simp [upd_some]) (by simp [upd_some]) (by simp [upd_some]) (r9.keep k10 (by omega)) c10 (by rw [e3]; exact .mk (by unfold InI64; omega) (by unfold InI64; omega) .nil) ((m8.x k9 h2).x k10 (by omega)) ((a8.x k9 h1).x k10 (by omega)) ((O8.keep k9.2.2).keep k10.2.2) ((kσ8.overX2 k9 hr).overX2 k10 hσ5)
      simp only [k18_a, WK, vop, evAll, evOpt, evParts, vbuiltin, vun, vextract, Nat.reduceLT, Nat.reduceEqDiff, ↓reduceIte, reduceCtorEq, Nat.reduceAdd, Int.reduceLT, Int.reduceNeg, valloc_std, noSB, vhot, e1, e3, (show ((3 : Int) = 1) = False from by simp), g6]
      rw [e3] at ldk
      simp only [k18_a, WK, vop, evAll, evOpt, evParts, vbuiltin, vun, vextract, Nat.reduceLT, Nat.reduceEqDiff, ↓reduceIte, reduceCtorEq, Nat.reduceAdd, Int.reduceLT, Int.reduceNeg, valloc_std, noSB, vhot, FV0, ldk, g6]
      refine KD.ret d8 ?_
      simp only [k18_a, WK, vop, evAll, evOpt, evParts, vbuiltin, vun, vextract, Nat.reduceLT, Nat.reduceEqDiff, ↓reduceIte, reduceCtorEq, Nat.reduceAdd, Int.reduceLT, Int.reduceNeg, valloc_std, noSB, vhot, g6]
      refine KD.ret d9 ?_
      simp only [k18_a, WK, vop, evAll, evOpt, evParts, vbuiltin, vun, vextract, Nat.reduceLT, Nat.reduceEqDiff, ↓reduceIte, reduceCtorEq, Nat.reduceAdd, Int.reduceLT, Int.reduceNeg, valloc_std, noSB, vhot, FV2, b9.str T22 CU27 T9, st10, g7, MF0, x1, x2, x3, x4, x5, h10, hwi]
      exact ⟨i + 1, ⟨by simp [upd_some], by omega, x6, x7, x8, x9⟩, by omega⟩
    have e3 : (((k.1 : Nat) : Int) = 3) = False := eq_false (by omega)
    obtain ⟨s10, st10, c10, k10, l10⟩ := cell_set c8 (j := 1) (by simp) (t := 3) S3 (v := .int .i64 (a.1 : Nat)) rfl
    simp only [List.set_cons_succ, List.set_cons_zero] at c10
    have hrd : rdConst S.2 = (.mk k.1 a.1 [] [], a.2) := by
      unfold rdConst
      simp only [← hke, ← ha, hk1, hk3, if_false]
    rw [hrd] at fin
    obtain ⟨w', s12, s13, x1, x2, x3, x4, x5, x6, x7, x8, x9⟩ := fin s10 s5.objs.length _ (upd (upd (upd e (some 10) (.int .i64 (i : Nat))) (some 7) (.optr o7 0)) (some 11) (.optr s5.objs.length 0)) (by simp [upd_some]) (by simp [upd_some]) (by simp [upd_some]) (r8.keep k10 (by omega)) c10 (.mk in1 in2 .nil) (m8.x k10 (by omega)) (a8.x k10 (by omega)) (O8.keep k10.2.2) (kσ8.overX2 k10 hσ5)
    simp only [k18_a, WK, vop, evAll, evOpt, evParts, vbuiltin, vun, vextract, Nat.reduceLT, Nat.reduceEqDiff, ↓reduceIte, reduceCtorEq, Nat.reduceAdd, Int.reduceLT, Int.reduceNeg, valloc_std, noSB, vhot, e1, e3, FV0, ldk, g6]
    refine KD.ret d8 ?_
    simp only [k18_a, WK, vop, evAll, evOpt, evParts, vbuiltin, vun, vextract, Nat.reduceLT, Nat.reduceEqDiff, ↓reduceIte, reduceCtorEq, Nat.reduceAdd, Int.reduceLT, Int.reduceNeg, valloc_std, noSB, vhot, FV1, st10, g7, MF0, x1, x2, x3, x4, x5, h10, hwi]
    exact ⟨i + 1, ⟨by simp [upd_some], by omega, x6, x7, x8, x9⟩, by omega⟩
  · have hlt' : ¬ (i : Int) < (n : Nat) := by omega
    have : i = n := by omega
    subst this
    simp only [k18_a, WK, vop, evAll, evOpt, evParts, vbuiltin, vun, vextract, Nat.reduceLT, Nat.reduceEqDiff, ↓reduceIte, reduceCtorEq, Nat.reduceAdd, Int.reduceLT, Int.reduceNeg, valloc_std, noSB, vhot, h10, g8, hlt']
    exact ⟨hR, ⟨w, hM, hO.vals' hC⟩, hA, hk⟩
end Go.Proofs.Ytplhelapcpcncaa.Q

set_option linter.unusedVariables false
set_option linter.unusedSimpArgs false
set_option maxRecDepth 100000
namespace Go.Proofs.Ytplhelapcpcncaa.Q
open Go Go.RowKit Go.Proofs
theorem ref_l2 {σ s4 : St} {s : RS} {n r o4 o7 oF : Nat} {a b c d : V} {cm : List V} {w2 : V} {cs2 : List V} {n2 : Nat} (hl : s.1.length ≤ 400000000) (hn : n < 9223372036854775808) (hr : σ.objs.length ≤ r) (hoF : σ.objs.length ≤ oF) (h1 : o4 ≠ r) (h2 : o7 ≠ r) (h3 : oF ≠ r) (h4 : o4 ≠ oF) (h5 : o7 ≠ oF)
    (r4 : Rdr s4 r s.1 s.2) (m4 : IsV s4 o7 cm) (a4 : IsV s4 o4 [.nils, .nils]) (f4 : IsV s4 oF [a, b, c, d, .nils]) (ho : OwnR 37 5 σ.toks.length s4 w2 cs2 n2) (kσ4 : Keep σ s4)
    {e : Nat → V} (f6 : e 6 = .optr r 0) (f14 : e 14 = .optr oF 0) (f15 : e 15 = .int .i64 (n : Nat)) (f16 : e 16 = .int .i64 0) :
    Ev Try.prog prims 158 (.loop k18_l2) e s4 (fun x e' σ' => x = .exit 4 ∧ Rdr σ' r (rdA rdIns n s).2.1 (rdA rdIns n s).2.2 ∧ (∃ w, IsV σ' oF [a, b, c, d, w] ∧ one w = true ∧ ∀ τ, CodeS τ w (rdA rdIns n s).1) ∧ IsV σ' o7 cm ∧ IsV σ' o4 [.nils, .nils] ∧ OwnR 37 5 σ.toks.length σ' w2 cs2 n2 ∧ Keep σ σ') := by
  have hE := rdIns_eats
  have hml : maxLen = 9223372036854775807 := by simp [maxLen, IntKind.max, IntKind.bits]
  obtain ⟨β, hβ⟩ : ∃ β : St, β = ⟨σ.objs, s4.toks⟩ := ⟨_, rfl⟩
  have kβ4 : Keep β s4 := by rw [hβ]; exact ⟨kσ4.1, Nat.le_refl _, fun _ h => h⟩
  have kσβ : Keep σ β := by rw [hβ]; exact ⟨fun _ _ h => h, kσ4.2⟩
  have hlβ : β.objs.length = σ.objs.length := by rw [hβ]
  have htβ : β.toks = s4.toks := by rw [hβ]
  refine Ev.loopF (fun (i : Nat) e σ' => e 16 = .int .i64 (i : Nat) ∧ i ≤ n ∧ Rdr σ' r (rdA rdIns i s).2.1 (rdA rdIns i s).2.2 ∧ (∃ w, IsV σ' oF [a, b, c, d, w] ∧ OwnR 39 2 β.toks.length σ' w ((rdA rdIns i s).1.flatMap insC) (rdA rdIns i s).1.length) ∧ IsV σ' o7 cm ∧ IsV σ' o4 [.nils, .nils] ∧ Keep β σ') (fun i => n - i) 0
    ⟨by simpa using f16, Nat.zero_le _, r4, ⟨.nils, f4, OwnR.nil⟩, m4, a4, kβ4⟩ ?_
  rintro i e σ' ⟨h16, hi, hR, ⟨w, hF, hO⟩, hM, hA, hk⟩ hfr
  have g6 : e 6 = .optr r 0 := (hfr 6 (by decide)).trans f6
  have g14 : e 14 = .optr oF 0 := (hfr 14 (by decide)).trans f14
  have g15 : e 15 = .int .i64 (n : Nat) := (hfr 15 (by decide)).trans f15
  clear hfr
  have hSl := (rdA_eats hE s i).1
  have hSc := rdA_count hE s i
  have done : ∀ τ, CodeS τ w (rdA rdIns i s).1 := fun τ => .inl hO.row
  have ho' : OwnR 37 5 σ.toks.length σ' w2 cs2 n2 := ho.keep (by rw [← htβ]; exact hk.2.2)
  obtain ⟨bv, _, hbd, _⟩ := hR.parts
  by_cases hlt : i < n
  · have hlt' : (i : Int) < (n : Nat) := by omega
    have hwi : IntKind.i64.wrap ((i : Int) + 1) = ((i + 1 : Nat) : Int) := by rw [show ((i : Int) + 1) = ((i + 1 : Nat) : Int) from by omega]; exact wrap_nat (by omega)
    cases hbad : (rdA rdIns i s).2.2 with
    | true =>
      have hP := rdA_stay hbad n hi
      rw [hbad] at hbd
      simp only [k18_a, WK, vop, evAll, evOpt, evParts, vbuiltin, vun, vextract, Nat.reduceLT, Nat.reduceEqDiff, ↓reduceIte, reduceCtorEq, Nat.reduceAdd, Int.reduceLT, Int.reduceNeg, valloc_std, noSB, vhot, h16, g15, g6, hlt', FB1, hbd]
      rw [hP]
      exact ⟨hR, ⟨w, hF, hO.one', done⟩, hM, hA, ho', kσβ.trans hk⟩
    | false =>
    rw [hbad] at hbd
    have hstep := rdA_step hbad
    generalize rdA rdIns i s = S at *
    obtain ⟨s5, d5, k5, r5⟩ := refnumber_does hR (by omega)
    obtain ⟨p, hp⟩ : ∃ p, p = numS S.2.1 S.2.2 := ⟨_, rfl⟩
    have hpl := numS_len S.2.1 S.2.2
    rw [← hp] at d5 r5 hpl
    have F5 := hF.x k5 h3
    have M5 := hM.x k5 h2
    have A5 := hA.x k5 h1
    have hF5 := F5.lt
    have hM5 := M5.lt
    have hA5 := A5.lt
    have hr5 := r5.lt
    have kβ5 : Keep β s5 := hk.overX2 k5 (by omega)
    obtain ⟨x1, hx1, C1, kx1, lx1⟩ := cell_new s5 [.int .i64 0, .int .i64 0]
    obtain ⟨x2, stx2, C2, kx2, lx2⟩ := cell_all C1 (t := 39) (c' := [.int .i64 (p.1 : Nat), .int .i64 0]) NS rfl rfl
    have hβl : β.objs.length ≤ s5.objs.length := by omega
    have kβx2 : Keep β x2 := (kβ5.trans kx1).overX2 kx2 hβl
    obtain ⟨s6, d6, k6, r6⟩ := refnumber_does ((r5.keep' kx1).keep kx2 (by omega)) (by omega)
    obtain ⟨q, hq⟩ : ∃ q, q = numS p.2.1 p.2.2 := ⟨_, rfl⟩
    rw [← hq] at d6 r6
    have hins : rdIns S.2 = (⟨(p.1 : Nat), (q.1 : Nat)⟩, q.2) := by unfold rdIns; simp only [← hp, ← hq]
    have C6 := C2.x k6 (by omega)
    obtain ⟨x3, stx3, C3, kx3, lx3⟩ := cell_set C6 (j := 1) (by simp) (t := 3) S3 (v := .int .i64 (q.1 : Nat)) rfl
    simp only [List.set_cons_succ, List.set_cons_zero] at C3
    have f6' := (((kx1.atV F5).x kx2 (by omega)).x k6 h3).x kx3 (by omega)
    have m6 := (((kx1.atV M5).x kx2 (by omega)).x k6 h2).x kx3 (by omega)
    have a6 := (((kx1.atV A5).x kx2 (by omega)).x k6 h1).x kx3 (by omega)
    have r6' := r6.keep kx3 (by omega)
    have kβ6 : Keep β x3 := (kβx2.overX2 k6 (by omega)).overX2 kx3 hβl
    have O6 : OwnR 39 2 β.toks.length x3 w (S.1.flatMap insC) S.1.length := ((((hO.keep k5.2.2).keep kx1.2.2).keep kx2.2.2).keep k6.2.2).keep kx3.2.2
    obtain ⟨w', s7, ap7, O7, k7, ob7⟩ := O6.append NRT rfl kβ6 (t2 := 35) (y := .slice .exact 2 [.int .i64 (p.1 : Nat), .int .i64 (q.1 : Nat)] 1) (ys := [.int .i64 (p.1 : Nat), .int .i64 (q.1 : Nat)]) (l := 1) (by simp [vnews, NT]) rfl rfl (by omega) (by omega)
    have f7' := f6'.objs ob7
    obtain ⟨s8, st8, F8, k8, l8⟩ := cell_set f7' (j := 4) (by simp) (t := 35) NsS (v := w') O7.one'
    have ldw : vload Try.prog x3.objs 35 (.optr oF 4) = some w := by rw [vload_obj f6' NsG]; rfl
    have ldi : vload Try.prog x3.objs 39 (.optr s5.objs.length 0) = some (.agg [.int .i64 (p.1 : Nat), .int .i64 (q.1 : Nat)]) := vload_agg C3 NG NS
    simp only [k18_a, WK, vop, evAll, evOpt, evParts, vbuiltin, vun, vextract, Nat.reduceLT, Nat.reduceEqDiff, ↓reduceIte, reduceCtorEq, Nat.reduceAdd, Int.reduceLT, Int.reduceNeg, valloc_std, noSB, vhot, h16, g15, g6, hlt', FB1, hbd]
    refine KD.ret d5 ?_
    simp only [k18_a, WK, vop, evAll, evOpt, evParts, vbuiltin, vun, vextract, Nat.reduceLT, Nat.reduceEqDiff, ↓reduceIte, reduceCtorEq, Nat.reduceAdd, Int.reduceLT, Int.reduceNeg, valloc_std, noSB, vhot, g6, buildN1, NZ, vbox, vcells, ← hx1, stx2]
    refine KD.ret d6 ?_
    simp only [k18_a, WK, vop, evAll, evOpt, evParts, vbuiltin, vun, vextract, Nat.reduceLT, Nat.reduceEqDiff, ↓reduceIte, reduceCtorEq, Nat.reduceAdd, Int.reduceLT, Int.reduceNeg, valloc_std, noSB, vhot, h16, g14, NF1, stx3, FF4', ldw, ldi, build1N, ap7, ob7, st8, hwi]
    refine ⟨i + 1, ⟨by simp [upd_some], by omega, ?_, ⟨w', F8, ?_⟩, (m6.objs ob7).x k8 h5, (a6.objs ob7).x k8 h4, k7.overX2 k8 (by omega)⟩, by omega⟩
    · rw [hstep, hins]; exact (r6'.objs ob7).keep k8 (Ne.symm h3)
    · rw [hstep, hins]
      simp only [List.length_append, List.length_cons, List.length_nil, List.flatMap_append, List.flatMap_cons, List.flatMap_nil, List.append_nil, insC]
      exact O7.keep k8.2.2
  · have hlt' : ¬ (i : Int) < (n : Nat) := by omega
    have : i = n := by omega
    subst this
    simp only [k18_a, WK, vop, evAll, evOpt, evParts, vbuiltin, vun, vextract, Nat.reduceLT, Nat.reduceEqDiff, ↓reduceIte, reduceCtorEq, Nat.reduceAdd, Int.reduceLT, Int.reduceNeg, valloc_std, noSB, vhot, h16, g15, hlt']
    exact ⟨hR, ⟨w, hF, hO.one', done⟩, hM, hA, ho', kσβ.trans hk⟩
theorem ref_l1 {σ s4 : St} {s : RS} {n r o4 o7 : Nat} {w : V} (hl : s.1.length ≤ 400000000) (hn : n < 9223372036854775808) (hr : σ.objs.length ≤ r) (ho4 : σ.objs.length ≤ o4) (ho7 : σ.objs.length ≤ o7) (h1 : o4 ≠ r) (h2 : o7 ≠ r) (h3 : o4 ≠ o7)
    (r4 : Rdr s4 r s.1 s.2) (m4 : IsV s4 o7 [w, .nils]) (a4 : IsV s4 o4 [.nils, .nils]) (kσ4 : Keep σ s4)
    {e : Nat → V} (f6 : e 6 = .optr r 0) (f7 : e 7 = .optr o7 0) (f9 : e 9 = .int .i64 (n : Nat)) (f13 : e 13 = .int .i64 0) :
    Ev Try.prog prims 158 (.loop k18_l1) e s4 (fun x e' σ' => x = .exit 2 ∧ Rdr σ' r (rdA rdFun n s).2.1 (rdA rdFun n s).2.2 ∧ (∃ w2, IsV σ' o7 [w, w2] ∧ ∀ τ, FunsS τ w2 (rdA rdFun n s).1) ∧ IsV σ' o4 [.nils, .nils] ∧ Keep σ σ') := by
  have hE := rdFun_eats
  have hml : maxLen = 9223372036854775807 := by simp [maxLen, IntKind.max, IntKind.bits]
  refine Ev.loopF (fun (i : Nat) e σ' => e 13 = .int .i64 (i : Nat) ∧ i ≤ n ∧ Rdr σ' r (rdA rdFun i s).2.1 (rdA rdFun i s).2.2 ∧ (∃ w2 cs, IsV σ' o7 [w, w2] ∧ OwnR 37 5 σ.toks.length σ' w2 cs (rdA rdFun i s).1.length ∧ FunsC (rdA rdFun i s).1 cs) ∧ IsV σ' o4 [.nils, .nils] ∧ Keep σ σ') (fun i => n - i) 0
    ⟨by simpa using f13, Nat.zero_le _, r4, ⟨.nils, [], m4, OwnR.nil, rfl, fun i hi => by simp [rdA] at hi⟩, a4, kσ4⟩ ?_
  rintro i e σ' ⟨h13, hi, hR, ⟨w2, cs, hM, hO, hC⟩, hA, hk⟩ hfr
  have g6 : e 6 = .optr r 0 := (hfr 6 (by decide)).trans f6
  have g7 : e 7 = .optr o7 0 := (hfr 7 (by decide)).trans f7
  have g9 : e 9 = .int .i64 (n : Nat) := (hfr 9 (by decide)).trans f9
  clear hfr
  have hSl := (rdA_eats hE s i).1
  have hSc := rdA_count hE s i
  obtain ⟨bv, _, hbd, _⟩ := hR.parts
  by_cases hlt : i < n
  · have hlt' : (i : Int) < (n : Nat) := by omega
    have hwi : IntKind.i64.wrap ((i : Int) + 1) = ((i + 1 : Nat) : Int) := by rw [show ((i : Int) + 1) = ((i + 1 : Nat) : Int) from by omega]; exact wrap_nat (by omega)
    cases hbad : (rdA rdFun i s).2.2 with
    | true =>
      have hP := rdA_stay hbad n hi
      rw [hbad] at hbd
      simp only [k18_a, WK, vop, evAll, evOpt, evParts, vbuiltin, vun, vextract, Nat.reduceLT, Nat.reduceEqDiff, ↓reduceIte, reduceCtorEq, Nat.reduceAdd, Int.reduceLT, Int.reduceNeg, valloc_std, noSB, vhot, h13, g9, g6, hlt', FB1, hbd]
      rw [hP]
      exact ⟨hR, ⟨w2, hM, fun τ => hC.row hO τ⟩, hA, hk⟩
    | false =>
    rw [hbad] at hbd
    have hstep := rdA_step hbad
    generalize rdA rdFun i s = S at *
    obtain ⟨t1, d1, k1, q1⟩ := refnumber_does hR (by omega)
    obtain ⟨a, ha⟩ : ∃ a, a = numS S.2.1 S.2.2 := ⟨_, rfl⟩
    have la := numS_len S.2.1 S.2.2
    rw [← ha] at d1 q1 la
    have M1 := hM.x k1 h2
    have A1 := hA.x k1 h1
    have hM1 := M1.lt
    have hA1 := A1.lt
    have hr1 := q1.lt
    have kσ1 : Keep σ t1 := hk.overX2 k1 hr
    have hσl : σ.objs.length ≤ t1.objs.length := by omega
    obtain ⟨u1, hu1, F1, ku1, lu1⟩ := cell_new t1 [.int .i64 0, .int .i64 0, .int .i64 0, .int .i64 0, .nils]
    obtain ⟨u2, st2, F2, ku2, lu2⟩ := cell_all F1 (t := 37) (c' := [.int .i64 (a.1 : Nat), .int .i64 0, .int .i64 0, .int .i64 0, .nils]) FS rfl rfl
    have Q2 := (q1.keep' ku1).keep ku2 (by omega)
    obtain ⟨t3, d3, k3, q3⟩ := refnumber_does Q2 (by omega)
    obtain ⟨b, hb⟩ : ∃ b, b = numS a.2.1 a.2.2 := ⟨_, rfl⟩
    have lb := numS_len a.2.1 a.2.2
    rw [← hb] at d3 q3 lb
    obtain ⟨u3, st3, F3, ku3, lu3⟩ := cell_set (F2.x k3 (by omega)) (j := 1) (by simp) (t := 3) S3 (v := .int .i64 (b.1 : Nat)) rfl
    simp only [List.set_cons_succ, List.set_cons_zero] at F3
    have Q3 := q3.keep ku3 (by omega)
    obtain ⟨t4, d4, k4, q4⟩ := refnumber_does Q3 (by omega)
    obtain ⟨c, hc⟩ : ∃ c, c = numS b.2.1 b.2.2 := ⟨_, rfl⟩
    have lc := numS_len b.2.1 b.2.2
    rw [← hc] at d4 q4 lc
    obtain ⟨u4, st4, F4, ku4, lu4⟩ := cell_set (F3.x k4 (by omega)) (j := 2) (by simp) (t := 3) S3 (v := .int .i64 (c.1 : Nat)) rfl
    simp only [List.set_cons_succ, List.set_cons_zero] at F4
    have Q4 := q4.keep ku4 (by omega)
    obtain ⟨t5, d5, k5, q5⟩ := refnumber_does Q4 (by omega)
    obtain ⟨d, hd⟩ : ∃ d, d = numS c.2.1 c.2.2 := ⟨_, rfl⟩
    have ld := numS_len c.2.1 c.2.2
    rw [← hd] at d5 q5 ld
    obtain ⟨u5, st5, F5, ku5, lu5⟩ := cell_set (F4.x k5 (by omega)) (j := 3) (by simp) (t := 3) S3 (v := .int .i64 (d.1 : Nat)) rfl
    simp only [List.set_cons_succ, List.set_cons_zero] at F5
    have Q5 := q5.keep ku5 (by omega)
    obtain ⟨t7, d7, k7, q7⟩ := refnumber_does Q5 (by omega)
    obtain ⟨z, hz⟩ : ∃ z, z = numS d.2.1 d.2.2 := ⟨_, rfl⟩
    have lz := numS_len d.2.1 d.2.2
    have iz := numS_in d.2.1 d.2.2
    rw [← hz] at d7 q7 lz iz
    have F7 := F5.x k7 (by omega)
    have m7 := (((((((((ku1.atV M1).x ku2 (by omega)).x k3 h2).x ku3 (by omega)).x k4 h2).x ku4 (by omega)).x k5 h2).x ku5 (by omega)).x k7 h2)
    have a7 := (((((((((ku1.atV A1).x ku2 (by omega)).x k3 h1).x ku3 (by omega)).x k4 h1).x ku4 (by omega)).x k5 h1).x ku5 (by omega)).x k7 h1)
    have kσt7 : Keep σ t7 := ((((((((kσ1.trans ku1).overX2 ku2 hσl).overX2 k3 hr).overX2 ku3 hσl).overX2 k4 hr).overX2 ku4 hσl).overX2 k5 hr).overX2 ku5 hσl).overX2 k7 hr
    have O7 : OwnR 37 5 σ.toks.length t7 w2 cs S.1.length := (((((((((hO.keep k1.2.2).keep ku1.2.2).keep ku2.2.2).keep k3.2.2).keep ku3.2.2).keep k4.2.2).keep ku4.2.2).keep k5.2.2).keep ku5.2.2).keep k7.2.2
    have hfun : rdFun S.2 = (⟨(a.1 : Nat), (b.1 : Nat), (c.1 : Nat), (d.1 : Nat), (rdA rdIns z.1 z.2).1⟩, (rdA rdIns z.1 z.2).2) := by unfold rdFun; simp only [← ha, ← hb, ← hc, ← hd, ← hz]
    simp only [k18_a, WK, vop, evAll, evOpt, evParts, vbuiltin, vun, vextract, Nat.reduceLT, Nat.reduceEqDiff, ↓reduceIte, reduceCtorEq, Nat.reduceAdd, Int.reduceLT, Int.reduceNeg, valloc_std, noSB, vhot, h13, g9, g6, hlt', FB1, hbd]
    refine KD.ret d1 ?_
    simp only [k18_a, WK, vop, evAll, evOpt, evParts, vbuiltin, vun, vextract, Nat.reduceLT, Nat.reduceEqDiff, ↓reduceIte, reduceCtorEq, Nat.reduceAdd, Int.reduceLT, Int.reduceNeg, valloc_std, noSB, vhot, g6, buildF1, FZ, vbox, vcells, ← hu1, st2]
    refine KD.ret d3 ?_
    simp only [k18_a, WK, vop, evAll, evOpt, evParts, vbuiltin, vun, vextract, Nat.reduceLT, Nat.reduceEqDiff, ↓reduceIte, reduceCtorEq, Nat.reduceAdd, Int.reduceLT, Int.reduceNeg, valloc_std, noSB, vhot, g6, FF1', st3]
    refine KD.ret d4 ?_
    simp only [k18_a, WK, vop, evAll, evOpt, evParts, vbuiltin, vun, vextract, Nat.reduceLT, Nat.reduceEqDiff, ↓reduceIte, reduceCtorEq, Nat.reduceAdd, Int.reduceLT, Int.reduceNeg, valloc_std, noSB, vhot, g6, FF2', st4]
    refine KD.ret d5 ?_
    simp only [k18_a, WK, vop, evAll, evOpt, evParts, vbuiltin, vun, vextract, Nat.reduceLT, Nat.reduceEqDiff, ↓reduceIte, reduceCtorEq, Nat.reduceAdd, Int.reduceLT, Int.reduceNeg, valloc_std, noSB, vhot, g6, FF3', st5]
    refine KD.ret d7 ?_
    simp only [k18_a, WK, vop, evAll, evOpt, evParts, vbuiltin, vun, vextract, Nat.reduceLT, Nat.reduceEqDiff, ↓reduceIte, reduceCtorEq, Nat.reduceAdd, Int.reduceLT, Int.reduceNeg, valloc_std, noSB, vhot]
    refine Ev.cut (ref_l2 (s := z.2) (n := z.1) (by omega) (by omega) hr hσl h1 h2 (by omega) (by omega) (by omega) q7 m7 a7 F7 O7 kσt7 (by simp [upd_some, g6]) (by simp [upd_some]) (by simp [upd_some]) (by simp [upd_some])) ?_
    rintro x e' t8 ⟨rfl, q8, ⟨wc, F8, hwc1, hwc⟩, m8, a8, O8, k8⟩ hfr
    have j7 : e' 7 = .optr o7 0 := (hfr 7 (by decide)).trans (by simp [upd_some, g7])
    have j13 : e' 13 = .int .i64 (i : Nat) := (hfr 13 (by decide)).trans (by simp [upd_some, h13])
    have j14 : e' 14 = .optr t1.objs.length 0 := (hfr 14 (by decide)).trans (by simp [upd_some])
    clear hfr
    have hFS : ∀ τ, FunS τ ⟨(a.1 : Nat), (b.1 : Nat), (c.1 : Nat), (d.1 : Nat), (rdA rdIns z.1 z.2).1⟩ [.int .i64 (a.1 : Nat), .int .i64 (b.1 : Nat), .int .i64 (c.1 : Nat), .int .i64 (d.1 : Nat), wc] := fun τ => ⟨wc, rfl, hwc τ⟩
    obtain ⟨w2', t9, ap9, O9, k9, ob9⟩ := O8.append FRT rfl k8 (t2 := 23) (y := .slice .exact 5 [.int .i64 (a.1 : Nat), .int .i64 (b.1 : Nat), .int .i64 (c.1 : Nat), .int .i64 (d.1 : Nat), wc] 1) (ys := [.int .i64 (a.1 : Nat), .int .i64 (b.1 : Nat), .int .i64 (c.1 : Nat), .int .i64 (d.1 : Nat), wc]) (l := 1) (by simp [vnews, FT]) rfl (by simp only [List.all_cons, List.all_nil, hwc1]; rfl) (by omega) (by omega)
    have m9 := m8.objs ob9
    obtain ⟨t10, st10, m10, k10, l10⟩ := cell_set m9 (j := 1) (by simp) (t := 23) FsS (v := w2') O9.one'
    have ldw : vload Try.prog t8.objs 23 (.optr o7 1) = some w2 := by rw [vload_obj m8 FsG]; rfl
    have ldF : vload Try.prog t8.objs 37 (.optr t1.objs.length 0) = some (.agg [.int .i64 (a.1 : Nat), .int .i64 (b.1 : Nat), .int .i64 (c.1 : Nat), .int .i64 (d.1 : Nat), wc]) := vload_agg F8 FG FS
    simp only [k18_a, WK, vop, evAll, evOpt, evParts, vbuiltin, vun, vextract, Nat.reduceLT, Nat.reduceEqDiff, ↓reduceIte, reduceCtorEq, Nat.reduceAdd, Int.reduceLT, Int.reduceNeg, valloc_std, noSB, vhot, j7, j13, j14, MF1, ldw, ldF, build1F, ap9, ob9, st10, hwi]
    refine ⟨i + 1, ⟨by simp [upd_some], by omega, ?_, ⟨w2', cs ++ [.int .i64 (a.1 : Nat), .int .i64 (b.1 : Nat), .int .i64 (c.1 : Nat), .int .i64 (d.1 : Nat), wc], m10, ?_, ?_⟩, (a8.objs ob9).x k10 h3, k9.overX2 k10 ho7⟩, by omega⟩
    · rw [hstep, hfun]; exact (q8.objs ob9).keep k10 (Ne.symm h2)
    · rw [hstep, hfun]
      simp only [List.length_append, List.length_cons, List.length_nil]
      exact O9.keep k10.2.2
    · rw [hstep, hfun]
      exact hC.snoc hFS rfl
  · have hlt' : ¬ (i : Int) < (n : Nat) := by omega
    have : i = n := by omega
    subst this
    simp only [k18_a, WK, vop, evAll, evOpt, evParts, vbuiltin, vun, vextract, Nat.reduceLT, Nat.reduceEqDiff, ↓reduceIte, reduceCtorEq, Nat.reduceAdd, Int.reduceLT, Int.reduceNeg, valloc_std, noSB, vhot, h13, g9, hlt']
    exact ⟨hR, ⟨w2, hM, fun τ => hC.row hO τ⟩, hA, hk⟩
theorem crefdecode_does {v : V} {bs : List UInt8} (hv : BtsV v bs) (hl : bs.length ≤ 400000000) (st : Int) (σ : St) :
    ∃ c σ', Does Try.prog prims 18 [v, .int .i64 st] σ (.ret (.tuple [.agg c, .int .i64 (decM bs st).2])) σ' ∧ Keep σ σ' ∧ ∀ τ, MdlS τ (decM bs st).1 c := by
  have key : ∃ q σ', Does Try.prog prims 18 [v, .int .i64 st] σ q σ' ∧ ∃ c, q = .ret (.tuple [.agg c, .int .i64 (decM bs st).2]) ∧ Keep σ σ' ∧ ∀ τ, MdlS τ (decM bs st).1 c := by
    apply k18_is.does (by simp)
    have hml : maxLen = 9223372036854775807 := by simp [maxLen, IntKind.max, IntKind.bits]
    obtain ⟨s0, hs0, a0, k0, l0⟩ := cell_new σ [V.nils, .nils]
    have ho0 : OwnV 5 s0.toks.length s0 (.slice .exact 1 [] 0) [] := .inr ⟨_, rfl, .inl rfl⟩
    obtain ⟨vb, s1, ap1, O1, k1, ob1⟩ := ho0.append' BT rfl (Keep.refl s0) T22 hv (by simp; omega)
    rw [List.nil_append] at O1
    have a1 := a0.objs ob1
    obtain ⟨s1b, hs1b, R1, k1b, l1b⟩ := cell_new s1 [vb, .bool false]
    have r1 : Rdr s1b s1.objs.length bs false := ⟨vb, R1, O1.bts⟩
    obtain ⟨r, hr⟩ : ∃ r, r = s1.objs.length := ⟨_, rfl⟩
    rw [← hr] at r1 R1
    have hl1 : s1.objs.length = s0.objs.length := by rw [ob1]
    obtain ⟨s2, hs2, M2, k2, l2⟩ := cell_new s1b [V.nils, .nils]
    obtain ⟨s2b, st2, m2, k2b, l2b⟩ := cell_all M2 (t := 25) (c' := [.nils, .nils]) MS rfl rfl
    have a2 := (k2.atV (k1b.atV a1)).x k2b (by omega)
    have r2 := (r1.keep' k2).keep k2b (by omega)
    obtain ⟨s3, d3, k3, r3⟩ := refnumber_does r2 (by omega)
    obtain ⟨c, hc⟩ : ∃ c, c = numS bs false := ⟨_, rfl⟩
    have hn1 := numS_len bs false
    have in1 := numS_in bs false
    rw [← hc] at d3 r3 hn1 in1
    obtain ⟨s4, d4, k4, r4⟩ := refnumber_does r3 (by omega)
    obtain ⟨f, hf⟩ : ∃ f, f = numS c.2.1 c.2.2 := ⟨_, rfl⟩
    have hn2 := numS_len c.2.1 c.2.2
    have in2 := numS_in c.2.1 c.2.2
    rw [← hf] at d4 r4 hn2 in2
    have m4 := (m2.x k3 (by omega)).x k4 (by omega)
    have a4 := (a2.x k3 (by omega)).x k4 (by omega)
    have kσ4 : Keep σ s4 := (((((k0.trans k1).trans k1b).trans k2).overX2 k2b (by omega)).overX2 k3 (by omega)).overX2 k4 (by omega)
    have hmd : rdMdl bs = (⟨(rdA rdConst c.1 f.2).1, (rdA rdFun f.1 (rdA rdConst c.1 f.2).2).1⟩, (rdA rdFun f.1 (rdA rdConst c.1 f.2).2).2) := by unfold rdMdl; simp only [← hc, ← hf]
    have hin := rdMdl_in bs
    have hPl := (rdA_eats rdConst_eats f.2 c.1).1
    have hQl := (rdA_eats rdFun_eats (rdA rdConst c.1 f.2).2 f.1).1
    simp only [k18_a, WK, vop, evAll, evOpt, evParts, vbuiltin, vun, vextract, Nat.reduceLT, Nat.reduceEqDiff, ↓reduceIte, reduceCtorEq, Nat.reduceAdd, Int.reduceLT, Int.reduceNeg, valloc_std, noSB, vhot, List.getD_cons_zero, List.getD_cons_succ, MZ', vbox, vcells, ← hs0, build0 BT, ap1, BV vb O1.bts.one, ← hs1b, MB0, ← hs2, st2, ← hr]
    refine KD.ret d3 ?_
    simp only [k18_a, WK, vop, evAll, evOpt, evParts, vbuiltin, vun, vextract, Nat.reduceLT, Nat.reduceEqDiff, ↓reduceIte, reduceCtorEq, Nat.reduceAdd, Int.reduceLT, Int.reduceNeg, valloc_std, noSB, vhot]
    refine KD.ret d4 ?_
    simp only [k18_a, WK, vop, evAll, evOpt, evParts, vbuiltin, vun, vextract, Nat.reduceLT, Nat.reduceEqDiff, ↓reduceIte, reduceCtorEq, Nat.reduceAdd, Int.reduceLT, Int.reduceNeg, valloc_std, noSB, vhot]
    refine Ev.cut (ref_l0 (σ := σ) (s := f.2) (n := c.1) (r := r) (o4 := σ.objs.length) (o7 := s1b.objs.length) (by omega) (by omega) (by omega) (by omega) (by omega) (by omega) (by omega) (by omega) r4 m4 a4 kσ4 (by simp [upd_some]) (by simp [upd_some]) (by simp [upd_some]) (by simp [upd_some])) ?_
    rintro x e s5 ⟨rfl, r5, ⟨w, m5, hw⟩, a5, k5⟩ hfr
    have g0 : e 0 = v := (hfr 0 (by decide)).trans (by simp [upd_some])
    have g1 : e 1 = .int .i64 st := (hfr 1 (by decide)).trans (by simp [upd_some])
    have g4 : e 4 = .optr σ.objs.length 0 := (hfr 4 (by decide)).trans (by simp [upd_some])
    have g6 : e 6 = .optr r 0 := (hfr 6 (by decide)).trans (by simp [upd_some])
    have g7 : e 7 = .optr s1b.objs.length 0 := (hfr 7 (by decide)).trans (by simp [upd_some])
    have g9 : e 9 = .int .i64 (f.1 : Nat) := (hfr 9 (by decide)).trans (by simp [upd_some])
    clear hfr
    generalize rdA rdConst c.1 f.2 = P at *
    simp only [k18_a, WK, vop, evAll, evOpt, evParts, vbuiltin, vun, vextract, Nat.reduceLT, Nat.reduceEqDiff, ↓reduceIte, reduceCtorEq, Nat.reduceAdd, Int.reduceLT, Int.reduceNeg, valloc_std, noSB, vhot]
    refine Ev.cut (ref_l1 (σ := σ) (s := P.2) (n := f.1) (r := r) (o4 := σ.objs.length) (o7 := s1b.objs.length) (by omega) (by omega) (by omega) (by omega) (by omega) (by omega) (by omega) (by omega) r5 m5 a5 k5 (by simp [upd_some, g6]) (by simp [upd_some, g7]) (by simp [upd_some, g9]) (by simp [upd_some])) ?_
    rintro x e' s6 ⟨rfl, r6, ⟨w2, m6, hw2⟩, a6, k6⟩ hfr
    have j0 : e' 0 = v := (hfr 0 (by decide)).trans (by simp [upd_some, g0])
    have j1 : e' 1 = .int .i64 st := (hfr 1 (by decide)).trans (by simp [upd_some, g1])
    have j4 : e' 4 = .optr σ.objs.length 0 := (hfr 4 (by decide)).trans (by simp [upd_some, g4])
    have j6 : e' 6 = .optr r 0 := (hfr 6 (by decide)).trans (by simp [upd_some, g6])
    have j7 : e' 7 = .optr s1b.objs.length 0 := (hfr 7 (by decide)).trans (by simp [upd_some, g7])
    clear hfr g0 g1 g4 g6 g7 g9
    generalize rdA rdFun f.1 P.2 = Q at *
    obtain ⟨bv, hbv, hbad, hbb⟩ := r6.parts
    have hbl := hbv.len T22
    have zero : ∀ s : St, IsV s σ.objs.length [.nils, .nils] → Keep σ s → ∃ s', vstore Try.prog s 25 (.optr σ.objs.length 0) (.agg [.nils, .nils]) = some s' ∧ vload Try.prog s'.objs 25 (.optr σ.objs.length 0) = some (.agg [.nils, .nils]) ∧ Keep σ s' := by
      intro s hs hk
      obtain ⟨s', h1, h2, h3, _⟩ := cell_all hs (t := 25) (c' := [.nils, .nils]) MS rfl rfl
      exact ⟨s', h1, vload_agg h2 MG MS, hk.overX2 h3 (Nat.le_refl _)⟩
    by_cases hgood : Q.2.2 = false ∧ Q.2.1 = []
    · have hgood' : (rdMdl bs).2.2 = false ∧ (rdMdl bs).2.1 = [] := by rw [hmd]; exact hgood
      have hq0 : ¬ (0 : Int) < ((Q.2.1.length : Nat) : Int) := by rw [hgood.2]; decide
      have hmS : ∀ τ, MdlS τ (rdMdl bs).1 [w, w2] := fun τ => by rw [hmd]; exact ⟨w, w2, rfl, hw, hw2 τ⟩
      have ldm : vload Try.prog s6.objs 25 (.optr s1b.objs.length 0) = some (.agg [w, w2]) := vload_agg m6 MG MS
      have hww : ∀ v ∈ (rdMdl bs).1.consts, weight v ≤ 4294967296 := fun v hv => by have := weights_mem hv; have := hin.cw; omega
      obtain ⟨z, s7, d7, k7, hz⟩ := crefverify_does (hmS s6) st hww
      have a7 := k7.atV a6
      have m7 := k7.atV m6
      have k67 := k6.trans k7
      rw [hgood.1] at hbad
      simp only [k18_a, WK, vop, evAll, evOpt, evParts, vbuiltin, vun, vextract, Nat.reduceLT, Nat.reduceEqDiff, ↓reduceIte, reduceCtorEq, Nat.reduceAdd, Int.reduceLT, Int.reduceNeg, valloc_std, noSB, vhot, j6, j7, j1, FB0, FB1, hbad, hbb, hbl, hq0, ldm]
      refine KD.ret d7 ?_
      rcases hz with ⟨rfl, hok⟩ | ⟨rfl, hno⟩
      · have ldm7 : vload Try.prog s7.objs 25 (.optr s1b.objs.length 0) = some (.agg [w, w2]) := vload_agg m7 MG MS
        obtain ⟨x, s8, d8, k8, hx⟩ := crefbytes_does (hmS s7) hin (by omega) hok
        have a8 := k8.atV a7
        have m8 := k8.atV m7
        have k68 := k67.trans k8
        have ldm8 : vload Try.prog s8.objs 25 (.optr s1b.objs.length 0) = some (.agg [w, w2]) := vload_agg m8 MG MS
        simp only [k18_a, WK, vop, evAll, evOpt, evParts, vbuiltin, vun, vextract, Nat.reduceLT, Nat.reduceEqDiff, ↓reduceIte, reduceCtorEq, Nat.reduceAdd, Int.reduceLT, Int.reduceNeg, valloc_std, noSB, vhot, eq_self, decide_true, Bool.not_true, j7, ldm7]
        refine KD.ret d8 ?_
        by_cases heq : encM (rdMdl bs).1 = bs
        · rw [decM_ok hgood' hok heq]
          obtain ⟨s9, st9, a9, k9, _⟩ := cell_all a8 (t := 25) (c' := [w, w2]) MS rfl (by have h1 := hw.one; obtain ⟨cs, h2, _⟩ := hw2 s8; simp only [List.all_cons, List.all_nil, h1, h2.one]; rfl)
          have hd : decide (encM (rdMdl bs).1 = bs) = true := decide_eq_true heq
          simp only [k18_a, WK, vop, evAll, evOpt, evParts, vbuiltin, vun, vextract, Nat.reduceLT, Nat.reduceEqDiff, ↓reduceIte, reduceCtorEq, Nat.reduceAdd, Int.reduceLT, Int.reduceNeg, valloc_std, noSB, vhot, j0, j4, j7, hx.str T22 CU27 T9, hv.str T22 CU27 T9, strBin, hd, eq_self, decide_true, Bool.not_true, ldm7, ldm8, st9, vload_agg a9 MG MS]
          exact ⟨[w, w2], rfl, k68.overX2 k9 (Nat.le_refl _), hmS⟩
        · rw [decM_other hgood' hok heq]
          obtain ⟨s9, st9, ld9, k9⟩ := zero s8 a8 k68
          have hd : decide (encM (rdMdl bs).1 = bs) = false := decide_eq_false heq
          simp only [k18_a, WK, vop, evAll, evOpt, evParts, vbuiltin, vun, vextract, Nat.reduceLT, Nat.reduceEqDiff, ↓reduceIte, reduceCtorEq, Nat.reduceAdd, Int.reduceLT, Int.reduceNeg, valloc_std, noSB, vhot, j0, j4, j7, hx.str T22 CU27 T9, hv.str T22 CU27 T9, strBin, hd, eq_self, decide_true, Bool.not_true, Bool.not_false, ldm7, ldm8, MB0, st9, ld9]
          exact ⟨_, rfl, k9, mdl_none⟩
      · rw [decM_no hgood' hno]
        obtain ⟨s8, st8, ld8, k8⟩ := zero s7 a7 k67
        simp only [k18_a, WK, vop, evAll, evOpt, evParts, vbuiltin, vun, vextract, Nat.reduceLT, Nat.reduceEqDiff, ↓reduceIte, reduceCtorEq, Nat.reduceAdd, Int.reduceLT, Int.reduceNeg, valloc_std, noSB, vhot, j4, (show ((40 : Int) = 0) = False from by simp), decide_false, Bool.not_false, MB0, st8, ld8]
        exact ⟨_, rfl, k8, mdl_none⟩
    · rw [decM_bad st (by rw [hmd]; exact hgood)]
      obtain ⟨s8, st8, ld8, k8⟩ := zero s6 a6 k6
      cases hqb : Q.2.2 with
      | true =>
        rw [hqb] at hbad
        simp only [k18_a, WK, vop, evAll, evOpt, evParts, vbuiltin, vun, vextract, Nat.reduceLT, Nat.reduceEqDiff, ↓reduceIte, reduceCtorEq, Nat.reduceAdd, Int.reduceLT, Int.reduceNeg, valloc_std, noSB, vhot, j6, j4, FB0, FB1, hbad, hbb, hbl, MB0, st8, ld8]
        exact ⟨_, rfl, k8, mdl_none⟩
      | false =>
        rw [hqb] at hbad
        have hq0 : (0 : Int) < ((Q.2.1.length : Nat) : Int) := by
          have : Q.2.1 ≠ [] := fun h => hgood ⟨hqb, h⟩
          have := List.length_pos_iff.2 this
          omega
        simp only [k18_a, WK, vop, evAll, evOpt, evParts, vbuiltin, vun, vextract, Nat.reduceLT, Nat.reduceEqDiff, ↓reduceIte, reduceCtorEq, Nat.reduceAdd, Int.reduceLT, Int.reduceNeg, valloc_std, noSB, vhot, j6, j4, FB0, FB1, hbad, hbb, hbl, hq0, MB0, st8, ld8]
        exact ⟨_, rfl, k8, mdl_none⟩
  obtain ⟨q, σ', h1, c, rfl, h2⟩ := key
  exact ⟨c, σ', h1, h2⟩
end Go.Proofs.Ytplhelapcpcncaa.Q

set_option linter.unusedVariables false
namespace Go.Proofs.Ytplhelapcpcncaa.Q
open Go Go.RowKit Go.Proofs
set_option maxRecDepth 100000 in
theorem wakes_run1 (a : List V) : ((vcall Try.prog prims 2000 8 [] ⟨[.cells a], []⟩).map fun r => (isTrue (some r), r.2.objs.take 1)) = some (true, [.cells a]) := by kernel_rfl
theorem wakes_does1 (a : List V) : ∃ σ, Does Try.prog prims 8 [] ⟨[.cells a], []⟩ (.ret (.bool true)) σ ∧ Keep ⟨[.cells a], []⟩ σ := by
  have h := wakes_run1 a
  rw [Option.map_eq_some_iff] at h
  obtain ⟨r, h1, h2⟩ := h
  injection h2 with h2 h3
  obtain ⟨σ, h4⟩ := isTrue_eq h2
  injection h4 with h4
  subst h4
  refine ⟨σ, ⟨2000, h1⟩, fun q o ho => ?_, Nat.zero_le _, fun k hk => by simp [tokLive] at hk⟩
  have hq := (List.getElem?_eq_some_iff.1 ho).1
  simp only at h3 ho hq
  rw [← h3, List.getElem?_take] at ho
  split at ho
  · exact ho
  · cases ho
end Go.Proofs.Ytplhelapcpcncaa.Q

/- CodeVerifies: for every input of bulk at most 1048576 the law answers true. -/
set_option linter.unusedVariables false
set_option linter.unusedSimpArgs false
namespace Go.Proofs.Ytplhelapcpcncaa.Q
open Go Go.RowKit Go.Proofs
end Go.Proofs.Ytplhelapcpcncaa.Q

/- CodeBytes: for every input of bulk at most 1048576 the law answers true. -/
set_option linter.unusedVariables false
set_option linter.unusedSimpArgs false
namespace Go.Proofs.Ytplhelapcpcncaa.Q
open Go Go.RowKit Go.Proofs
theorem decM_in (bs : List UInt8) (st : Int) : MIn (decM bs st).1 (2 * bs.length + 2) := by
  have none : MIn ⟨[], []⟩ (2 * bs.length + 2) := ⟨by simp [weights], by simp, by simp⟩
  by_cases h : (rdMdl bs).2.2 = false ∧ (rdMdl bs).2.1 = []
  · by_cases h2 : MdlOk (rdMdl bs).1 st
    · by_cases h3 : encM (rdMdl bs).1 = bs
      · rw [decM_ok h h2 h3]; exact rdMdl_in bs
      · rw [decM_other h h2 h3]; exact none
    · rw [decM_no h h2]; exact none
  · rw [decM_bad st h]; exact none
theorem enc_same {x y : V} {z z' : Int} {m : Mdl} {st : Int} (h1 : (z = 0 ∧ MdlOk m st ∧ BtsV x (encM m)) ∨ (z = 40 ∧ ¬ MdlOk m st ∧ x = .nils)) (h2 : (z' = 0 ∧ MdlOk m st ∧ BtsV y (encM m)) ∨ (z' = 40 ∧ ¬ MdlOk m st ∧ y = .nils)) : z = z' ∧ ∃ b, BtsV x b ∧ BtsV y b := by
  rcases h1 with ⟨rfl, h1, h3⟩ | ⟨rfl, h1, rfl⟩ <;> rcases h2 with ⟨rfl, h2, h4⟩ | ⟨rfl, h2, rfl⟩
  · exact ⟨rfl, _, h3, h4⟩
  · exact absurd h1 h2
  · exact absurd h2 h1
  · exact ⟨rfl, [], BtsV.nil, BtsV.nil⟩
set_option maxRecDepth 100000 in
theorem cbytes_true : LawTrue Try.prog prims 5 [25, 3, 41] := by
  intro xs hA hb
  match xs, hA with
  | [x, y, z], ⟨hx, hy, hz, _⟩ =>
    obtain ⟨m, c, rfl, hm, hM⟩ := mdl_arg hx
    obtain ⟨st, rfl, hst⟩ := int_arg T3 hy
    obtain ⟨bs, hv, hbl⟩ := bytes_arg T22 T5 C5 hz
    simp only [vbulks] at hb
    have hB : vbulk (.agg c) ≤ 1000000000 := by omega
    have key : ∃ r σ', Does Try.prog prims 5 [.agg c, .int .i64 st, z] st0 r σ' ∧ r = .ret (.bool true) := by
      apply k5_is.does (by simp)
      obtain ⟨s1, hs1⟩ : ∃ s1 : St, s1 = ⟨st0.objs ++ [Ob.cells c], st0.toks⟩ := ⟨_, rfl⟩
      have o1 : s1.objs[0]? = some (.cells c) := by rw [hs1]; rfl
      obtain ⟨s2, d2, k2⟩ := wakes_does1 c
      have e1 : (⟨[Ob.cells c], []⟩ : St) = s1 := by rw [hs1]; rfl
      rw [e1] at d2 k2
      have L : ∀ s', Keep s1 s' → vload Try.prog s'.objs 25 (.optr 0 0) = some (.agg c) := fun s' hk => vload_agg (hk.1 _ _ o1) MG (by rw [(hm st0).len]; exact MS)
      obtain ⟨b, s3, d3, k3⟩ := large_does (hm s2) hM (by omega)
      have k13 := k2.trans k3
      simp only [k5_a, WK, vop, evAll, evOpt, evParts, vbuiltin, vun, vextract, Nat.reduceLT, Nat.reduceEqDiff, ↓reduceIte, reduceCtorEq, Nat.reduceAdd, Int.reduceLT, Int.reduceNeg, valloc_std, noSB, vhot, List.getD_cons_zero, List.getD_cons_succ, vbox, vcells, List.length_nil, show st0.objs.length = 0 from rfl, ← hs1]
      refine KD.ret d2 ?_
      simp only [k5_a, WK, vop, evAll, evOpt, evParts, vbuiltin, vun, vextract, Nat.reduceLT, Nat.reduceEqDiff, ↓reduceIte, reduceCtorEq, Nat.reduceAdd, Int.reduceLT, Int.reduceNeg, valloc_std, noSB, vhot, L s2 k2]
      refine KD.ret d3 ?_
      cases b with
      | true => simp only [k5_a, WK, vop, evAll, evOpt, evParts, vbuiltin, vun, vextract, Nat.reduceLT, Nat.reduceEqDiff, ↓reduceIte, reduceCtorEq, Nat.reduceAdd, Int.reduceLT, Int.reduceNeg, valloc_std, noSB, vhot]
      | false =>
      by_cases hbig : (8192 : Int) < (bs.length : Nat)
      · simp only [k5_a, WK, vop, evAll, evOpt, evParts, vbuiltin, vun, vextract, Nat.reduceLT, Nat.reduceEqDiff, ↓reduceIte, reduceCtorEq, Nat.reduceAdd, Int.reduceLT, Int.reduceNeg, valloc_std, noSB, vhot, hv.len T22, hbig]
      have hin := decM_in bs st
      obtain ⟨x4, z4, s4, d4, k4, h4⟩ := cencode_does (hm s3) hM hB st
      obtain ⟨x5, z5, s5, d5, k5, h5⟩ := crefencode_does (hm s4) hM hB st
      obtain ⟨hzz, B, b4, b5⟩ := enc_same h4 h5
      subst hzz
      obtain ⟨c6, s6, d6, k6, m6⟩ := cdecode_does hv (by omega) st s5
      obtain ⟨s7, hs7, i7, k7, l7⟩ := cell_new s6 [V.nils, .nils]
      obtain ⟨s8, st8, i8, k8, l8⟩ := cell_all i7 (t := 25) (c' := c6) (by rw [(m6 s7).len]; exact MS) (by rw [(m6 s7).len]; rfl) (by
        obtain ⟨w1, w2, h1, h2, h3⟩ := m6 s7
        rw [h1]
        obtain ⟨cs, h3, _⟩ := h3
        simp only [List.all_cons, List.all_nil, h2.one, h3.one]; rfl)
      obtain ⟨c9, s9, d9, k9, m9⟩ := crefdecode_does hv (by omega) st s8
      obtain ⟨s10, hs10, i10, k10, l10⟩ := cell_new s9 [V.nils, .nils]
      obtain ⟨s11, st11, i11, k11, l11⟩ := cell_all i10 (t := 25) (c' := c9) (by rw [(m9 s10).len]; exact MS) (by rw [(m9 s10).len]; rfl) (by
        obtain ⟨w1, w2, h1, h2, h3⟩ := m9 s10
        rw [h1]
        obtain ⟨cs, h3, _⟩ := h3
        simp only [List.all_cons, List.all_nil, h2.one, h3.one]; rfl)
      have i8' := ((k10.atV (k9.atV i8)).x k11 (by have := i8.lt; have := (k9.atV i8).lt; omega))
      have ld8 : vload Try.prog s11.objs 25 (.optr s6.objs.length 0) = some (.agg c6) := vload_agg i8' MG (by rw [(m6 s7).len]; exact MS)
      have ld11 : vload Try.prog s11.objs 25 (.optr s9.objs.length 0) = some (.agg c9) := vload_agg i11 MG (by rw [(m9 s7).len]; exact MS)
      obtain ⟨s12, d12, k12⟩ := csame_does (m6 s11) (m9 s11) hin (by omega)
      simp only [k5_a, WK, vop, evAll, evOpt, evParts, vbuiltin, vun, vextract, Nat.reduceLT, Nat.reduceEqDiff, ↓reduceIte, reduceCtorEq, Nat.reduceAdd, Int.reduceLT, Int.reduceNeg, valloc_std, noSB, vhot, hv.len T22, hbig, L s3 k13]
      refine KD.ret d4 ?_
      simp only [k5_a, WK, vop, evAll, evOpt, evParts, vbuiltin, vun, vextract, Nat.reduceLT, Nat.reduceEqDiff, ↓reduceIte, reduceCtorEq, Nat.reduceAdd, Int.reduceLT, Int.reduceNeg, valloc_std, noSB, vhot, L s4 (k13.trans k4)]
      refine KD.ret d5 ?_
      simp only [k5_a, WK, vop, evAll, evOpt, evParts, vbuiltin, vun, vextract, Nat.reduceLT, Nat.reduceEqDiff, ↓reduceIte, reduceCtorEq, Nat.reduceAdd, Int.reduceLT, Int.reduceNeg, valloc_std, noSB, vhot]
      refine KD.ret d6 ?_
      simp only [k5_a, WK, vop, evAll, evOpt, evParts, vbuiltin, vun, vextract, Nat.reduceLT, Nat.reduceEqDiff, ↓reduceIte, reduceCtorEq, Nat.reduceAdd, Int.reduceLT, Int.reduceNeg, valloc_std, noSB, vhot, MZ', vbox, vcells, ← hs7, st8]
      refine KD.ret d9 ?_
      simp only [k5_a, WK, vop, evAll, evOpt, evParts, vbuiltin, vun, vextract, Nat.reduceLT, Nat.reduceEqDiff, ↓reduceIte, reduceCtorEq, Nat.reduceAdd, Int.reduceLT, Int.reduceNeg, valloc_std, noSB, vhot, MZ', vbox, vcells, ← hs10, st11, b4.str T22 CU27 T9, b5.str T22 CU27 T9, strBin, eq_self, decide_true, ld8, ld11]
      refine KD.ret d12 ?_
      simp only [k5_a, WK, vop, evAll, evOpt, evParts, vbuiltin, vun, vextract, Nat.reduceLT, Nat.reduceEqDiff, ↓reduceIte, reduceCtorEq, Nat.reduceAdd, Int.reduceLT, Int.reduceNeg, valloc_std, noSB, vhot, eq_self, decide_true]
    obtain ⟨r, σ', ⟨n, h⟩, rfl⟩ := key
    exact ⟨n, σ', h⟩
end Go.Proofs.Ytplhelapcpcncaa.Q

