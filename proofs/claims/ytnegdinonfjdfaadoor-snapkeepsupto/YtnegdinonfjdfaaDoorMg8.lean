/- A part of the proof: Ua, Ub, Uc, Ud, Ue, Sg, Uk, Lw. -/
import Derived.Test.YtnegdinonfjdfaaDoorMg7
import Derived.Test.YtnegdinonfjdfaaDoorMg6
import Derived.Test.YtnegdinonfjdfaaDoorCards
import Derived.Test.YtnegdinonfjdfaaDoorTie
import Derived.WalkKit
import Derived.ProofKit
import Derived.OpenShut
import Derived.Deep.DeepHandedRow
import Derived.Deep.DeepWitnessRowRef
import Derived.Lib.LaidTab
import Derived.LaidSub
import Derived.Stop.LaidErr
set_option linter.unusedVariables false
set_option linter.unusedSimpArgs false
set_option maxRecDepth 100000
namespace Go.Proofs.YtnegdinonfjdfaaDoor.Q
open Go Go.RowKit Go.Proofs
def numZ (name : List UInt8) : Int := match numP 115 name with
  | some m => (m : Int)
  | none => -1
theorem T97 : Tryd.prog.underlying 97 = some (.interface #[("Error", 159)]) := by kernel_rfl
theorem neq_inil {t : TypeId} {v : V} {xo : Operand} : vbin Tryd.prog .neq 97 xo (.const .nilIface) (.iface t v) .nili = some (.bool true) := by
  simp [vbin, bothSame, guardFree, aggEq, T97]
theorem neq_nilnil {xo : Operand} : vbin Tryd.prog .neq 97 xo (.const .nilIface) .nili .nili = some (.bool false) := by
  simp [vbin, bothSame, guardFree, aggEq, T97, isC]
theorem number_sees {σ : St} (name : List UInt8) : ∃ q σ', Does Tryd.prog prims 50 [.str name] σ q σ' ∧ q = .ret (.int .i64 (numZ name)) ∧ KS [] σ σ' := by
  apply k50_is.does (by simp)
  have hl := vlenS name
  have oni : ofVal Value.nilIface = some .nili := rfl
  by_cases h10 : name.length = 10
  · obtain ⟨b, t, rfl⟩ : ∃ b t, name = b :: t := by
      cases name with
      | nil => simp at h10
      | cons b t => exact ⟨b, t, rfl⟩
    have ht9 : t.length = 9 := by simpa using h10
    have h10' : (((b :: t).length : Nat) : Int) = 10 := by omega
    have hix : vindex Tryd.prog 9 (.str (b :: t)) (.int .i64 0) = some (.int .u8 ((b.toNat : Nat) : Int)) := by simp [vindex, T9]
    by_cases hb : b = 115
    · subst hb
      have hb' : (((115 : UInt8).toNat : Nat) : Int) = 115 := by decide
      have hsl : vslice Tryd.prog 9 (.str (115 :: t)) (some (.int .i64 1)) none none = some (.str t) := by
        have hv := vbounds_lo (k := .i64) (n := 1) (len := (115 :: t : List UInt8).length) (by omega) (by simp only [List.length_cons]; omega)
        simp only [vslice, T9, hv]
        simp only [show (1 : Int).toNat = 1 from rfl, List.drop_succ_cons, List.drop_zero, List.length_cons]
        rw [List.take_of_length_le (by omega)]
      cases ha : Lib.atoi t with
      | none =>
        have hn := num_none (pre := 115) ht9 ha
        have hz : numZ (115 :: t) = -1 := by unfold numZ; rw [hn]
        simp only [k50_a, WKV, Nat.reduceLT, Nat.reduceEqDiff, ↓reduceIte, reduceCtorEq, Nat.reduceAdd, Int.reduceLT, Int.reduceNeg, noSB, gD0, gD1, hl, h10', eq_self, decide_true, Bool.not_true, hix, hb', hsl, T9]
        refine KD.ret (atoi_none (by omega) ha) ?_
        simp only [k50_a, WKV, Nat.reduceLT, Nat.reduceEqDiff, ↓reduceIte, reduceCtorEq, Nat.reduceAdd, Int.reduceLT, Int.reduceNeg, noSB, gD0, gD1, neq_inil, oni, hz]
        first | exact ⟨trivial, KS.push _ _ _⟩ | exact KS.push _ _ _
      | some m =>
        obtain ⟨n1, n2⟩ := num_some (pre := 115) ht9 ha
        simp only [k50_a, WKV, Nat.reduceLT, Nat.reduceEqDiff, ↓reduceIte, reduceCtorEq, Nat.reduceAdd, Int.reduceLT, Int.reduceNeg, noSB, gD0, gD1, hl, h10', eq_self, decide_true, Bool.not_true, hix, hb', hsl, T9]
        refine KD.ret (atoi_some (by omega) ha) ?_
        simp only [k50_a, WKV, Nat.reduceLT, Nat.reduceEqDiff, ↓reduceIte, reduceCtorEq, Nat.reduceAdd, Int.reduceLT, Int.reduceNeg, noSB, gD0, gD1, neq_nilnil, oni]
        refine KD.ret (sname_does m) ?_
        by_cases hnm : nameP 115 0 m = 115 :: t
        · obtain ⟨g1, g2, g3⟩ := n1 hnm.symm
          have hz : numZ (115 :: t) = m := by unfold numZ; rw [g3]; simp only; omega
          simp only [k50_a, WKV, Nat.reduceLT, Nat.reduceEqDiff, ↓reduceIte, reduceCtorEq, Nat.reduceAdd, Int.reduceLT, Int.reduceNeg, noSB, gD0, gD1, sbN, hnm, eq_self, decide_true, Bool.not_true, hz]
          first | exact ⟨trivial, KS.refl _ _⟩ | exact KS.refl _ _
        · have hz : numZ (115 :: t) = -1 := by unfold numZ; rw [n2 (fun h => hnm h.symm)]
          simp only [k50_a, WKV, Nat.reduceLT, Nat.reduceEqDiff, ↓reduceIte, reduceCtorEq, Nat.reduceAdd, Int.reduceLT, Int.reduceNeg, noSB, gD0, gD1, sbN, hnm, decide_false, Bool.not_false, hz]
          first | exact ⟨trivial, KS.refl _ _⟩ | exact KS.refl _ _
    · have hb' : ¬ ((b.toNat : Nat) : Int) = 115 := fun h => hb (by apply UInt8.toNat_inj.1; have : (115 : UInt8).toNat = 115 := rfl; omega)
      have hz : numZ (b :: t) = -1 := by
        unfold numZ numP
        simp only
        rw [if_neg (fun h => hb h.1)]
      simp only [k50_a, WKV, Nat.reduceLT, Nat.reduceEqDiff, ↓reduceIte, reduceCtorEq, Nat.reduceAdd, Int.reduceLT, Int.reduceNeg, noSB, gD0, gD1, hl, h10', eq_self, decide_true, decide_false, Bool.not_true, Bool.not_false, hix, hb', hz]
      first | exact ⟨trivial, KS.refl _ _⟩ | exact KS.refl _ _
  · have h10' : ¬ ((name.length : Nat) : Int) = 10 := by omega
    have hz : numZ name = -1 := by
      unfold numZ numP
      cases name with
      | nil => rfl
      | cons b t => simp only; rw [if_neg (fun h => h10 (by simp [h.2.1]))]
    simp only [k50_a, WKV, Nat.reduceLT, Nat.reduceEqDiff, ↓reduceIte, reduceCtorEq, Nat.reduceAdd, Int.reduceLT, Int.reduceNeg, noSB, gD0, gD1, hl, h10', decide_false, Bool.not_false, hz]
    first | exact ⟨trivial, KS.refl _ _⟩ | exact KS.refl _ _
def dr : List UInt8 := [100, 114, 97, 102, 116]
def thenD (r : Nat × Dk) (f : Dk → Nat × Dk) : Nat × Dk := if r.1 ≠ 0 then r else f r.2
def rmDraft (d : Dk) : Nat × Dk := if (readD dr d).1 = 0 then removeD dr d else (0, d)
def purgeD (n : Int) : List (List UInt8) → Dk → Nat × Dk
  | [], d => (0, d)
  | x :: l, d => if numZ x < 0 ∨ numZ x = n then purgeD n l d else thenD (removeD x d) (purgeD n l)
def saveRest3 (n : Int) (d3 : Dk) : Nat × Dk := thenD (renameD dr (nameP 115 0 n) d3) fun d4 => purgeD n (namesD d4) d4
def saveRest2 (n : Int) (d2 : Dk) : Nat × Dk := thenD (syncD dr d2) (saveRest3 n)
def saveRest (n : Int) (body : List UInt8) (d1 : Dk) : Nat × Dk := thenD (appendD dr (encS n body) d1) (saveRest2 n)
def saveD (n : Int) (body : List UInt8) (d : Dk) : Nat × Dk :=
  if nameP 115 0 n = [] then (1, d) else
  if 1048564 < body.length then (3, d) else
  if d.on = false then (20, d) else
  thenD (rmDraft d) fun d1 => thenD (appendD dr (encS n body) d1) fun d2 => thenD (syncD dr d2) fun d3 => thenD (renameD dr (nameP 115 0 n) d3) fun d4 => purgeD n (namesD d4) d4
theorem save_sees {σ : St} {r rm : Nat} {d : Dk} {fs : List Ent} {n : Int} {x : V} {body : List UInt8} (h : DiskAt σ r d rm fs) (hok : d.Ok) (hw : d.writes ≤ 1000000000) (hb : ∀ u, KS (foot r rm fs) σ u → RB u x body) (hl : body.length ≤ 100000000) :
    ∃ q σ', Does Tryd.prog prims 20 [.optr r 0, .int .i64 n, x] σ q σ' ∧ (q = .ret (.int .i64 ((saveD n body d).1 : Nat)) ∧ Next σ r rm fs σ' (saveD n body d).2) := by
  apply k20_is.does (by simp)
  have hlen := (hb σ (KS.refl _ _)).len
  have oe : ofVal (Value.string { data := #[] }) = some (.str []) := rfl
  have od : ofVal (Value.string { data := #[100, 114, 97, 102, 116] }) = some (.str dr) := rfl
  simp only [k20_a, WKV, Nat.reduceLT, Nat.reduceEqDiff, ↓reduceIte, reduceCtorEq, Nat.reduceAdd, Int.reduceLT, Int.reduceNeg, noSB, gD0, gD1, ofNilP, eql_optr pTD]
  refine KD.ret (sname_does n) ?_
  by_cases hn : nameP 115 0 n = []
  · have e : saveD n body d = (1, d) := by unfold saveD; rw [if_pos hn]
    simp only [k20_a, WKV, Nat.reduceLT, Nat.reduceEqDiff, ↓reduceIte, reduceCtorEq, Nat.reduceAdd, Int.reduceLT, Int.reduceNeg, noSB, gD0, gD1, oe, sbE, hn, eq_self, decide_true, e]
    exact ⟨rfl, Next.refl h⟩
  by_cases hlg : 1048564 < body.length
  · have hlg' : (1048564 : Int) < ((body.length : Nat) : Int) := by omega
    have e : saveD n body d = (3, d) := by unfold saveD; rw [if_neg hn, if_pos hlg]
    simp only [k20_a, WKV, Nat.reduceLT, Nat.reduceEqDiff, ↓reduceIte, reduceCtorEq, Nat.reduceAdd, Int.reduceLT, Int.reduceNeg, noSB, gD0, gD1, oe, sbE, hn, hlen, hlg', decide_true, decide_false, e]
    exact ⟨rfl, Next.refl h⟩
  have hlg' : ¬ (1048564 : Int) < ((body.length : Nat) : Int) := by omega
  simp only [k20_a, WKV, Nat.reduceLT, Nat.reduceEqDiff, ↓reduceIte, reduceCtorEq, Nat.reduceAdd, Int.reduceLT, Int.reduceNeg, noSB, gD0, gD1, oe, sbE, hn, hlen, hlg', decide_false]
  refine KD.ret (down_does h) ?_
  cases hon : d.on with
  | false =>
    have e : saveD n body d = (20, d) := by unfold saveD; rw [if_neg hn, if_neg hlg, if_pos hon]
    simp only [k20_a, WKV, Nat.reduceLT, Nat.reduceEqDiff, ↓reduceIte, reduceCtorEq, Nat.reduceAdd, Int.reduceLT, Int.reduceNeg, noSB, gD0, gD1, Bool.not_false, e]
    exact ⟨rfl, Next.refl h⟩
  | true =>
    have e0 : saveD n body d = thenD (rmDraft d) fun d1 => thenD (appendD dr (encS n body) d1) fun d2 => thenD (syncD dr d2) fun d3 => thenD (renameD dr (nameP 115 0 n) d3) fun d4 => purgeD n (namesD d4) d4 := by
      unfold saveD; rw [if_neg hn, if_neg hlg, if_neg (by simp [hon])]
    obtain ⟨p1, s1, c1, v1, q1, rfl, n1, K1, I1⟩ := read_sees (n := dr) h hok
    have D1 := h.pushes K1
    -- behind the draft's going
    obtain ⟨K, hK⟩ : ∃ K, K = seqC Tryd.prog prims 86 ((.seq (.seq (.region k20_r14) (.seq (.region k20_r15) (.cond (.tmp 49) (.seq (.region k20_r16) .ret) .skip))) (.seq (.seq (.region k20_r17) (.seq (.region k20_r18) (.cond (.tmp 54) (.seq (.region k20_r19) .ret) .skip))) (.seq (.seq (.region k20_r20) (.seq (.region k20_r21) (.cond (.tmp 61) (.seq (.region k20_r22) .ret) .skip))) (.seq (.seq (.region k20_r23) (.block 1 (.loop k20_l0))) (.seq (.region k20_r32) .ret))))) : CC) (fnK Tryd.prog 86 [ResultVar.tmp 6] fun q σ' => q = .ret (.int .i64 ((saveD n body d).1 : Nat)) ∧ Next σ r rm fs σ' (saveD n body d).2) := ⟨_, rfl⟩
    have tail : ∀ (e : Nat → V) (s : St) (d1 : Dk) (fs1 : List Ent), e 0 = .optr r 0 → e 1 = .int .i64 n → e 2 = x → DiskAt s r d1 rm fs1 → d1.Ok → d1.writes ≤ 1000000001 → KS (foot r rm fs) σ s → (∀ y ∈ foot r rm fs1, y ∈ foot r rm fs ∨ σ.objs.length ≤ y) → saveD n body d = saveRest n body d1 → K .normal e s := by
      intro e s d1 fs1 g0 g1 g2 D1 ok1 hw1 K1 I1 hsv
      rw [hsv] at hK
      have toσ : ∀ (u : St) (d' : Dk), Next s r rm fs1 u d' → Next σ r rm fs u d' := fun u d' hN => Next.trans K1 I1 hN
      obtain ⟨q2, s2, c2, v2, rv2, rfl, b2, rn2, k2⟩ := encode_sees (σ := s) (n := n) (hb s K1) hl
      have hel := encS_len n body
      have D2 := D1.pushes (k2.ks [])
      obtain ⟨q3, s3, c3, rfl, fs3, D3, K3, I3⟩ := append_sees (n := dr) D2 ok1 (by omega) b2.rb (by omega)
      obtain ⟨ok3, hw3⟩ := append_ok (n := dr) (b := encS n body) ok1
      have N3 : Next s r rm fs1 s3 (appendD dr (encS n body) d1).2 := ⟨fs3, D3, (k2.ks _).trans' K3, fun y hy => by
        rcases I3 y hy with h | h
        · exact .inl h
        · have := (k2.ks []).le; omega⟩
      rw [hK]
      simp only [k20_a, WKV, Nat.reduceLT, Nat.reduceEqDiff, ↓reduceIte, reduceCtorEq, Nat.reduceAdd, Int.reduceLT, Int.reduceNeg, noSB, g0, g1, g2, od]
      refine KD.ret c2 ?_
      simp only [k20_a, WKV, Nat.reduceLT, Nat.reduceEqDiff, ↓reduceIte, reduceCtorEq, Nat.reduceAdd, Int.reduceLT, Int.reduceNeg, noSB, g0, g1, g2, od]
      refine KD.ret c3 ?_
      by_cases e3 : (appendD dr (encS n body) d1).1 = 0
      rotate_left
      · have e3' : ¬ (((appendD dr (encS n body) d1).1 : Nat) : Int) = 0 := by omega
        have er : saveRest n body d1 = appendD dr (encS n body) d1 := by unfold saveRest thenD; rw [if_pos e3]
        simp only [k20_a, WKV, Nat.reduceLT, Nat.reduceEqDiff, ↓reduceIte, reduceCtorEq, Nat.reduceAdd, Int.reduceLT, Int.reduceNeg, noSB, e3', decide_false, Bool.not_false, er]
        exact toσ _ _ N3
      have er3 : saveRest n body d1 = saveRest2 n (appendD dr (encS n body) d1).2 := by unfold saveRest thenD; rw [if_neg (by omega)]; try rfl
      rw [er3]
      have e3' : (((appendD dr (encS n body) d1).1 : Nat) : Int) = 0 := by omega
      generalize (appendD dr (encS n body) d1).2 = d2 at *
      obtain ⟨q4, s4, c4, rfl, fs4, D4, K4, I4⟩ := sync_sees (n := dr) D3 ok3 (by omega)
      obtain ⟨ok4, hw4⟩ := sync_ok (n := dr) ok3
      obtain ⟨fs3', D3', K3', I3'⟩ := N3
      have N4 : Next s r rm fs1 s4 (syncD dr d2).2 := ⟨fs4, D4, ((k2.ks _).trans' K3).trans K4 (fun y hy => by
        rcases I3 y hy with h | h
        · exact .inl h
        · have := (k2.ks []).le; exact .inr (by omega)), fun y hy => by
        rcases I4 y hy with h | h
        · rcases I3 y h with h | h
          · exact .inl h
          · have := (k2.ks []).le; exact .inr (by omega)
        · have := (k2.ks []).le; have := K3.le; exact .inr (by omega)⟩
      simp only [k20_a, WKV, Nat.reduceLT, Nat.reduceEqDiff, ↓reduceIte, reduceCtorEq, Nat.reduceAdd, Int.reduceLT, Int.reduceNeg, noSB, e3', eq_self, decide_true, Bool.not_true, g0, g1, g2, od]
      refine KD.ret c4 ?_
      by_cases e4 : (syncD dr d2).1 = 0
      rotate_left
      · have e4' : ¬ (((syncD dr d2).1 : Nat) : Int) = 0 := by omega
        have er : saveRest2 n d2 = syncD dr d2 := by unfold saveRest2 thenD; rw [if_pos e4]
        simp only [k20_a, WKV, Nat.reduceLT, Nat.reduceEqDiff, ↓reduceIte, reduceCtorEq, Nat.reduceAdd, Int.reduceLT, Int.reduceNeg, noSB, e4', decide_false, Bool.not_false, er]
        exact toσ _ _ N4
      have er4 : saveRest2 n d2 = saveRest3 n (syncD dr d2).2 := by unfold saveRest2 thenD; rw [if_neg (by omega)]; try rfl
      rw [er4]
      have e4' : (((syncD dr d2).1 : Nat) : Int) = 0 := by omega
      generalize (syncD dr d2).2 = d3 at *
      obtain ⟨fs4', D4', K4', I4'⟩ := N4
      obtain ⟨q5, s5, c5, rfl, fs5, D5, K5, I5⟩ := rename_sees (n := dr) (m := nameP 115 0 n) D4' ok4 (by omega)
      obtain ⟨ok5, hw5⟩ := rename_ok (n := dr) (m := nameP 115 0 n) ok4
      have N5 : Next s r rm fs1 s5 (renameD dr (nameP 115 0 n) d3).2 := Next.trans K4' I4' ⟨fs5, D5, K5, I5⟩
      simp only [k20_a, WKV, Nat.reduceLT, Nat.reduceEqDiff, ↓reduceIte, reduceCtorEq, Nat.reduceAdd, Int.reduceLT, Int.reduceNeg, noSB, e4', eq_self, decide_true, Bool.not_true, g0, g1, g2, od]
      refine KD.ret (sname_does n) ?_
      simp only [k20_a, WKV, Nat.reduceLT, Nat.reduceEqDiff, ↓reduceIte, reduceCtorEq, Nat.reduceAdd, Int.reduceLT, Int.reduceNeg, noSB, g0, g1, g2, od]
      refine KD.ret c5 ?_
      by_cases e5 : (renameD dr (nameP 115 0 n) d3).1 = 0
      rotate_left
      · have e5' : ¬ (((renameD dr (nameP 115 0 n) d3).1 : Nat) : Int) = 0 := by omega
        have er : saveRest3 n d3 = renameD dr (nameP 115 0 n) d3 := by unfold saveRest3 thenD; rw [if_pos e5]
        simp only [k20_a, WKV, Nat.reduceLT, Nat.reduceEqDiff, ↓reduceIte, reduceCtorEq, Nat.reduceAdd, Int.reduceLT, Int.reduceNeg, noSB, e5', decide_false, Bool.not_false, er]
        exact toσ _ _ N5
      have er5 : saveRest3 n d3 = purgeD n (namesD (renameD dr (nameP 115 0 n) d3).2) (renameD dr (nameP 115 0 n) d3).2 := by unfold saveRest3 thenD; rw [if_neg (by omega)]
      rw [er5]
      have e5' : (((renameD dr (nameP 115 0 n) d3).1 : Nat) : Int) = 0 := by omega
      generalize (renameD dr (nameP 115 0 n) d3).2 = d4 at *
      obtain ⟨fs5', D5', K5', I5'⟩ := N5
      obtain ⟨q6, s6, c6, v6, o6, rfl, n6, K6, I6⟩ := names_sees D5' ok5
      have D6 := D5'.pushes K6
      have hflt := D5'.lt
      obtain ⟨L, hL⟩ : ∃ L, L = namesD d4 := ⟨_, rfl⟩
      have hL16 := namesD_len ok5
      rw [← hL] at n6 hL16 ⊢
      have R6 : RowS s6 1 v6 (L.map V.str) L.length := row_strs n6
      have f6 : Free o6 (foot r rm fs5') := Free.high I6 hflt
      simp only [k20_a, WKV, Nat.reduceLT, Nat.reduceEqDiff, ↓reduceIte, reduceCtorEq, Nat.reduceAdd, Int.reduceLT, Int.reduceNeg, noSB, e5', eq_self, decide_true, Bool.not_true, g0, g1, g2, od]
      refine KD.ret c6 ?_
      simp only [k20_a, WKV, Nat.reduceLT, Nat.reduceEqDiff, ↓reduceIte, reduceCtorEq, Nat.reduceAdd, Int.reduceLT, Int.reduceNeg, noSB, R6.len TSS]
      refine Ev.loopF (fun (i : Nat) e2 u => e2 66 = .int .i64 (i : Nat) ∧ i ≤ L.length ∧ ∃ dd fu, DiskAt u r dd rm fu ∧ dd.Ok ∧ dd.writes ≤ 1000000100 + i ∧ purgeD n L d4 = purgeD n (L.drop i) dd ∧ KS (foot r rm fs5') s6 u ∧ (∀ y ∈ foot r rm fu, y ∈ foot r rm fs5' ∨ s6.objs.length ≤ y)) (fun i => L.length - i) 0 ?_ ?_
      · exact ⟨by simp [upd_some], Nat.zero_le _, d4, fs5', D6, ok5, by omega, by rw [List.drop_zero], KS.refl _ _, fun y hy => .inl hy⟩
      rintro i e2 u ⟨k66, hi, dd, fu, DU, okU, hwU, hpU, KU, IU⟩ hf2
      have k0 : e2 0 = .optr r 0 := (hf2 0 (by decide)).trans (by simp [upd_some, g0])
      have k1 : e2 1 = .int .i64 n := (hf2 1 (by decide)).trans (by simp [upd_some, g1])
      have k64 : e2 64 = v6 := (hf2 64 (by decide)).trans (by simp [upd_some])
      have k65 : e2 65 = .int .i64 (L.length : Nat) := (hf2 65 (by decide)).trans (by simp [upd_some])
      clear hf2
      have toN : ∀ (u' : St) (d' : Dk), Next u r rm fu u' d' → Next σ r rm fs u' d' := fun u' d' hN => toσ _ _ (Next.trans K5' I5' (Next.trans (K6.nils.trans KU (fun y hy => .inl hy)) (fun y hy => by
        rcases IU y hy with h | h
        · exact .inl h
        · have := K6.le; exact .inr (by omega)) hN))
      by_cases hlt : i < L.length
      · have hlt' : (i : Int) < (L.length : Nat) := by omega
        have hwi : IntKind.i64.wrap ((i : Int) + 1) = ((i + 1 : Nat) : Int) := by rw [wrap_i64 (by omega) (by omega)]; omega
        have hdrop : L.drop i = L[i] :: L.drop (i + 1) := List.drop_eq_getElem_cons hlt
        have n6u := rowOf_free n6 f6 KU
        have RU : RowS u 1 v6 (L.map V.str) L.length := row_strs n6u
        obtain ⟨pa, ha, hla⟩ := RU.strAt hlt
        have hla := hla u (KS.refl _ _)
        obtain ⟨q7, s7, c7, rfl, K7⟩ := number_sees (σ := u) L[i]
        have D7 := DU.pushes K7
        simp only [k20_a, WKV, Nat.reduceLT, Nat.reduceEqDiff, ↓reduceIte, reduceCtorEq, Nat.reduceAdd, Int.reduceLT, Int.reduceNeg, noSB, k66, k65, k64, hlt', decide_true, ha, hla]
        refine KD.ret c7 ?_
        by_cases hz : numZ L[i] < 0 ∨ numZ L[i] = n
        · have hp2 : purgeD n L d4 = purgeD n (L.drop (i + 1)) dd := by rw [hpU, hdrop, purgeD, if_pos hz]
          have fin : ∀ (e3 : Nat → V), e3 66 = .int .i64 ((i + 1 : Nat) : Int) → ∃ j, (e3 66 = .int .i64 (j : Nat) ∧ j ≤ L.length ∧ ∃ dd fu, DiskAt s7 r dd rm fu ∧ dd.Ok ∧ dd.writes ≤ 1000000100 + j ∧ purgeD n L d4 = purgeD n (L.drop j) dd ∧ KS (foot r rm fs5') s6 s7 ∧ (∀ y ∈ foot r rm fu, y ∈ foot r rm fs5' ∨ s6.objs.length ≤ y)) ∧ L.length - j < L.length - i := fun e3 h3 => ⟨i + 1, ⟨h3, by omega, dd, fu, D7, okU, by omega, hp2, KU.trans' K7.nils, IU⟩, by omega⟩
          by_cases hz0 : numZ L[i] < 0
          · simp only [k20_a, WKV, Nat.reduceLT, Nat.reduceEqDiff, ↓reduceIte, reduceCtorEq, Nat.reduceAdd, Int.reduceLT, Int.reduceNeg, noSB, k66, k1, hz0, decide_true, hwi]
            exact fin (fun _ => .int .i64 ((i + 1 : Nat) : Int)) rfl
          · have hzn : numZ L[i] = n := hz.resolve_left hz0
            have hn0 : ¬ n < 0 := by rw [← hzn]; exact hz0
            simp only [k20_a, WKV, Nat.reduceLT, Nat.reduceEqDiff, ↓reduceIte, reduceCtorEq, Nat.reduceAdd, Int.reduceLT, Int.reduceNeg, noSB, k66, k1, hzn, hn0, eq_self, decide_true, decide_false, hwi]
            exact fin (fun _ => .int .i64 ((i + 1 : Nat) : Int)) rfl
        · have hz0 : ¬ numZ L[i] < 0 := fun h => hz (.inl h)
          have hzn : ¬ numZ L[i] = n := fun h => hz (.inr h)
          have hp2 : purgeD n L d4 = thenD (removeD L[i] dd) (purgeD n (L.drop (i + 1))) := by rw [hpU, hdrop, purgeD, if_neg hz]
          obtain ⟨q8, s8, c8, rfl, fs8, D8, K8, I8⟩ := remove_sees (n := L[i]) D7 okU (by omega)
          obtain ⟨ok8, hw8⟩ := remove_ok (n := L[i]) okU
          have N8 : Next u r rm fu s8 (removeD L[i] dd).2 := ⟨fs8, D8, K7.nils.trans' K8, fun y hy => by
            rcases I8 y hy with h | h
            · exact .inl h
            · have := K7.le; exact .inr (by omega)⟩
          simp only [k20_a, WKV, Nat.reduceLT, Nat.reduceEqDiff, ↓reduceIte, reduceCtorEq, Nat.reduceAdd, Int.reduceLT, Int.reduceNeg, noSB, k66, k1, k0, hz0, hzn, decide_false]
          refine KD.ret c8 ?_
          by_cases e8 : (removeD L[i] dd).1 = 0
          · have e8' : (((removeD L[i] dd).1 : Nat) : Int) = 0 := by omega
            have hp3 : purgeD n L d4 = purgeD n (L.drop (i + 1)) (removeD L[i] dd).2 := by rw [hp2]; unfold thenD; rw [if_neg (by omega)]
            simp only [k20_a, WKV, Nat.reduceLT, Nat.reduceEqDiff, ↓reduceIte, reduceCtorEq, Nat.reduceAdd, Int.reduceLT, Int.reduceNeg, noSB, k66, e8', eq_self, decide_true, Bool.not_true, hwi]
            exact ⟨i + 1, ⟨by simp [upd_some], by omega, _, fs8, D8, ok8, by omega, hp3, (KU.trans' K7.nils).trans K8 (fun y hy => by
              rcases IU y hy with h | h
              · exact .inl h
              · exact .inr h), fun y hy => by
              rcases I8 y hy with h | h
              · exact IU y h
              · have := K7.le; have := KU.le; exact .inr (by omega)⟩, by omega⟩
          · have e8' : ¬ (((removeD L[i] dd).1 : Nat) : Int) = 0 := by omega
            have hp3 : purgeD n L d4 = removeD L[i] dd := by rw [hp2]; unfold thenD; rw [if_pos e8]
            rw [hp3]
            simp only [k20_a, WKV, Nat.reduceLT, Nat.reduceEqDiff, ↓reduceIte, reduceCtorEq, Nat.reduceAdd, Int.reduceLT, Int.reduceNeg, noSB, e8', decide_false, Bool.not_false]
            exact toN _ _ N8
      · have hlt' : ¬ (i : Int) < (L.length : Nat) := by omega
        have hp2 : purgeD n L d4 = (0, dd) := by rw [hpU, List.drop_of_length_le (by omega), purgeD]
        rw [hp2]
        simp only [k20_a, WKV, Nat.reduceLT, Nat.reduceEqDiff, ↓reduceIte, reduceCtorEq, Nat.reduceAdd, Int.reduceLT, Int.reduceNeg, noSB, k66, k65, hlt', decide_false]
        exact ⟨rfl, toN _ _ (Next.refl DU)⟩
    simp only [k20_a, WKV, Nat.reduceLT, Nat.reduceEqDiff, ↓reduceIte, reduceCtorEq, Nat.reduceAdd, Int.reduceLT, Int.reduceNeg, noSB, gD0, gD1, od]
    refine KD.ret c1 ?_
    rw [← hK]
    by_cases hrd : (readD dr d).1 = 0
    · have hrd' : (((readD dr d).1 : Nat) : Int) = 0 := by omega
      obtain ⟨q2, s2, c2, rfl, fs2, D2, K2, I2⟩ := remove_sees (n := dr) D1 hok (by omega)
      obtain ⟨ok2, hw2⟩ := remove_ok (n := dr) hok
      have N2 : Next σ r rm fs s2 (removeD dr d).2 := ⟨fs2, D2, K1.nils.trans' K2, fun y hy => by
        rcases I2 y hy with h | h
        · exact .inl h
        · have := K1.le; exact .inr (by omega)⟩
      simp only [k20_a, WKV, Nat.reduceLT, Nat.reduceEqDiff, ↓reduceIte, reduceCtorEq, Nat.reduceAdd, Int.reduceLT, Int.reduceNeg, noSB, gD0, gD1, od, hrd', eq_self, decide_true]
      refine KD.ret c2 ?_
      by_cases e2 : (removeD dr d).1 = 0
      · have e2' : (((removeD dr d).1 : Nat) : Int) = 0 := by omega
        simp only [k20_a, WKV, Nat.reduceLT, Nat.reduceEqDiff, ↓reduceIte, reduceCtorEq, Nat.reduceAdd, Int.reduceLT, Int.reduceNeg, noSB, gD0, gD1, e2', eq_self, decide_true, Bool.not_true]
        refine tail _ s2 _ fs2 ?_ ?_ ?_ D2 ok2 (by omega) (K1.nils.trans' K2) (fun y hy => ?_) ?_
        · simp [upd_some]
        · simp [upd_some]
        · simp [upd_some]
        · obtain ⟨_, _, _, h⟩ := N2
          rcases I2 y hy with h | h
          · exact .inl h
          · have := K1.le; exact .inr (by omega)
        · rw [e0]; unfold rmDraft; rw [if_pos hrd]; unfold thenD; rw [if_neg (by omega)]; try rfl
      · have e2' : ¬ (((removeD dr d).1 : Nat) : Int) = 0 := by omega
        rw [hK]
        have er : saveD n body d = removeD dr d := by rw [e0]; unfold rmDraft; rw [if_pos hrd]; unfold thenD; rw [if_pos e2]
        simp only [k20_a, WKV, Nat.reduceLT, Nat.reduceEqDiff, ↓reduceIte, reduceCtorEq, Nat.reduceAdd, Int.reduceLT, Int.reduceNeg, noSB, gD0, gD1, e2', decide_false, Bool.not_false, er]
        exact N2
    · have hrd' : ¬ (((readD dr d).1 : Nat) : Int) = 0 := by omega
      simp only [k20_a, WKV, Nat.reduceLT, Nat.reduceEqDiff, ↓reduceIte, reduceCtorEq, Nat.reduceAdd, Int.reduceLT, Int.reduceNeg, noSB, gD0, gD1, od, hrd', decide_false]
      refine tail _ s1 d fs ?_ ?_ ?_ D1 hok (by omega) K1.nils (fun y hy => .inl hy) ?_
      · simp [upd_some]
      · simp [upd_some]
      · simp [upd_some]
      · rw [e0]; unfold rmDraft; rw [if_neg hrd]; unfold thenD; rw [if_neg (by simp)]; try rfl
def loadN (d : Dk) : List (List UInt8) → Int × List UInt8 → Int × List UInt8
  | [], a => a
  | x :: l, a => if numZ x < 0 then loadN d l a else if (decS (numZ x) (readD x d).2).2 = 0 then loadN d l (numZ x, (decS (numZ x) (readD x d).2).1) else loadN d l a
def loadD (d : Dk) : (Int × List UInt8) × Nat := if d.on = false then ((0, []), 20) else (loadN d (namesD d) (-1, []), 0)
theorem vice_int (σ : St) (k : IntKind) (n : Int) : vice σ (.int k n) = none := rfl
theorem iced {σ : St} {v : V} {q : Option Nat} {bs : List UInt8} (h : rowOf σ.objs v = some (q, bs.map byteV)) : ∃ v' σ', (vice σ v = some (v', σ') ∨ (vice σ v = none ∧ v' = v ∧ σ' = σ)) ∧ BtsV v' bs ∧ KS q.toList σ σ' := by
  rcases rowOf_spec h with ⟨rfl, rfl, e⟩ | ⟨r, full, rfl, rfl, hr, hl, hc⟩
  · have : bs = [] := by simpa using e
    subst this
    exact ⟨.nils, σ, .inr ⟨rfl, rfl, rfl⟩, .inl ⟨rfl, rfl⟩, KS.refl _ _⟩
  · refine ⟨.slice .ro 1 (bs.map byteV) bs.length, ⟨σ.objs.set r .dead, σ.toks⟩, .inl ?_, .inr ⟨.ro, rfl⟩, KS.set (.inl (by simp)) _⟩
    simp only [List.length_map] at hl hc ⊢
    simp only [vice, hr, Nat.zero_add]
    rw [if_pos hl, List.drop_zero, ← hc]
theorem load_sees {σ : St} {r rm : Nat} {d : Dk} {fs : List Ent} (h : DiskAt σ r d rm fs) (hok : d.Ok) :
    ∃ q σ', Does Tryd.prog prims 21 [.optr r 0] σ q σ' ∧ ∃ v, q = .ret (.tuple [.int .i64 (loadD d).1.1, v, .int .i64 ((loadD d).2 : Nat)]) ∧ RO σ.objs.length σ' v (loadD d).1.2 ∧ KS [] σ σ' := by
  apply k21_is.does (by simp)
  simp only [k21_a, WKV, Nat.reduceLT, Nat.reduceEqDiff, ↓reduceIte, reduceCtorEq, Nat.reduceAdd, Int.reduceLT, Int.reduceNeg, noSB, gD0, gD1, ofNilP, nilEP, eql_optr pTD]
  refine KD.ret (down_does h) ?_
  cases hon : d.on with
  | false =>
    have e : loadD d = ((0, []), 20) := by unfold loadD; rw [if_pos hon]
    simp only [k21_a, WKV, Nat.reduceLT, Nat.reduceEqDiff, ↓reduceIte, reduceCtorEq, Nat.reduceAdd, Int.reduceLT, Int.reduceNeg, noSB, gD0, gD1, Bool.not_false, nilEP, e]
    exact ⟨.nils, rfl, .inl ⟨rfl, rfl⟩, KS.refl _ _⟩
  | true =>
    have e : loadD d = (loadN d (namesD d) (-1, []), 0) := by unfold loadD; rw [if_neg (by simp [hon])]
    rw [e]
    obtain ⟨q1, s1, c1, v1, o1, rfl, n1, K1, I1⟩ := names_sees h hok
    have D1 := h.pushes K1
    have hL16 := namesD_len hok
    generalize hL : namesD d = L at n1 hL16
    have R1 : RowS s1 1 v1 (L.map V.str) L.length := row_strs n1
    simp only [k21_a, WKV, Nat.reduceLT, Nat.reduceEqDiff, ↓reduceIte, reduceCtorEq, Nat.reduceAdd, Int.reduceLT, Int.reduceNeg, noSB, gD0, gD1, Bool.not_true, nilEP]
    refine KD.ret c1 ?_
    simp only [k21_a, WKV, Nat.reduceLT, Nat.reduceEqDiff, ↓reduceIte, reduceCtorEq, Nat.reduceAdd, Int.reduceLT, Int.reduceNeg, noSB, gD0, gD1, R1.len TSS]
    refine Ev.loopF (fun (i : Nat) e s => e 23 = .int .i64 (i : Nat) ∧ i ≤ L.length ∧ ∃ best, e 5 = .int .i64 best.1 ∧ RO σ.objs.length s (e 6) best.2 ∧ loadN d L (-1, []) = loadN d (L.drop i) best ∧ KS [] s1 s) (fun i => L.length - i) 0 ?_ ?_
    · exact ⟨by simp [upd_some], Nat.zero_le _, (-1, []), by simp [upd_some], by simp [upd_some, RO], by rw [List.drop_zero], KS.refl _ _⟩
    rintro i e s ⟨h23, hi, best, h5, h6, hlo, hk⟩ hf
    have g0 : e 0 = .optr r 0 := (hf 0 (by decide)).trans (by simp [upd_some])
    have g21 : e 21 = v1 := (hf 21 (by decide)).trans (by simp [upd_some])
    have g22 : e 22 = .int .i64 (L.length : Nat) := (hf 22 (by decide)).trans (by simp [upd_some])
    clear hf
    by_cases hlt : i < L.length
    · have hlt' : (i : Int) < (L.length : Nat) := by omega
      have hwi : IntKind.i64.wrap ((i : Int) + 1) = ((i + 1 : Nat) : Int) := by rw [wrap_i64 (by omega) (by omega)]; omega
      have hdrop : L.drop i = L[i] :: L.drop (i + 1) := List.drop_eq_getElem_cons hlt
      obtain ⟨pa, ha, hla⟩ := R1.strAt hlt
      have hla := hla s hk
      obtain ⟨q2, s2, c2, rfl, K2⟩ := number_sees (σ := s) L[i]
      simp only [k21_a, WKV, Nat.reduceLT, Nat.reduceEqDiff, ↓reduceIte, reduceCtorEq, Nat.reduceAdd, Int.reduceLT, Int.reduceNeg, noSB, h23, g22, g21, hlt', decide_true, ha, hla]
      refine KD.ret c2 ?_
      by_cases hz0 : numZ L[i] < 0
      · simp only [k21_a, WKV, Nat.reduceLT, Nat.reduceEqDiff, ↓reduceIte, reduceCtorEq, Nat.reduceAdd, Int.reduceLT, Int.reduceNeg, noSB, h23, hz0, decide_true, hwi]
        exact ⟨i + 1, ⟨by simp [upd_some], by omega, best, by simp [upd_some, h5], by simpa [upd_some] using h6.ks K2 (by simp), by rw [hlo, hdrop, loadN, if_pos hz0], hk.trans' K2⟩, by omega⟩
      obtain ⟨q3, s3, c3, v3, o3, rfl, n3, K3, I3⟩ := read_sees (n := L[i]) ((D1.pushes hk).pushes K2) hok
      obtain ⟨v4, s4, ei, b4, K4⟩ := iced n3
      have hrl := readD_len hok L[i]
      obtain ⟨q5, s5, c5, v5, rfl, o5, K5⟩ := decode_sees (σ := s4) (n := numZ L[i]) b4 (by omega)
      have K34 : KS [] s2 s4 := K3.trans K4 (fun y hy => .inr (I3 y hy))
      have Kall : KS [] s1 s5 := ((hk.trans' K2).trans' K34).trans' K5
      simp only [k21_a, WKV, Nat.reduceLT, Nat.reduceEqDiff, ↓reduceIte, reduceCtorEq, Nat.reduceAdd, Int.reduceLT, Int.reduceNeg, noSB, h23, g0, hz0, decide_false]
      refine KD.ret c3 ?_
      rcases ei with ei | ⟨ei, rfl, rfl⟩
      all_goals
        simp only [k21_a, WKV, Nat.reduceLT, Nat.reduceEqDiff, ↓reduceIte, reduceCtorEq, Nat.reduceAdd, Int.reduceLT, Int.reduceNeg, noSB, ei, vice_int]
        refine KD.ret c5 ?_
        by_cases hd : (decS (numZ L[i]) (readD L[i] d).2).2 = 0
        · have hd' : (((decS (numZ L[i]) (readD L[i] d).2).2 : Nat) : Int) = 0 := by omega
          simp only [k21_a, WKV, Nat.reduceLT, Nat.reduceEqDiff, ↓reduceIte, reduceCtorEq, Nat.reduceAdd, Int.reduceLT, Int.reduceNeg, noSB, h23, hd', eq_self, decide_true, hwi]
          exact ⟨i + 1, ⟨by simp [upd_some], by omega, (numZ L[i], (decS (numZ L[i]) (readD L[i] d).2).1), by simp [upd_some], by simpa [upd_some] using o5.mono (by have := K1.le; have := hk.le; have := K2.le; have := K34.le; omega), by rw [hlo, hdrop, loadN, if_neg hz0, if_pos hd], Kall⟩, by omega⟩
        · have hd' : ¬ (((decS (numZ L[i]) (readD L[i] d).2).2 : Nat) : Int) = 0 := by omega
          simp only [k21_a, WKV, Nat.reduceLT, Nat.reduceEqDiff, ↓reduceIte, reduceCtorEq, Nat.reduceAdd, Int.reduceLT, Int.reduceNeg, noSB, h23, hd', decide_false, hwi]
          exact ⟨i + 1, ⟨by simp [upd_some], by omega, best, by simp [upd_some, h5], by simpa [upd_some] using h6.ks ((K2.trans' K34).trans' K5) (by simp), by rw [hlo, hdrop, loadN, if_neg hz0, if_neg hd], Kall⟩, by omega⟩
    · have hlt' : ¬ (i : Int) < (L.length : Nat) := by omega
      have hdrop : L.drop i = [] := List.drop_of_length_le (by omega)
      rw [hlo, hdrop, loadN]
      simp only [k21_a, WKV, Nat.reduceLT, Nat.reduceEqDiff, ↓reduceIte, reduceCtorEq, Nat.reduceAdd, Int.reduceLT, Int.reduceNeg, noSB, h23, g22, hlt', decide_false, h5]
      exact ⟨e 6, rfl, h6, K1.trans' hk⟩
theorem then_ok {r : Nat × Dk} {f : Dk → Nat × Dk} {w k : Nat} (h : r.2.Ok ∧ r.2.writes ≤ w) (hf : ∀ d : Dk, d.Ok → (f d).2.Ok ∧ (f d).2.writes ≤ d.writes + k) : (thenD r f).2.Ok ∧ (thenD r f).2.writes ≤ w + k := by
  unfold thenD
  split
  · exact ⟨h.1, by omega⟩
  · obtain ⟨h1, h2⟩ := hf _ h.1
    exact ⟨h1, by omega⟩
theorem purge_ok (n : Int) : ∀ (L : List (List UInt8)) (d : Dk), d.Ok → (purgeD n L d).2.Ok ∧ (purgeD n L d).2.writes ≤ d.writes + L.length
  | [], d, h => ⟨h, Nat.le_refl _⟩
  | x :: l, d, h => by
    rw [purgeD]
    split
    · obtain ⟨h1, h2⟩ := purge_ok n l d h
      exact ⟨h1, by simp only [List.length_cons]; omega⟩
    · obtain ⟨h1, h2⟩ := then_ok (k := l.length) (remove_ok (n := x) h) (fun d hd => purge_ok n l d hd)
      exact ⟨h1, by simp only [List.length_cons]; omega⟩
theorem save_ok {n : Int} {body : List UInt8} {d : Dk} (h : d.Ok) : (saveD n body d).2.Ok ∧ (saveD n body d).2.writes ≤ d.writes + 20 := by
  unfold saveD
  split
  · exact ⟨h, by simp only; omega⟩
  split
  · exact ⟨h, by simp only; omega⟩
  split
  · exact ⟨h, by simp only; omega⟩
  have hr : (rmDraft d).2.Ok ∧ (rmDraft d).2.writes ≤ d.writes + 1 := by
    unfold rmDraft
    split
    · exact remove_ok h
    · exact ⟨h, by simp only; omega⟩
  refine then_ok (w := d.writes + 1) (k := 19) hr fun d1 h1 => ?_
  refine then_ok (w := d1.writes + 1) (k := 18) (append_ok h1) fun d2 h2 => ?_
  refine then_ok (w := d2.writes + 1) (k := 17) (sync_ok h2) fun d3 h3 => ?_
  refine then_ok (w := d3.writes + 1) (k := 16) (rename_ok h3) fun d4 h4 => ?_
  obtain ⟨g1, g2⟩ := purge_ok n (namesD d4) d4 h4
  have := namesD_len h4
  exact ⟨g1, by omega⟩
theorem digK_lt : ∀ (k a b : Nat), a < b → b < 10 ^ k → digK k a < digK k b
  | 0, a, b, h, hb => by simp at hb; omega
  | k + 1, a, b, h, hb => by
    have hmod : ∀ (k n : Nat), digK k n = digK k (n % 10 ^ k) := by
      intro k
      induction k with
      | zero => intro n; rfl
      | succ k ih =>
        intro n
        rw [digK, digK, ih (n / 10), ih (n % 10 ^ (k + 1) / 10)]
        have e1 : n % 10 ^ (k + 1) / 10 = n / 10 % 10 ^ k := by
          rw [Nat.pow_succ, Nat.mul_comm, Nat.mod_mul_right_div_self]
        have e2 : n % 10 ^ (k + 1) % 10 = n % 10 := Nat.mod_mod_of_dvd n ⟨10 ^ k, by rw [Nat.pow_succ, Nat.mul_comm]⟩
        rw [e1, e2, Nat.mod_mod]
    rw [digK_front, digK_front]
    rw [Nat.pow_succ] at hb
    have hp : 0 < 10 ^ k := Nat.pow_pos (by decide)
    have qa : a / 10 ^ k < 10 := by rw [Nat.div_lt_iff_lt_mul hp]; omega
    have qb : b / 10 ^ k < 10 := by rw [Nat.div_lt_iff_lt_mul hp]; omega
    have hq : a / 10 ^ k ≤ b / 10 ^ k := Nat.div_le_div_right (by omega)
    rw [Nat.mod_eq_of_lt qa, Nat.mod_eq_of_lt qb, List.cons_lt_cons_iff]
    rcases Nat.lt_or_ge (a / 10 ^ k) (b / 10 ^ k) with h1 | h1
    · left
      rw [UInt8.lt_iff_toNat_lt, UInt8.toNat_ofNat', UInt8.toNat_ofNat']
      generalize a / 10 ^ k = u at *
      generalize b / 10 ^ k = v at *
      omega
    · right
      have he : a / 10 ^ k = b / 10 ^ k := by omega
      refine ⟨by rw [he], ?_⟩
      rw [hmod k a, hmod k b]
      refine digK_lt k _ _ ?_ (Nat.mod_lt _ hp)
      have ha := Nat.div_add_mod a (10 ^ k)
      have hb2 := Nat.div_add_mod b (10 ^ k)
      rw [he] at ha
      omega
def nmS (a : Nat) : List UInt8 := 115 :: digK 9 a
theorem nmS_lt {a b : Nat} (h : a < b) (hb : b < 1000000000) : nmS a < nmS b := by
  unfold nmS
  rw [List.cons_lt_cons_iff]
  exact .inr ⟨rfl, digK_lt 9 a b h hb⟩
theorem dr_lt (a : Nat) : dr < nmS a := by
  unfold nmS dr
  rw [List.cons_lt_cons_iff]
  exact .inl (by decide)
theorem nmS_name {n : Nat} (h : n < 1000000000) : nameP 115 0 (n : Int) = nmS n := by
  unfold nameP nmS
  rw [if_neg (by omega), Int.toNat_natCast]
theorem nmS_num {n : Nat} (h : n < 1000000000) : numZ (nmS n) = n := by
  unfold numZ nmS
  rw [num_name h]
theorem dr_num : numZ dr = -1 := by decide
theorem nmS_named (n : Nat) : namedD (nmS n) = true := by
  unfold namedD nmS
  simp [digK_len]
theorem ne_of_lt' {a b : List UInt8} (h : a < b) : a ≠ b := fun e => lt_irrefl' b (by rw [e] at h; exact h)
theorem putF_first {x : Fl} {l : List Fl} (h : ∀ f ∈ l, x.name < f.name) : putF x l = x :: l := by
  unfold putF
  rw [List.filter_eq_nil_iff.2 (fun f hf => by
    simp only [decide_eq_true_eq]
    exact fun h2 => lt_irrefl' _ (lt_trans' h2 (h f hf))), List.filter_eq_self.2 (fun f hf => by simpa using h f hf)]
  rfl
theorem putF_head {x y : Fl} {l : List Fl} (he : y.name = x.name) (h : ∀ f ∈ l, x.name < f.name) : putF x (y :: l) = x :: l := by
  have h0 : ¬ x.name < x.name := lt_irrefl' _
  have := putF_first h
  unfold putF at this ⊢
  simp only [List.filter_cons, he, h0, decide_false, Bool.false_eq_true, ↓reduceIte]
  exact this
theorem putF_last {x : Fl} {l : List Fl} (h : ∀ f ∈ l, f.name < x.name) : putF x l = l ++ [x] := by
  unfold putF
  rw [List.filter_eq_self.2 (fun f hf => by simpa using h f hf), List.filter_eq_nil_iff.2 (fun f hf => by
    simp only [decide_eq_true_eq]
    exact fun h2 => lt_irrefl' _ (lt_trans' h2 (h f hf)))]
theorem dropF_head {n : List UInt8} {y : Fl} {l : List Fl} (he : y.name = n) (h : ∀ f ∈ l, f.name ≠ n) : dropF n (y :: l) = l := by
  unfold dropF
  rw [List.filter_cons_of_neg (by simp [he]), List.filter_eq_self.2 (fun f hf => by simpa using h f hf)]
theorem getF_head {n : List UInt8} {y : Fl} {l : List Fl} (he : y.name = n) : getF (y :: l) n = some y := by
  unfold getF
  rw [List.find?_cons_of_pos (by simp [he])]
theorem getF_no {n : List UInt8} {l : List Fl} (h : ∀ f ∈ l, f.name ≠ n) : getF l n = none := by
  unfold getF
  rw [List.find?_eq_none]
  intro f hf
  simpa using h f hf
def Did (d : Dk) (F0 F1 : List Fl) (r : Nat × Dk) : Prop :=
  (r.1 = 0 ∧ r.2.files = F1 ∧ r.2.on = true ∧ r.2.room = d.room ∧ r.2.keep = d.keep ∧ (d.armed = 0 → r.2.armed = 0)) ∨ (d.armed ≠ 0 ∧ r.1 = 20 ∧ r.2.on = false ∧ r.2.files = F0.map (offF d.keep) ∧ r.2.room = d.room)
theorem raw_two (d : Dk) : ((rawD d).1 = false ∧ (d.armed = 0 → (rawD d).2.armed = 0)) ∨ (d.armed ≠ 0 ∧ (rawD d).1 = true) := by
  unfold rawD
  split
  · exact .inl ⟨rfl, fun h => h⟩
  · rename_i h
    by_cases h1 : d.armed = 1
    · exact .inr ⟨h, by simp [h1]⟩
    · exact .inl ⟨by simp [h1], fun h0 => absurd h0 h⟩
theorem off_on {k : Int} {d : Dk} (h : d.on = true) : (offD k d).on = false ∧ (offD k d).files = d.files.map (offF k) ∧ (offD k d).room = d.room := by
  unfold offD
  rw [if_pos h]
  exact ⟨rfl, rfl, rfl⟩
theorem there_some {d : Dk} {n : List UInt8} {f : Fl} (hn : namedD n = true) (ho : d.on = true) (hg : getF d.files n = some f) : thereD d n = 0 := by
  unfold thereD
  rw [if_neg (by rw [readyD_yes hn ho]; simp), hg]
  rfl
theorem did_append {d : Dk} {n e : List UInt8} (ho : d.on = true) (hn : namedD n = true) (hg : getF d.files n = none) (hl : e.length ≤ 1048576) (hf : d.files.length < 16) (hr : ((sizeD d.files + e.length : Nat) : Int) ≤ d.room) : Did d (putF ⟨n, [], e⟩ d.files) (putF ⟨n, [], e⟩ d.files) (appendD n e d) := by
  unfold appendD
  rw [if_neg (by rw [readyD_yes hn ho]; simp), hg]
  simp only [Option.getD_none, Option.isNone_none, List.nil_append]
  rw [if_neg (by simp [Fl.len]; omega), if_neg (by rintro (h | h); omega; omega)]
  obtain ⟨r1, r2, r3, r4, r5⟩ := raw_files { d with files := putF ⟨n, [], e⟩ d.files }
  rcases raw_two { d with files := putF ⟨n, [], e⟩ d.files } with ⟨h1, h2⟩ | ⟨h1, h2⟩
  · rw [if_neg (by rw [h1]; simp)]
    exact .inl ⟨rfl, r1, r4.trans ho, r3, r2, h2⟩
  · rw [if_pos h2]
    obtain ⟨o1, o2, o3⟩ := off_on (k := d.keep) (d := (rawD { d with files := putF ⟨n, [], e⟩ d.files }).2) (r4.trans ho)
    exact .inr ⟨h1, rfl, o1, by rw [o2, r1], o3.trans r3⟩
theorem did_sync {d : Dk} {n : List UInt8} {f : Fl} (ho : d.on = true) (hn : namedD n = true) (hg : getF d.files n = some f) : Did d d.files (putF ⟨n, f.safe ++ f.wait, []⟩ d.files) (syncD n d) := by
  unfold syncD
  rw [if_neg (by rw [there_some hn ho hg]; simp), hg]
  simp only [Option.getD_some]
  obtain ⟨r1, r2, r3, r4, r5⟩ := raw_files d
  rcases raw_two d with ⟨h1, h2⟩ | ⟨h1, h2⟩
  · rw [if_neg (by rw [h1]; simp)]
    exact .inl ⟨rfl, rfl, r4.trans ho, r3, r2, h2⟩
  · rw [if_pos h2]
    obtain ⟨o1, o2, o3⟩ := off_on (k := d.keep) (d := (rawD d).2) (r4.trans ho)
    exact .inr ⟨h1, rfl, o1, by rw [o2, r1], o3.trans r3⟩
theorem did_rename {d : Dk} {n m : List UInt8} {f : Fl} (ho : d.on = true) (hn : namedD n = true) (hm : namedD m = true) (hg : getF d.files n = some f) : Did d d.files (putF ⟨m, f.safe, f.wait⟩ (dropF n d.files)) (renameD n m d) := by
  unfold renameD
  rw [if_neg (by rw [hn, hm]; simp), if_neg (by rw [there_some hn ho hg]; simp), hg]
  simp only [Option.getD_some]
  obtain ⟨r1, r2, r3, r4, r5⟩ := raw_files d
  rcases raw_two d with ⟨h1, h2⟩ | ⟨h1, h2⟩
  · rw [if_neg (by rw [h1]; simp)]
    exact .inl ⟨rfl, rfl, r4.trans ho, r3, r2, h2⟩
  · rw [if_pos h2]
    obtain ⟨o1, o2, o3⟩ := off_on (k := d.keep) (d := (rawD d).2) (r4.trans ho)
    exact .inr ⟨h1, rfl, o1, by rw [o2, r1], o3.trans r3⟩
theorem did_remove {d : Dk} {n : List UInt8} {f : Fl} (ho : d.on = true) (hn : namedD n = true) (hg : getF d.files n = some f) : Did d d.files (dropF n d.files) (removeD n d) := by
  unfold removeD
  rw [if_neg (by rw [there_some hn ho hg]; simp)]
  obtain ⟨r1, r2, r3, r4, r5⟩ := raw_files d
  rcases raw_two d with ⟨h1, h2⟩ | ⟨h1, h2⟩
  · rw [if_neg (by rw [h1]; simp)]
    exact .inl ⟨rfl, rfl, r4.trans ho, r3, r2, h2⟩
  · rw [if_pos h2]
    obtain ⟨o1, o2, o3⟩ := off_on (k := d.keep) (d := (rawD d).2) (r4.trans ho)
    exact .inr ⟨h1, rfl, o1, by rw [o2, r1], o3.trans r3⟩
abbrev NB := Nat × List UInt8
def fileB (p : NB) : Fl := ⟨nmS p.1, p.2, []⟩
def filesB (B : List NB) : List Fl := B.map fileB
theorem offB (k : Int) (B : List NB) : (filesB B).map (offF k) = filesB B := by
  unfold filesB
  rw [List.map_map]
  refine List.map_congr_left fun p _ => ?_
  simp [offF, fileB]
theorem name_lt {B : List NB} {n : Nat} (hB : ∀ p ∈ B, p.1 < n) (hn : n < 1000000000) : ∀ f ∈ filesB B, f.name < nmS n := by
  intro f hf
  obtain ⟨p, hp, rfl⟩ := List.mem_map.1 hf
  exact nmS_lt (hB p hp) hn
theorem name_dr (B : List NB) : ∀ f ∈ filesB B, dr < f.name := by
  intro f hf
  obtain ⟨p, hp, rfl⟩ := List.mem_map.1 hf
  exact dr_lt _
def Saved (d : Dk) (B : List NB) (n : Nat) (e : List UInt8) (r : Nat × Dk) : Prop :=
  (r.1 = 0 ∧ r.2.files = [fileB (n, e)] ∧ r.2.on = true ∧ r.2.room = d.room ∧ r.2.keep = d.keep ∧ (d.armed = 0 → r.2.armed = 0)) ∨
  (d.armed ≠ 0 ∧ r.1 = 20 ∧ r.2.on = false ∧ r.2.room = d.room ∧ ((∃ s, s.length ≤ e.length ∧ r.2.files = ⟨dr, s, []⟩ :: filesB B) ∨ ∃ B', B' <:+ B ∧ r.2.files = filesB B' ++ [fileB (n, e)]))
def Purged (d : Dk) (B : List NB) (n : Nat) (e : List UInt8) (r : Nat × Dk) : Prop :=
  (r.1 = 0 ∧ r.2.files = [fileB (n, e)] ∧ r.2.on = true ∧ r.2.room = d.room ∧ r.2.keep = d.keep ∧ (d.armed = 0 → r.2.armed = 0)) ∨
  (d.armed ≠ 0 ∧ r.1 = 20 ∧ r.2.on = false ∧ r.2.room = d.room ∧ ∃ B', B' <:+ B ∧ r.2.files = filesB B' ++ [fileB (n, e)])
theorem purge_from {n : Nat} {e : List UInt8} (hn : n < 1000000000) : ∀ (B : List NB) (d : Dk), d.on = true → d.files = filesB B ++ [fileB (n, e)] → (∀ p ∈ B, p.1 < n) → (B.Pairwise fun a b => a.1 < b.1) → Purged d B n e (purgeD n ((filesB B ++ [fileB (n, e)]).map Fl.name) d)
  | [], d, ho, hf, _, _ => by
    have hz : numZ (fileB (n, e)).name = n := nmS_num hn
    simp only [filesB, List.map_nil, List.nil_append, List.map_cons]
    rw [purgeD, if_pos (.inr hz), purgeD]
    exact .inl ⟨rfl, hf, ho, rfl, rfl, fun h => h⟩
  | p :: B, d, ho, hf, hB, hr => by
    have hpn := hB p (List.mem_cons_self ..)
    have hz : numZ (fileB p).name = p.1 := nmS_num (by omega)
    rw [List.pairwise_cons] at hr
    have hne : ∀ f ∈ filesB B ++ [fileB (n, e)], f.name ≠ nmS p.1 := by
      intro f hf2
      rcases List.mem_append.1 hf2 with h | h
      · obtain ⟨q, hq, rfl⟩ := List.mem_map.1 h
        have h1 := hr.1 q hq
        have h2 := hB q (List.mem_cons_of_mem _ hq)
        exact fun he => ne_of_lt' (nmS_lt h1 (by omega)) he.symm
      · rw [List.mem_singleton] at h
        subst h
        exact fun he => ne_of_lt' (nmS_lt hpn hn) he.symm
    have hf2 : d.files = fileB p :: (filesB B ++ [fileB (n, e)]) := hf
    have hd := did_remove (n := nmS p.1) (f := fileB p) ho (nmS_named _) (by rw [hf2]; exact getF_head rfl)
    have hdrop : dropF (nmS p.1) d.files = filesB B ++ [fileB (n, e)] := by rw [hf2]; exact dropF_head rfl hne
    rw [hdrop] at hd
    show Purged d (p :: B) n e (purgeD n ((fileB p).name :: (filesB B ++ [fileB (n, e)]).map Fl.name) d)
    rw [purgeD, if_neg (by rw [hz]; omega)]
    rcases hd with ⟨h1, h2, h3, h4, h5, h6⟩ | ⟨h1, h2, h3, h4, h5⟩
    · have ih := purge_from hn B (removeD (nmS p.1) d).2 h3 h2 (fun q hq => hB q (List.mem_cons_of_mem _ hq)) hr.2
      have ht : thenD (removeD (fileB p).name d) (purgeD n ((filesB B ++ [fileB (n, e)]).map Fl.name)) = purgeD n ((filesB B ++ [fileB (n, e)]).map Fl.name) (removeD (nmS p.1) d).2 := by
        unfold thenD
        rw [if_neg (by rw [show (fileB p).name = nmS p.1 from rfl, h1]; simp)]
        rfl
      rw [ht]
      rcases ih with ⟨g1, g2, g3, g4, g5, g6⟩ | ⟨g1, g2, g3, g4, g5⟩
      · exact .inl ⟨g1, g2, g3, g4.trans h4, g5.trans h5, fun h => g6 (h6 h)⟩
      · refine .inr ⟨fun h => g1 (h6 h), g2, g3, g4.trans h4, ?_⟩
        obtain ⟨B', hb, hb2⟩ := g5
        exact ⟨B', hb.trans (List.suffix_cons _ _), hb2⟩
    · have ht : thenD (removeD (fileB p).name d) (purgeD n ((filesB B ++ [fileB (n, e)]).map Fl.name)) = removeD (nmS p.1) d := by
        unfold thenD
        rw [if_pos (by rw [show (fileB p).name = nmS p.1 from rfl, h2]; simp)]
        rfl
      rw [ht]
      refine .inr ⟨h1, h2, h3, h5, p :: B, List.suffix_refl _, ?_⟩
      rw [h4, hf, List.map_append, offB]
      exact congrArg _ (offB d.keep [(n, e)])
theorem save_from {d : Dk} {B : List NB} {n : Nat} {body : List UInt8} (ho : d.on = true) (hf : d.files = filesB B) (hB : ∀ p ∈ B, p.1 < n) (hr : B.Pairwise fun a b => a.1 < b.1) (hn : n < 1000000000) (hl : (encS n body).length ≤ 1048576) (hlen : B.length < 16) (hroom : ((sizeD d.files + (encS n body).length : Nat) : Int) ≤ d.room) :
    Saved d B n (encS n body) (saveRest n body d) := by
  obtain ⟨e, he⟩ : ∃ e, e = encS n body := ⟨_, rfl⟩
  rw [← he] at hl hroom ⊢
  have hdr := name_dr B
  have hlt := name_lt hB hn
  have hne : ∀ f ∈ filesB B, f.name ≠ dr := fun f hf e => ne_of_lt' (hdr f hf) e.symm
  have hnd : namedD dr = true := by decide
  have h1 := did_append (d := d) (n := dr) (e := e) ho hnd (by rw [hf]; exact getF_no hne) hl (by rw [hf]; simpa [filesB] using hlen) hroom
  have hp1 : putF ⟨dr, [], e⟩ d.files = ⟨dr, [], e⟩ :: filesB B := by rw [hf]; exact putF_first hdr
  rw [hp1] at h1
  have hoff : ∀ (k : Int) (s w : List UInt8), (s ++ w).length ≤ e.length → ∃ s', s'.length ≤ e.length ∧ ((⟨dr, s, w⟩ : Fl) :: filesB B).map (offF k) = ⟨dr, s', []⟩ :: filesB B := fun k s w hs => by
    refine ⟨s ++ w.take k.toNat, ?_, ?_⟩
    · rw [List.length_append] at hs ⊢
      rw [List.length_take]
      omega
    · rw [List.map_cons, offB]
      rfl
  have hS : saveRest n body d = thenD (appendD dr e d) (saveRest2 n) := by unfold saveRest; rw [he]
  rw [hS]
  generalize appendD dr e d = r1 at h1
  rcases h1 with ⟨a1, a2, a3, a4, a5, a6⟩ | ⟨a1, a2, a3, a4, a5⟩
  rotate_left
  · obtain ⟨s', hs1, hs2⟩ := hoff d.keep [] e (by simp)
    unfold thenD
    rw [if_pos (by rw [a2]; simp)]
    exact .inr ⟨a1, a2, a3, a5, .inl ⟨s', hs1, a4.trans hs2⟩⟩
  unfold thenD
  rw [if_neg (by rw [a1]; simp)]
  obtain ⟨d1, hd1⟩ : ∃ d1, d1 = r1.2 := ⟨_, rfl⟩
  rw [← hd1] at a2 a3 a4 a5 a6 ⊢
  have h2 := did_sync (d := d1) (n := dr) (f := ⟨dr, [], e⟩) a3 hnd (by rw [a2]; exact getF_head rfl)
  have hp2 : putF ⟨dr, [] ++ e, []⟩ d1.files = ⟨dr, e, []⟩ :: filesB B := by rw [a2]; exact putF_head rfl hdr
  rw [hp2] at h2
  have hS2 : saveRest2 n d1 = thenD (syncD dr d1) (saveRest3 n) := rfl
  rw [hS2]
  generalize syncD dr d1 = r2 at h2
  rcases h2 with ⟨b1, b2, b3, b4, b5, b6⟩ | ⟨b1, b2, b3, b4, b5⟩
  rotate_left
  · obtain ⟨s', hs1, hs2⟩ := hoff d1.keep [] e (by simp)
    unfold thenD
    rw [if_pos (by rw [b2]; simp)]
    exact .inr ⟨fun h => b1 (a6 h), b2, b3, b5.trans a4, .inl ⟨s', hs1, by rw [b4, a2]; exact hs2⟩⟩
  unfold thenD
  rw [if_neg (by rw [b1]; simp)]
  obtain ⟨d2, hd2⟩ : ∃ d2, d2 = r2.2 := ⟨_, rfl⟩
  rw [← hd2] at b2 b3 b4 b5 b6 ⊢
  have h3 := did_rename (d := d2) (n := dr) (m := nmS n) (f := ⟨dr, e, []⟩) b3 hnd (nmS_named n) (by rw [b2]; exact getF_head rfl)
  have hp3 : putF ⟨nmS n, e, []⟩ (dropF dr d2.files) = filesB B ++ [fileB (n, e)] := by
    rw [b2, dropF_head (n := dr) rfl hne]
    exact putF_last hlt
  rw [hp3] at h3
  have hS3 : saveRest3 n d2 = thenD (renameD dr (nmS n) d2) fun d4 => purgeD n (namesD d4) d4 := by unfold saveRest3; rw [nmS_name hn]
  rw [hS3]
  generalize renameD dr (nmS n) d2 = r3 at h3
  rcases h3 with ⟨c1, c2, c3, c4, c5, c6⟩ | ⟨c1, c2, c3, c4, c5⟩
  rotate_left
  · obtain ⟨s', hs1, hs2⟩ := hoff d2.keep e [] (by simp)
    unfold thenD
    rw [if_pos (by rw [c2]; simp)]
    exact .inr ⟨fun h => c1 (b6 (a6 h)), c2, c3, c5.trans (b4.trans a4), .inl ⟨s', hs1, by rw [c4, b2]; exact hs2⟩⟩
  unfold thenD
  rw [if_neg (by rw [c1]; simp)]
  obtain ⟨d3, hd3⟩ : ∃ d3, d3 = r3.2 := ⟨_, rfl⟩
  rw [← hd3] at c2 c3 c4 c5 c6 ⊢
  have hnm : namesD d3 = (filesB B ++ [fileB (n, e)]).map Fl.name := by unfold namesD; rw [if_pos c3, c2]
  simp only [hnm]
  rcases purge_from (e := e) hn B d3 c3 c2 hB hr with ⟨g1, g2, g3, g4, g5, g6⟩ | ⟨g1, g2, g3, g4, g5⟩
  · exact .inl ⟨g1, g2, g3, g4.trans (c4.trans (b4.trans a4)), g5.trans (c5.trans (b5.trans a5)), fun h => g6 (c6 (b6 (a6 h)))⟩
  · exact .inr ⟨fun h => g1 (c6 (b6 (a6 h))), g2, g3, g4.trans (c4.trans (b4.trans a4)), .inr g5⟩
theorem load_from {d : Dk} (hok : d.Ok) (ho : d.on = true) : ∀ (C : List NB) (a : Int × List UInt8), (∀ p ∈ C, fileB (p.1, encS p.1 p.2) ∈ d.files ∧ p.1 < 1000000000 ∧ p.2.length ≤ 100000000) → loadN d (C.map fun p => nmS p.1) a = (match C.getLast? with | some p => ((p.1 : Int), p.2) | none => a)
  | [], a, _ => rfl
  | p :: C, a, h => by
    obtain ⟨h1, h2, h3⟩ := h p (List.mem_cons_self ..)
    have hz := nmS_num h2
    have hg := getF_mem hok.nodup h1
    have hrd : readD (nmS p.1) d = (0, encS p.1 p.2) := by
      have ht := there_some (nmS_named p.1) ho hg
      unfold readD
      rw [if_neg (by rw [show nmS p.1 = (fileB (p.1, encS p.1 p.2)).name from rfl]; simpa [fileB] using ht)]
      rw [show nmS p.1 = (fileB (p.1, encS p.1 p.2)).name from rfl, hg]
      simp [fileB]
    have hdec : decS (numZ (nmS p.1)) (readD (nmS p.1) d).2 = (p.2, 0) := by
      rw [hz, hrd]
      exact dec_enc (by omega) h3
    rw [List.map_cons, loadN, if_neg (by rw [hz]; omega), hdec, if_pos rfl, load_from hok ho C _ fun q hq => h q (List.mem_cons_of_mem _ hq), hz]
    cases C with
    | nil => rfl
    | cons q C =>
      rw [List.getLast?_cons_cons]
      cases hgl : (q :: C).getLast? with
      | none => simp at hgl
      | some z => rfl
def encB (p : NB) : NB := (p.1, encS p.1 p.2)
def Fit (p : NB) : Prop := p.1 < 100000 ∧ p.2.length ≤ 262144
theorem no_draft {B : List NB} {d : Dk} (ho : d.on = true) (hf : d.files = filesB B) : rmDraft d = (0, d) := by
  have hg : getF d.files dr = none := by rw [hf]; exact getF_no fun f hf e => ne_of_lt' (name_dr B f hf) e.symm
  have ht : thereD d dr = 21 := by
    unfold thereD
    rw [if_neg (by rw [readyD_yes (by decide) ho]; simp), hg]
    rfl
  have h1 : (readD dr d).1 = 21 := by
    unfold readD
    rw [if_pos (by rw [ht]; simp), ht]
  unfold rmDraft
  rw [if_neg (by rw [h1]; simp)]
theorem saveD_rest {n : Nat} {body : List UInt8} {d d1 : Dk} (hn : n < 1000000000) (hl : body.length ≤ 1048564) (ho : d.on = true) (hr : rmDraft d = (0, d1)) : saveD n body d = saveRest n body d1 := by
  unfold saveD
  rw [if_neg (by rw [nmS_name hn]; simp [nmS]), if_neg (by omega), if_neg (by simp [ho]), hr]
  rfl
structure Calm (d : Dk) (kp : Int) (l : List NB) (c i : Nat) : Prop where
  ok : d.Ok
  on : d.on = true
  room : d.room = 2097152
  keep : d.keep = kp
  fl : d.files = filesB (l.map encB)
  one : l.length ≤ 1
  fit : ∀ p ∈ l, Fit p ∧ p.1 ≤ c
  wr : d.writes ≤ 20 * i
structure Behind (d : Dk) (C : List NB) (c : Nat) : Prop where
  ok : d.Ok
  room : d.room = 2097152
  fl : ∃ D : List Fl, d.files = D ++ filesB (C.map encB) ∧ (D = [] ∨ ∃ s : List UInt8, s.length ≤ 262156 ∧ D = [⟨dr, s, []⟩])
  two : C.length ≤ 2
  fit : ∀ p ∈ C, Fit p ∧ p.1 ≤ c
  rise : C.Pairwise fun a b => a.1 < b.1
  wr : d.writes ≤ 100000
theorem Calm.fin {d : Dk} {kp : Int} {l : List NB} {c i : Nat} (h : Calm d kp l c i) (hi : i ≤ 1000) : Behind d l c := ⟨h.ok, h.room, ⟨[], by rw [h.fl]; rfl, .inl rfl⟩, by have := h.one; omega, h.fit, by
  match l, h.one with
  | [], _ => exact List.Pairwise.nil
  | [a], _ => exact List.pairwise_singleton _ _, by have := h.wr; omega⟩
def bestC (C : List NB) : Int × List UInt8 := match C.getLast? with
  | some p => ((p.1 : Int), p.2)
  | none => (-1, [])
theorem load_core {d : Dk} {C : List NB} {c : Nat} (hok : d.Ok) (hfl : ∃ D : List Fl, d.files = D ++ filesB (C.map encB) ∧ (D = [] ∨ ∃ s : List UInt8, s.length ≤ 262156 ∧ D = [⟨dr, s, []⟩])) (hfit : ∀ p ∈ C, Fit p ∧ p.1 ≤ c) (ho : d.on = true) : loadD d = (bestC C, 0) := by
  obtain ⟨D, hf, hD⟩ := hfl
  have hnm : namesD d = D.map Fl.name ++ C.map fun p => nmS p.1 := by
    unfold namesD
    rw [if_pos ho, hf, List.map_append]
    congr 1
    unfold filesB
    rw [List.map_map, List.map_map]
    rfl
  have hall := load_from hok ho C (-1, []) fun p hp => by
    have hp2 := (hfit p hp).1
    unfold Fit at hp2
    refine ⟨?_, by omega, by omega⟩
    rw [hf]
    exact List.mem_append_right _ (List.mem_map.2 ⟨encB p, List.mem_map_of_mem hp, rfl⟩)
  have hdr : loadN d (D.map Fl.name ++ C.map fun p => nmS p.1) (-1, []) = loadN d (C.map fun p => nmS p.1) (-1, []) := by
    rcases hD with rfl | ⟨s, _, rfl⟩
    · rfl
    · show loadN d (dr :: _) _ = _
      rw [loadN, if_pos (by rw [dr_num]; decide)]
      rfl
  unfold loadD
  rw [if_neg (by simp [ho]), hnm, hdr, hall]
  rfl
theorem Behind.load {d : Dk} {C : List NB} {c : Nat} (h : Behind d C c) (ho : d.on = true) : loadD d = (bestC C, 0) := load_core h.ok h.fl h.fit ho
theorem Calm.load {d : Dk} {kp : Int} {l : List NB} {c i : Nat} (h : Calm d kp l c i) : loadD d = (bestC l, 0) := load_core h.ok ⟨[], by rw [h.fl]; rfl, .inl rfl⟩ h.fit h.on
theorem Behind.off {d : Dk} {C : List NB} {c : Nat} (h : Behind d C c) (k : Int) : Behind (offD k d) C c ∧ (offD k d).on = false := by
  obtain ⟨D, hf, hD⟩ := h.fl
  have hDo : D.map (offF k) = D := by
    rcases hD with rfl | ⟨s, _, rfl⟩
    · rfl
    · simp [offF]
  have hfo : (offD k d).files = d.files := by
    unfold offD
    split
    · simp only
      rw [hf, List.map_append, hDo, offB]
    · rfl
  refine ⟨⟨h.ok.off k, ?_, ⟨D, hfo.trans hf, hD⟩, h.two, h.fit, h.rise, by rw [off_writes]; exact h.wr⟩, ?_⟩
  · unfold offD
    split
    · exact h.room
    · exact h.room
  · unfold offD
    split
    · rfl
    · rename_i h; simpa using h
theorem Behind.head {d d2 : Dk} {C : List NB} {c : Nat} (h : Behind d C c) (hf : d2.files = d.files) (hr : d2.room = d.room) (hw : d2.writes = d.writes) (hok : d2.Ok) : Behind d2 C c := ⟨hok, hr.trans h.room, by rw [hf]; exact h.fl, h.two, h.fit, h.rise, by rw [hw]; exact h.wr⟩
theorem wakes_run : isTrue (vcall Tryd.prog prims 300 11 [] st0) = true := by kernel_rfl
theorem wakes_does : ∃ σ, Does Tryd.prog prims 11 [] st0 (.ret (.bool true)) σ := by
  obtain ⟨σ, h⟩ := isTrue_eq wakes_run
  exact ⟨σ, 300, h⟩
def ROS (S : List Nat) (σ : St) (v : V) (bs : List UInt8) : Prop := (v = .nils ∧ bs = []) ∨ ∃ r, HB σ v r bs ∧ r ∈ S
theorem RO.ros {n : Nat} {σ : St} {v : V} {bs : List UInt8} (h : RO n σ v bs) : ∃ S, (∀ y ∈ S, n ≤ y ∧ y < σ.objs.length) ∧ ROS S σ v bs := by
  rcases h with h | ⟨r, h, hr⟩
  · exact ⟨[], by simp, .inl h⟩
  · exact ⟨[r], by simpa using ⟨hr, h.lt⟩, .inr ⟨r, h, by simp⟩⟩
theorem ROS.rb {S : List Nat} {σ : St} {v : V} {bs : List UInt8} (h : ROS S σ v bs) : RB σ v bs := by
  rcases h with h | ⟨r, h, _⟩
  · exact .inl (.inl h)
  · exact h.rb
theorem ROS.set {S : List Nat} {σ : St} {v : V} {bs : List UInt8} (h : ROS S σ v bs) {i n : Nat} (hi : i < bs.length) (hn : n < 256) : ∃ p σ', vindexAddr Tryd.prog 22 v (.int .i64 (i : Int)) = some p ∧ vstore Tryd.prog σ 5 p (.int .u8 (n : Int)) = some σ' ∧ ROS S σ' v (bs.set i (UInt8.ofNat n)) ∧ KS S σ σ' := by
  rcases h with ⟨rfl, rfl⟩ | ⟨r, h, hr⟩
  · simp at hi
  · have hi' : (i : Int) < bs.length := by omega
    have e : byteV (UInt8.ofNat n) = .int .u8 (n : Int) := by
      have : (UInt8.ofNat n).toNat = n := by simp; omega
      simp only [byteV, this]
    refine ⟨.optr r i, ⟨σ.objs.set r (.cells ((bs.set i (UInt8.ofNat n)).map byteV)), σ.toks⟩, by rw [h.1]; simp [vindexAddr, T22, S5, hi'], ?_, .inr ⟨r, ⟨by rw [List.length_set]; exact h.1, ?_⟩, hr⟩, KS.set (.inl hr) _⟩
    · rw [vstore_obj h.2 S5 rfl (by simpa using hi), List.map_set, e]
    · exact obj_set h.2
theorem HB.appendS {σ : St} {v y : V} {r : Nat} {bs ys : List UInt8} (h : HB σ v r bs) (hy : RB σ y ys) (hl : bs.length + ys.length ≤ 140737488355328) :
    ∃ v' r' σ', vappendRow Tryd.prog σ 22 22 v y = some (v', σ') ∧ HB σ' v' r' (bs ++ ys) ∧ KS [r] σ σ' ∧ (r' = r ∨ σ.objs.length ≤ r') := by
  obtain ⟨v', r', σ', h1, h2, h3, h4⟩ := h.append hy hl
  refine ⟨v', r', σ', h1, h2, ⟨fun q o hq ho => h3.1 q o (by simpa using hq) ho, ?_, h3.2.1, h3.2.2⟩, h4⟩
  have hlt := h2.lt
  rcases h4 with h4 | h4
  · subst h4
    -- nothing was appended, or the old object is dead: all others stay
    rcases Nat.lt_or_ge (σ.objs.length - 1) r' with hc | hc
    · have := h.lt; omega
    · by_cases hq : σ.objs.length - 1 = r'
      · have := h.lt; omega
      · have hp : σ.objs.length - 1 < σ.objs.length := by have := h.lt; omega
        have := (gA0.1 (h3.1 _ _ hq (List.getElem?_eq_getElem hp))).1
        omega
  · omega
theorem HB.pre {σ : St} {v : V} {r : Nat} {bs ys : List UInt8} (h : HB σ v r (bs ++ ys)) (hl : bs.length ≤ 1000000000) : vslice Tryd.prog 22 v none (some (.int .i64 (bs.length : Nat))) none = some (.hslice r 0 1 bs.length) := by
  have hb : vbounds (bs ++ ys).length none (some (.int .i64 (bs.length : Nat))) none = some (0, bs.length, none) := by
    have := vbounds_hi (k := .i64) (n := (bs.length : Int)) (len := (bs ++ ys).length) (by omega) (by rw [List.length_append]; omega)
    simpa using this
  rw [List.length_append] at hb
  rw [h.1]
  simp [vslice, T22, S5, hb]
theorem HB.pre_rb {σ : St} {v : V} {r : Nat} {bs ys : List UInt8} (h : HB σ v r (bs ++ ys)) : RB σ (.hslice r 0 1 bs.length) bs :=
  .inr ⟨r, 0, _, rfl, h.2, by simp, by rw [List.drop_zero, List.map_append]; exact List.take_left' (by simp)⟩
theorem HB.last {σ : St} {v : V} {r : Nat} {bs : List UInt8} {c : UInt8} (h : HB σ v r (bs ++ [c])) : vindexAddr Tryd.prog 22 v (.int .i64 (bs.length : Nat)) = some (.optr r bs.length) ∧ vload Tryd.prog σ.objs 5 (.optr r bs.length) = some (byteV c) := by
  have hlt : ((bs.length : Nat) : Int) < ((bs.length + 1 : Nat) : Int) := by omega
  refine ⟨by rw [h.1, List.length_append]; simp only [vindexAddr, T22, S5]; simp; omega, ?_⟩
  rw [vload_obj h.2 G5]
  simp
theorem HB.vice {σ : St} {v : V} {r : Nat} {bs : List UInt8} (h : HB σ v r bs) : vice σ v = some (.slice .ro 1 (bs.map byteV) bs.length, ⟨σ.objs.set r .dead, σ.toks⟩) := by
  rw [h.1]
  have e : List.take bs.length (bs.map byteV) = bs.map byteV := List.take_of_length_le (by simp)
  simp [Q.vice, h.2, e]
theorem save_plain {n : Int} {body : List UInt8} (hl : body.length ≤ 4096) : ((n < 0 ∨ 999999999 < n) ∧ saveD n body (newD 1048576) = (1, newD 1048576)) ∨ (¬ (n < 0 ∨ 999999999 < n) ∧ (saveD n body (newD 1048576)).1 = 0 ∧ loadD (saveD n body (newD 1048576)).2 = ((n, body), 0)) := by
  by_cases hr : n < 0 ∨ 999999999 < n
  · left
    refine ⟨hr, ?_⟩
    unfold saveD
    rw [if_pos (by unfold nameP; rw [if_pos hr])]
  · right
    obtain ⟨m, rfl⟩ : ∃ m : Nat, n = m := ⟨n.toNat, by omega⟩
    have hm : m < 1000000000 := by omega
    have hel := encS_len (m : Int) body
    have ok0 : (newD 1048576).Ok := newD_ok (by unfold InI64; omega)
    have h1 := saveD_rest (n := m) (body := body) hm (by omega) (d := newD 1048576) rfl (no_draft (B := []) rfl rfl)
    have h2 := save_from (d := newD 1048576) (B := []) (n := m) (body := body) rfl rfl (by simp) List.Pairwise.nil hm (by omega) (by simp) (by rw [hel]; simp only [newD, sizeD]; simp; omega)
    rw [← h1] at h2
    have hok := (save_ok (n := (m : Int)) (body := body) ok0).1
    rcases h2 with ⟨a1, a2, a3, a4, a5, a6⟩ | ⟨a1, _⟩
    · refine ⟨hr, a1, ?_⟩
      have hld := load_from hok a3 [(m, body)] (-1, []) (by
        intro p hp
        rw [List.mem_singleton] at hp
        subst hp
        exact ⟨by rw [a2]; simp, hm, by simp only; omega⟩)
      unfold loadD
      rw [if_neg (by rw [a3]; simp)]
      have hnm : namesD (saveD (m : Int) body (newD 1048576)).2 = [nmS m] := by unfold namesD; rw [if_pos a3, a2]; rfl
      rw [hnm]
      simp only [List.map_cons, List.map_nil] at hld
      rw [hld]
      rfl
    · exact absurd rfl a1
theorem snapkeeps_true : LawTrue Tryd.prog prims 5 [3, 22] := by
  intro args hA hb
  match args, hA with
  | [vn, x], ⟨hx, hx2, _⟩ =>
    obtain ⟨n, rfl, hn⟩ : ∃ n : Int, vn = .int .i64 n ∧ InI64 n := int_arg T3 hx
    obtain ⟨body, hB, hl⟩ := bytes_arg (P := Tryd.prog) T22 T5 C5 hx2
    simp only [vbulks] at hb
    have hlb := hB.len T22
    have key : ∃ r σ', Does Tryd.prog prims 5 [.int .i64 n, x] st0 r σ' ∧ r = .ret (.bool true) := by
      apply k5_is.does (by simp)
      obtain ⟨s1, hwk⟩ := wakes_does
      simp only [k5_a, WKV, Nat.reduceLT, Nat.reduceEqDiff, ↓reduceIte, reduceCtorEq, Nat.reduceAdd, Int.reduceLT, Int.reduceNeg, noSB, gD0, gD1]
      refine KD.ret hwk ?_
      by_cases hbig : 4096 < body.length
      · have hbig' : (4096 : Int) < (body.length : Nat) := by omega
        simp only [k5_a, WKV, Nat.reduceLT, Nat.reduceEqDiff, ↓reduceIte, reduceCtorEq, Nat.reduceAdd, Int.reduceLT, Int.reduceNeg, noSB, gD0, gD1, Bool.not_true, hlb, hbig', decide_true]
      have hbig' : ¬ (4096 : Int) < (body.length : Nat) := by omega
      have hel := encS_len n body
      -- mine
      obtain ⟨m1, hm1⟩ : ∃ m1 : St, m1 = ⟨s1.objs ++ [.cells []], s1.toks⟩ := ⟨_, rfl⟩
      have l0 := litRow0 s1
      rw [← hm1] at l0
      have B1 : HB m1 (.hslice s1.objs.length 0 1 0) s1.objs.length [] := by rw [hm1]; exact made _ [] rfl
      obtain ⟨mv2, mr2, m2, a2, B2, k2, e2⟩ := B1.appendS (y := x) (ys := body) (.inl hB) (by simp; omega)
      rw [List.nil_append] at B2
      obtain ⟨m3, hm3⟩ : ∃ m3 : St, m3 = ⟨m2.objs ++ [.cells [byteV (UInt8.ofNat 71)]], m2.toks⟩ := ⟨_, rfl⟩
      have l3 : vbuildRow Tryd.prog m2 22 1 [(0, .int .u8 71)] = some (.hslice m2.objs.length 0 1 1, m3) := by rw [hm3]; exact litRow1 m2 (n := 71) (by omega)
      have B3 : HB m3 (.hslice m2.objs.length 0 1 1) m2.objs.length [UInt8.ofNat 71] := by rw [hm3]; exact made _ [UInt8.ofNat 71] rfl
      have B23 : HB m3 mv2 mr2 body := B2.keep (by rw [hm3]; exact (Keep.refl m2).push _)
      obtain ⟨mv, mr, s2, a4, BM, k4, e4⟩ := B23.appendS B3.rb (by simp; omega)
      have hmr : mr < s2.objs.length := BM.lt
      obtain ⟨s3, rd, rmp, c3, D3, K3, I3⟩ := newdisk_does s2 1048576
      have ok0 : (newD 1048576).Ok := newD_ok (by unfold InI64; omega)
      have hmf : mr ∉ foot rd rmp [] := fun h => by have := I3 mr h; omega
      have BM3 : HB s3 mv mr (body ++ [UInt8.ofNat 71]) := ⟨BM.1, K3.ko _ _ (by simp) BM.2⟩
      have hsl := BM.pre (bs := body) (by omega)
      obtain ⟨q4, s4, c4, rfl, fs4, D4, K4, I4⟩ := save_sees (n := n) (x := .hslice mr 0 1 body.length) D3 ok0 (by simp [newD]) (fun u hu => HB.pre_rb (ys := [UInt8.ofNat 71]) (v := mv) ⟨BM.1, hu.ko _ _ hmf BM3.2⟩) (by omega)
      have BM4 : HB s4 mv mr (body ++ [UInt8.ofNat 71]) := ⟨BM.1, K4.ko _ _ hmf BM3.2⟩
      obtain ⟨q5, s5, c5, va, ra, rfl, BA5, ha5, k5⟩ := encode_sees (σ := s4) (n := n) BM4.pre_rb (by omega)
      have BM5 := BM4.keep k5
      obtain ⟨q6, s6, c6, vb, rb, rfl, BB6, hb6, k6⟩ := encode_sees (σ := s5) (n := n) BM5.pre_rb (by omega)
      have BM6 := BM5.keep k6
      have BA6 := BA5.keep k6
      obtain ⟨E, hE⟩ : ∃ E, E = encS n body := ⟨_, rfl⟩
      rw [← hE] at BA5 BB6 BA6 hel
      have hvi := BB6.vice
      obtain ⟨bv, hbv⟩ : ∃ bv : V, bv = .slice .ro 1 (E.map byteV) E.length := ⟨_, rfl⟩
      obtain ⟨s7, hs7⟩ : ∃ s7 : St, s7 = ⟨s6.objs.set rb .dead, s6.toks⟩ := ⟨_, rfl⟩
      rw [← hbv, ← hs7] at hvi
      have hBv : BtsV bv E := by rw [hbv]; exact .inr ⟨.ro, rfl⟩
      have K67 : KS [rb] s6 s7 := by rw [hs7]; exact KS.set (.inl (by simp)) _
      have L34 := K4.le
      have L45 := (k5.ks []).le
      have L56 := (k6.ks []).le
      have L23 := K3.le
      have L67 := K67.le
      have hra5 := BA5.lt
      have hrb6 := BB6.lt
      have fF : ∀ y ∈ foot rd rmp fs4, y < s4.objs.length ∧ y ≠ mr := fun y hy => ⟨D4.lt y hy, fun h => by
        subst h
        rcases I4 y hy with h | h
        · exact hmf h
        · omega⟩
      have D7 : DiskAt s7 rd (saveD n body (newD 1048576)).2 rmp fs4 := ((D4.pushes (k5.ks [])).pushes (k6.ks [])).keep K67 fun y hy h => by
        have := (fF y hy).1
        rw [List.mem_singleton] at h
        omega
      have BM7 : ROS [mr] s7 mv (body ++ [UInt8.ofNat 71]) := .inr ⟨mr, ⟨BM.1, K67.ko _ _ (by simp; omega) BM6.2⟩, by simp⟩
      have BM7' : HB s7 mv mr (body ++ [UInt8.ofNat 71]) := ⟨BM.1, K67.ko _ _ (by simp; omega) BM6.2⟩
      have BA7 : HB s7 va ra E := ⟨BA6.1, K67.ko _ _ (by simp; omega) BA6.2⟩
      have sm7 := same5_does (HB.pre_rb BM7') (.inl hB : RB s7 x body) (by omega)
      rw [decide_eq_true rfl] at sm7
      obtain ⟨ia7, ld7⟩ := BM7'.last
      have n71 : byteV (UInt8.ofNat 71) = .int .u8 71 := rfl
      rw [n71] at ld7
      have hml : vlen Tryd.prog 22 mv = some (.int .i64 ((body.length + 1 : Nat) : Int)) := by
        have := BM7.rb.len
        rwa [List.length_append] at this
      obtain ⟨P, hP⟩ : ∃ P, P = saveD n body (newD 1048576) := ⟨_, rfl⟩
      have hplain := save_plain (n := n) (body := body) (by omega)
      have hokP := (save_ok (n := n) (body := body) ok0).1
      rw [← hP] at hplain hokP c4 D7
      simp only [k5_a, WKV, Nat.reduceLT, Nat.reduceEqDiff, ↓reduceIte, reduceCtorEq, Nat.reduceAdd, Int.reduceLT, Int.reduceNeg, noSB, gD0, gD1, Bool.not_true, hlb, hbig', decide_false, l0, a2, l3, a4]
      refine KD.ret c3 ?_
      simp only [k5_a, WKV, Nat.reduceLT, Nat.reduceEqDiff, ↓reduceIte, reduceCtorEq, Nat.reduceAdd, Int.reduceLT, Int.reduceNeg, noSB, gD0, gD1, hlb, T22, hsl]
      refine KD.ret c4 ?_
      simp only [k5_a, WKV, Nat.reduceLT, Nat.reduceEqDiff, ↓reduceIte, reduceCtorEq, Nat.reduceAdd, Int.reduceLT, Int.reduceNeg, noSB, gD0, gD1, hlb, T22, hsl]
      refine KD.ret c5 ?_
      simp only [k5_a, WKV, Nat.reduceLT, Nat.reduceEqDiff, ↓reduceIte, reduceCtorEq, Nat.reduceAdd, Int.reduceLT, Int.reduceNeg, noSB, gD0, gD1, hlb, T22, hsl]
      refine KD.ret c6 ?_
      simp only [k5_a, WKV, Nat.reduceLT, Nat.reduceEqDiff, ↓reduceIte, reduceCtorEq, Nat.reduceAdd, Int.reduceLT, Int.reduceNeg, noSB, gD0, gD1, hlb, T22, hsl, hvi]
      refine KD.ret sm7 ?_
      simp only [k5_a, WKV, Nat.reduceLT, Nat.reduceEqDiff, ↓reduceIte, reduceCtorEq, Nat.reduceAdd, Int.reduceLT, Int.reduceNeg, noSB, gD0, gD1, hlb, Bool.not_true, ia7, ld7, eq_self, decide_true, hml]
      refine Ev.loopF (fun (i : Nat) e s => e 70 = .int .i64 (i : Nat) ∧ i ≤ body.length + 1 ∧ ∃ bs, bs.length = body.length + 1 ∧ ROS [mr] s mv bs ∧ KS [mr] s7 s) (fun i => body.length + 1 - i) 0 ?_ ?_
      · exact ⟨by simp [upd_some], Nat.zero_le _, _, by simp, BM7, KS.refl _ _⟩
      rintro i e s ⟨hc, hi, bs, hbl, hR, hK⟩ hf
      have g0 : e 0 = .int .i64 n := (hf 0 (by decide)).trans (by simp [upd_some])
      have g1 : e 1 = x := (hf 1 (by decide)).trans (by simp [upd_some])
      have g5 : e 5 = mv := (hf 5 (by decide)).trans (by simp [upd_some])
      have g6 : e 6 = .optr rd 0 := (hf 6 (by decide)).trans (by simp [upd_some])
      have g7 : e 7 = .int .i64 (P.1 : Nat) := (hf 7 (by decide)).trans (by simp [upd_some])
      have g8 : e 8 = va := (hf 8 (by decide)).trans (by simp [upd_some])
      have g9 : e 9 = bv := (hf 9 (by decide)).trans (by simp [upd_some])
      have g69 : e 69 = .int .i64 ((body.length + 1 : Nat) : Int) := (hf 69 (by decide)).trans (by simp [upd_some])
      clear hf
      by_cases hlt : i < body.length + 1
      · have hlt' : (i : Int) < ((body.length + 1 : Nat) : Int) := by omega
        have hwi : IntKind.i64.wrap ((i : Int) + 1) = ((i + 1 : Nat) : Int) := by rw [wrap_i64 (by omega) (by omega)]; omega
        obtain ⟨p, s', hp, hst, hR', hK'⟩ := hR.set (i := i) (n := 1) (by omega) (by omega)
        have hst : vstore Tryd.prog s 5 p (.int .u8 1) = some s' := hst
        simp only [k5_a, WKV, Nat.reduceLT, Nat.reduceEqDiff, ↓reduceIte, reduceCtorEq, Nat.reduceAdd, Int.reduceLT, Int.reduceNeg, noSB, hc, g5, g69, hlt', decide_true, hp, hst, hwi]
        exact ⟨i + 1, ⟨by simp [upd_some], by omega, _, by rw [List.length_set]; exact hbl, hR', hK.trans' hK'⟩, by omega⟩
      have hlt' : ¬ (i : Int) < ((body.length + 1 : Nat) : Int) := by omega
      have D8 := D7.keep hK fun y hy h => (fF y hy).2 (List.mem_singleton.1 h)
      have BA8 : HB s va ra E := ⟨BA7.1, hK.ko _ _ (by simp; have := BM4.lt; omega) BA7.2⟩
      have L78 := hK.le
      clear hR
      obtain ⟨wv, s9, w1, w2, w3, w4'⟩ := OwnV.append' (P := Tryd.prog) (t := 22) (t2 := 22) BT (σ := s) (show OwnV 5 s.toks.length s (.slice .exact 1 [] 0) [] from .inr ⟨.exact, rfl, .inl rfl⟩) (σ0 := s) rfl (Keep.refl s) T22 hBv (by simp; omega)
      rw [List.nil_append] at w2
      have hwb := w2.bts
      obtain ⟨q10, s10, c10, xv, rfl, o10, K10⟩ := decode_sees (σ := s9) (n := n) hBv (by omega)
      obtain ⟨X, hX⟩ : ∃ X, X = (decS n E).1 := ⟨_, rfl⟩
      obtain ⟨Sx, hSx, RX⟩ := o10.ros
      rw [← hX] at RX
      have D10 := (D8.pushes (w3.ks [])).pushes K10
      have BA10 : HB s10 va ra E := (BA8.keep w3).keep K10.keep
      have L89 := (w3.ks []).le
      have L910 := K10.le
      have hxl := RX.rb.len
      have hal := BA10.rb.len
      have hXl : X.length ≤ E.length := by rw [hX]; exact decS_len n E
      simp only [k5_a, WKV, Nat.reduceLT, Nat.reduceEqDiff, ↓reduceIte, reduceCtorEq, Nat.reduceAdd, Int.reduceLT, Int.reduceNeg, noSB, hc, g69, hlt', decide_false, build0 BT, g9, w1]
      refine KD.ret (by rw [g0]; exact c10) ?_
      simp only [k5_a, WKV, Nat.reduceLT, Nat.reduceEqDiff, ↓reduceIte, reduceCtorEq, Nat.reduceAdd, Int.reduceLT, Int.reduceNeg, noSB, g8, hal]
      refine Ev.loopF (fun (i : Nat) e2 u => e2 88 = .int .i64 (i : Nat) ∧ i ≤ E.length ∧ ∃ bs, bs.length = E.length ∧ ROS [ra] u va bs ∧ KS [ra] s10 u) (fun i => E.length - i) 0 ?_ ?_
      · exact ⟨by simp [upd_some], Nat.zero_le _, _, rfl, .inr ⟨ra, BA10, by simp⟩, KS.refl _ _⟩
      rintro j e2 u ⟨hc2, hj, bs2, hbl2, hR2, hK2⟩ hf2
      have m0 : e2 0 = .int .i64 n := (hf2 0 (by decide)).trans (by simp [upd_some, g0])
      have m1' : e2 1 = x := (hf2 1 (by decide)).trans (by simp [upd_some, g1])
      have m6 : e2 6 = .optr rd 0 := (hf2 6 (by decide)).trans (by simp [upd_some, g6])
      have m7 : e2 7 = .int .i64 (P.1 : Nat) := (hf2 7 (by decide)).trans (by simp [upd_some, g7])
      have m8 : e2 8 = va := (hf2 8 (by decide)).trans (by simp [upd_some, g8])
      have m9 : e2 9 = bv := (hf2 9 (by decide)).trans (by simp [upd_some, g9])
      have m11 : e2 11 = wv := (hf2 11 (by decide)).trans (by simp [upd_some])
      have m12 : e2 12 = xv := (hf2 12 (by decide)).trans (by simp [upd_some])
      have m87 : e2 87 = .int .i64 (E.length : Nat) := (hf2 87 (by decide)).trans (by simp [upd_some])
      clear hf2
      by_cases hlt2 : j < E.length
      · have hlt2' : (j : Int) < ((E.length : Nat) : Int) := by omega
        have hwi : IntKind.i64.wrap ((j : Int) + 1) = ((j + 1 : Nat) : Int) := by rw [wrap_i64 (by omega) (by omega)]; omega
        obtain ⟨p, s', hp, hst, hR', hK'⟩ := hR2.set (i := j) (n := 2) (by omega) (by omega)
        have hst : vstore Tryd.prog u 5 p (.int .u8 2) = some s' := hst
        simp only [k5_a, WKV, Nat.reduceLT, Nat.reduceEqDiff, ↓reduceIte, reduceCtorEq, Nat.reduceAdd, Int.reduceLT, Int.reduceNeg, noSB, hc2, m8, m87, hlt2', decide_true, hp, hst, hwi]
        exact ⟨j + 1, ⟨by simp [upd_some], by omega, _, by rw [List.length_set]; exact hbl2, hR', hK2.trans' hK'⟩, by omega⟩
      have hlt2' : ¬ (j : Int) < ((E.length : Nat) : Int) := by omega
      have L1011 := hK2.le
      have D11 := D10.keep hK2 fun y hy h => by
        have := (fF y hy).1
        rw [List.mem_singleton] at h
        omega
      have hE0 : bs2 ≠ [] := by intro h; rw [h] at hbl2; simp at hbl2; omega
      obtain ⟨ra', hBA11, hra'⟩ : ∃ r, HB u va r bs2 ∧ r ∈ [ra] := by
        rcases hR2 with ⟨_, h⟩ | h
        · exact absurd h hE0
        · exact h
      obtain rfl : ra' = ra := List.mem_singleton.1 hra'
      have RX11 : ROS Sx u xv X := by
        rcases RX with h | ⟨r, h, hr⟩
        · exact .inl h
        · exact .inr ⟨r, ⟨h.1, hK2.ko _ _ (by have := (hSx r hr).1; simp; omega) h.2⟩, hr⟩
      obtain ⟨u2, hu2⟩ : ∃ u2 : St, u2 = ⟨u.objs ++ [.cells [byteV (UInt8.ofNat 3)]], u.toks⟩ := ⟨_, rfl⟩
      have l3' : vbuildRow Tryd.prog u 22 1 [(0, .int .u8 3)] = some (.hslice u.objs.length 0 1 1, u2) := by rw [hu2]; exact litRow1 u (n := 3) (by omega)
      have B3' : HB u2 (.hslice u.objs.length 0 1 1) u.objs.length [UInt8.ofNat 3] := by rw [hu2]; exact made _ [UInt8.ofNat 3] rfl
      have ku2 : Keep u u2 := by rw [hu2]; exact (Keep.refl u).push _
      obtain ⟨va2, ra2, u3, a5, BA12, k12, e12⟩ := (hBA11.keep ku2).appendS B3'.rb (by simp; omega)
      have Lu2 := (ku2.ks []).le
      have L12 := k12.le
      have D12 := (D11.pushes (ku2.ks [])).keep k12 fun y hy h => by
        have := (fF y hy).1
        rw [List.mem_singleton] at h
        omega
      have RX12 : ROS Sx u3 xv X := by
        rcases RX11 with h | ⟨r, h, hr⟩
        · exact .inl h
        · exact .inr ⟨r, ⟨h.1, k12.ko _ _ (by have := (hSx r hr).1; simp; omega) ((ku2.ks []).ko _ _ (by simp) h.2)⟩, hr⟩
      have ha2l : vlen Tryd.prog 22 va2 = some (.int .i64 ((E.length + 1 : Nat) : Int)) := by
        have := BA12.rb.len
        rwa [List.length_append, hbl2] at this
      have hbvl : vlen Tryd.prog 22 bv = some (.int .i64 (E.length : Nat)) := hBv.len T22
      have hwl : IntKind.i64.wrap ((E.length : Int) + 1) = ((E.length + 1 : Nat) : Int) := by rw [wrap_i64 (by omega) (by omega)]; omega
      have sm12 := same5_does (.inl hBv : RB u3 bv E) (.inl hwb : RB u3 wv E) (by omega)
      rw [decide_eq_true rfl] at sm12
      simp only [k5_a, WKV, Nat.reduceLT, Nat.reduceEqDiff, ↓reduceIte, reduceCtorEq, Nat.reduceAdd, Int.reduceLT, Int.reduceNeg, noSB, hc2, m87, hlt2', decide_false, m8, l3', a5, m9, m11]
      refine KD.ret sm12 ?_
      simp only [k5_a, WKV, Nat.reduceLT, Nat.reduceEqDiff, ↓reduceIte, reduceCtorEq, Nat.reduceAdd, Int.reduceLT, Int.reduceNeg, noSB, Bool.not_true, m9, ha2l, hbvl, hwl, eq_self, decide_true, m12, hxl]
      refine Ev.loopF (fun (i : Nat) e3 t => e3 112 = .int .i64 (i : Nat) ∧ i ≤ X.length ∧ ∃ bs, bs.length = X.length ∧ ROS Sx t xv bs ∧ KS Sx u3 t) (fun i => X.length - i) 0 ?_ ?_
      · exact ⟨by simp [upd_some], Nat.zero_le _, _, rfl, RX12, KS.refl _ _⟩
      rintro k e3 t ⟨hc3, hk, bs3, hbl3, hR3, hK3⟩ hf3
      have p0 : e3 0 = .int .i64 n := (hf3 0 (by decide)).trans (by simp [upd_some, m0])
      have p1 : e3 1 = x := (hf3 1 (by decide)).trans (by simp [upd_some, m1'])
      have p6 : e3 6 = .optr rd 0 := (hf3 6 (by decide)).trans (by simp [upd_some, m6])
      have p7 : e3 7 = .int .i64 (P.1 : Nat) := (hf3 7 (by decide)).trans (by simp [upd_some, m7])
      have p9 : e3 9 = bv := (hf3 9 (by decide)).trans (by simp [upd_some, m9])
      have p11 : e3 11 = wv := (hf3 11 (by decide)).trans (by simp [upd_some, m11])
      have p12 : e3 12 = xv := (hf3 12 (by decide)).trans (by simp [upd_some, m12])
      have p111 : e3 111 = .int .i64 (X.length : Nat) := (hf3 111 (by decide)).trans (by simp [upd_some])
      clear hf3
      by_cases hlt3 : k < X.length
      · have hlt3' : (k : Int) < ((X.length : Nat) : Int) := by omega
        have hwi : IntKind.i64.wrap ((k : Int) + 1) = ((k + 1 : Nat) : Int) := by rw [wrap_i64 (by omega) (by omega)]; omega
        obtain ⟨p, s', hp, hst, hR', hK'⟩ := hR3.set (i := k) (n := 4) (by omega) (by omega)
        have hst : vstore Tryd.prog t 5 p (.int .u8 4) = some s' := hst
        simp only [k5_a, WKV, Nat.reduceLT, Nat.reduceEqDiff, ↓reduceIte, reduceCtorEq, Nat.reduceAdd, Int.reduceLT, Int.reduceNeg, noSB, hc3, p12, p111, hlt3', decide_true, hp, hst, hwi]
        exact ⟨k + 1, ⟨by simp [upd_some], by omega, _, by rw [List.length_set]; exact hbl3, hR', hK3.trans' hK'⟩, by omega⟩
      have hlt3' : ¬ (k : Int) < ((X.length : Nat) : Int) := by omega
      have D13 := D12.keep hK3 fun y hy h => by
        have h1 := (fF y hy).1
        have h2 := (hSx y h).1
        omega
      have sm13 := same5_does (.inl hBv : RB t bv E) (.inl hwb : RB t wv E) (by omega)
      rw [decide_eq_true rfl] at sm13
      simp only [k5_a, WKV, Nat.reduceLT, Nat.reduceEqDiff, ↓reduceIte, reduceCtorEq, Nat.reduceAdd, Int.reduceLT, Int.reduceNeg, noSB, hc3, p111, hlt3', decide_false, p9, p11]
      refine KD.ret sm13 ?_
      rcases hplain with ⟨hr, hp1⟩ | ⟨hr, hp1, hp2⟩
      · have hnm : nameP 115 0 n = [] := by unfold nameP; rw [if_pos hr]
        have oe : ofVal (Value.string { data := #[] }) = some (.str []) := rfl
        rw [hp1] at p7
        have p7 : e3 7 = .int .i64 1 := p7
        simp only [k5_a, WKV, Nat.reduceLT, Nat.reduceEqDiff, ↓reduceIte, reduceCtorEq, Nat.reduceAdd, Int.reduceLT, Int.reduceNeg, noSB, Bool.not_true, p7, eq_self, decide_true, Int.reduceEq, decide_false, Bool.not_false, p0, oe, sbE]
        refine KD.ret (sname_does n) ?_
        simp only [k5_a, WKV, Nat.reduceLT, Nat.reduceEqDiff, ↓reduceIte, reduceCtorEq, Nat.reduceAdd, Int.reduceLT, Int.reduceNeg, noSB, hnm, oe, sbE, eq_self, decide_true]
      obtain ⟨q14, s14, c14, yv, rfl, o14, K14⟩ := load_sees D13 hokP
      have D14 := D13.pushes K14
      obtain ⟨q15, s15, c15, zv, rfl, o15, K15⟩ := load_sees D14 hokP
      rw [hp2] at c14 o14 c15 o15
      obtain ⟨Sy, hSy, RY⟩ := o14.ros
      have L14 := K14.le
      have L15 := K15.le
      have RY15 : ROS Sy s15 yv body := by
        rcases RY with h | ⟨r, h, hr⟩
        · exact .inl h
        · exact .inr ⟨r, ⟨h.1, K15.ko _ _ (by simp) h.2⟩, hr⟩
      have hSy2 : ∀ y ∈ Sy, y < s14.objs.length := fun y hy => (hSy y hy).2
      have hyl := RY15.rb.len
      rw [hp1] at p7
      have p7 : e3 7 = .int .i64 0 := p7
      simp only [k5_a, WKV, Nat.reduceLT, Nat.reduceEqDiff, ↓reduceIte, reduceCtorEq, Nat.reduceAdd, Int.reduceLT, Int.reduceNeg, noSB, Bool.not_true, p7, eq_self, decide_true, Bool.not_false, p6]
      refine KD.ret c14 ?_
      simp only [k5_a, WKV, Nat.reduceLT, Nat.reduceEqDiff, ↓reduceIte, reduceCtorEq, Nat.reduceAdd, Int.reduceLT, Int.reduceNeg, noSB, p6]
      refine KD.ret c15 ?_
      simp only [k5_a, WKV, Nat.reduceLT, Nat.reduceEqDiff, ↓reduceIte, reduceCtorEq, Nat.reduceAdd, Int.reduceLT, Int.reduceNeg, noSB, hyl]
      refine Ev.loopF (fun (i : Nat) e4 t => e4 146 = .int .i64 (i : Nat) ∧ i ≤ body.length ∧ ∃ bs, bs.length = body.length ∧ ROS Sy t yv bs ∧ KS Sy s15 t) (fun i => body.length - i) 0 ?_ ?_
      · exact ⟨by simp [upd_some], Nat.zero_le _, _, rfl, RY15, KS.refl _ _⟩
      rintro l e4 t4 ⟨hc4, hl4, bs4, hbl4, hR4, hK4⟩ hf4
      have r1 : e4 1 = x := (hf4 1 (by decide)).trans (by simp [upd_some, p1])
      have r17 : e4 17 = yv := (hf4 17 (by decide)).trans (by simp [upd_some])
      have r20 : e4 20 = zv := (hf4 20 (by decide)).trans (by simp [upd_some])
      have r145 : e4 145 = .int .i64 (body.length : Nat) := (hf4 145 (by decide)).trans (by simp [upd_some])
      clear hf4
      by_cases hlt4 : l < body.length
      · have hlt4' : (l : Int) < ((body.length : Nat) : Int) := by omega
        have hwi : IntKind.i64.wrap ((l : Int) + 1) = ((l + 1 : Nat) : Int) := by rw [wrap_i64 (by omega) (by omega)]; omega
        obtain ⟨p, s', hp, hst, hR', hK'⟩ := hR4.set (i := l) (n := 5) (by omega) (by omega)
        have hst : vstore Tryd.prog t4 5 p (.int .u8 5) = some s' := hst
        simp only [k5_a, WKV, Nat.reduceLT, Nat.reduceEqDiff, ↓reduceIte, reduceCtorEq, Nat.reduceAdd, Int.reduceLT, Int.reduceNeg, noSB, hc4, r17, r145, hlt4', decide_true, hp, hst, hwi]
        exact ⟨l + 1, ⟨by simp [upd_some], by omega, _, by rw [List.length_set]; exact hbl4, hR', hK4.trans' hK'⟩, by omega⟩
      have hlt4' : ¬ (l : Int) < ((body.length : Nat) : Int) := by omega
      have RZ : RB t4 zv body := by
        rcases o15 with h | ⟨r, h, hr⟩
        · exact .inl (.inl h)
        · exact HB.rb (r := r) ⟨h.1, hK4.ko _ _ (fun hm => by have := hSy2 r hm; omega) h.2⟩
      have sm16 := same5_does RZ (.inl hB : RB t4 x body) (by omega)
      rw [decide_eq_true rfl] at sm16
      simp only [k5_a, WKV, Nat.reduceLT, Nat.reduceEqDiff, ↓reduceIte, reduceCtorEq, Nat.reduceAdd, Int.reduceLT, Int.reduceNeg, noSB, hc4, r145, hlt4', decide_false, r20, r1]
      refine KD.ret sm16 ?_
      simp only [k5_a, WKV, Nat.reduceLT, Nat.reduceEqDiff, ↓reduceIte, reduceCtorEq, Nat.reduceAdd, Int.reduceLT, Int.reduceNeg, noSB]
    obtain ⟨r, σ', ⟨m, h⟩, rfl⟩ := key
    exact ⟨m, σ', h⟩
end Go.Proofs.YtnegdinonfjdfaaDoor.Q
namespace Go.Proofs.YtnegdinonfjdfaaDoor.Q
open Go Go.RowKit Go.Proofs Go.ChangeShapes Go.WideShapes Go.ChangeAt
noncomputable abbrev listL : List (String × DataW Unit) := Rows.snapBytesUptoRow.laid
theorem only_half : (listL.filter fun x => x.1 == "quern/crc.half") = [("quern/crc.half", Lib.tabData .u32 (half.map fun n : Nat => (n : Int)))] := by kernel_rfl
theorem only_pow : (listL.filter fun x => x.1 == "internal/strconv.uint64pow10") = [("internal/strconv.uint64pow10", Lib.tabData .u64 Lib.pow10Tab)] := by kernel_rfl
theorem only_err : (listL.filter fun x => x.1 == "strconv.ErrSyntax") = [("strconv.ErrSyntax", .iface "*errors.errorString" (.ptr (.agg [.lit (.string [105, 110, 118, 97, 108, 105, 100, 32, 115, 121, 110, 116, 97, 120])])))] := by kernel_rfl
theorem starErr : "*" ++ "errors.errorString" = "*errors.errorString" := by decide
theorem rowErr (u : TypeId) (h : Tryd.prog.typeName? 3 u = some "*errors.errorString") : u = 151 :=
  typeName_ptr_named (nm := "errors.errorString") (by rw [starErr]; kernel_rfl) (by kernel_rfl) (by decide) u (by rw [starErr]; exact h)
theorem lays_of {W : World} (h : laidMetH Tryd.prog listL W) : Lays W.heap.size W := by
  have h1 := h.filter fun x => x.1 == "quern/crc.half"
  have h2 := h.filter fun x => x.1 == "internal/strconv.uint64pow10"
  have h3 := h.filter fun x => x.1 == "strconv.ErrSyntax"
  rw [only_half] at h1
  rw [only_pow] at h2
  rw [only_err] at h3
  have t1 : Lib.TabIs Tryd.prog W "quern/crc.half" .u32 (half.map fun n : Nat => (n : Int)) := Lib.tabIs_of_head (rest := []) (g := 0) (by kernel_rfl) (by kernel_rfl) pTA pTU (by kernel_rfl) (by kernel_rfl) h1
  have t2 : Lib.TabIs Tryd.prog W "internal/strconv.uint64pow10" .u64 Lib.pow10Tab := Lib.tabIs_of_head (rest := []) (g := 1) (by kernel_rfl) (by kernel_rfl) Tryd.underlying134 Tryd.underlying64 (by kernel_rfl) (by kernel_rfl) h2
  obtain ⟨a, s, hv, _⟩ := laid_sentinel (r := []) (g := 2) h3 (by kernel_rfl) (by kernel_rfl) Tryd.underlying97 rowErr Tryd.underlying151 Tryd.underlying153 rfl rfl Tryd.underlying9 (by kernel_rfl) (by kernel_rfl)
  have hg2 : Tryd.prog.globalNamed "strconv.ErrSyntax" = some 2 := by kernel_rfl
  have hc2 : W.cell? ⟨2, 0, none⟩ = some (.iface 151 (.pointer (some a))) := by
    have := World.var?_cell hg2 hv 0
    simpa using this
  refine ⟨?_, fun i hi => ?_, t2, _, hc2, .inr ⟨_, _, rfl⟩⟩
  · have := World.block_lt_of_cell? _ _ hc2
    simp only at this
    omega
  · have hg : Tryd.prog.globalNamed "quern/crc.half" = some 0 := by kernel_rfl
    have := t1.cell hg i hi
    have e : ∀ j : Fin 16, (half.map fun n : Nat => (n : Int)).getD j.val 0 = ((half.getD j.val 0 : Nat) : Int) := by decide
    rw [e ⟨i, hi⟩] at this
    exact this
section
variable {H : Type} {enc : TypeId × Value → H} {P : Program}
theorem law_callsW {pr : Prim} {W : World} (hp : PrimOk P pr W.heap.size W) (hl : laidOutB P = true) {S : List TypeId} (hS : plainS P S = true) {F : FuncId} {ts : List TypeId} (hts : ∀ t, t ∈ ts → t ∈ S) (h20 : ts.length ≤ 20) (hT : LawTrue P pr F ts) {r : Reach} {b : Nat} {args : Array Value} {ds : List (DataW H)} {ps : List MemPlace}
    (hval : ∀ (j : Nat) t v, ts[j]? = some t → args.toList[j]? = some v → Value.okWide P W r b t v) (hA : DataW.TrodAll enc P W 0 (fun _ => true) true ts args.toList ds ps) (hk : Rows.uptoBulkAll ds ≤ 1048576) :
    Calls P F args W fun e W' => e = .returned (.bool true) ∧ Below W.heap.size W W' := by
  obtain ⟨xs, h1, h2, h3⟩ := args_V hl hS hts hval hA
  obtain ⟨n, σ', hn⟩ := hT xs h2 (by omega)
  have := vcall_sound hp hn (gh0 W) W args.toList (rel0 W) h1
  rw [Array.toArray_toList] at this
  refine this.mono fun e W' ⟨g', hE, hR, u, he, hV⟩ => ?_
  simp only [VR] at hV
  subst hV
  exact ⟨he, hR.below⟩
end
def cellsD : DataW Unit → Array Value
  | .agg l => (l.map fun | .lit (.int k z) => Value.int k z | _ => undef).toArray
  | _ => #[]
noncomputable def low : Nat := (World.holding Tryd.prog default ⟨#[], #[], []⟩).heap.size
def textR : ByteArray := ⟨#[118, 97, 108, 117, 101, 32, 111, 117, 116, 32, 111, 102, 32, 114, 97, 110, 103, 101]⟩
def textS : ByteArray := ⟨#[105, 110, 118, 97, 108, 105, 100, 32, 115, 121, 110, 116, 97, 120]⟩
noncomputable def laidWorld (os : Os) : World :=
  let w0 := World.holding Tryd.prog os ⟨#[.cells #[.string textR] 153, .cells #[.string textS] 153], #[], []⟩
  let put (h : Array Obj) (g : Nat) (cs : Array Value) : Array Obj := h.modify g fun
    | .cells _ t frozen => .cells cs t frozen
    | o => o
  let h1 := put w0.heap 0 (cellsD Rows.laid_quern_crc_half)
  let h2 := put h1 1 (cellsD Rows.laid_internal_strconv_uint64pow10)
  let h3 := put h2 2 #[.iface 151 (.pointer (some ⟨low + 1, 0, none⟩))]
  let h4 := put h3 3 #[.iface 151 (.pointer (some ⟨low, 0, none⟩))]
  let h5 := put h4 4 (cellsD Rows.laid_math_bits_deBruijn32tab)
  let h6 := put h5 5 (cellsD Rows.laid_math_bits_deBruijn64tab)
  { w0 with heap := h6 }
theorem laid_met (os : Os) (args : Array Value) : laidMet Tryd.prog listL ((laidWorld os).forCall (fun _ _ => 0) ⟨#[], args, []⟩).memory :=
  laidMet_of_run' 8 (by kernel_rfl) (by kernel_rfl)
end Go.Proofs.YtnegdinonfjdfaaDoor.Q
