/- PackChains: for every input of bulk at most 1048576 the law answers true. -/
import Derived.Test.YtmcadfejkcpblaaNb
set_option linter.unusedVariables false
set_option linter.unusedSimpArgs false
set_option maxRecDepth 100000
namespace Go.Proofs.Ytmcadfejkcpblaa.Q
open Go Go.RowKit Go.Proofs

theorem toNat_ofNat_lt {n : Nat} (h : n < 256) : (UInt8.ofNat n).toNat = n := by rw [UInt8.toNat_ofNat']; omega


theorem putN_pos (x : Nat) : 0 < (putN x).length := by
  by_cases h : 127 < x
  · rw [putN_big h]; simp
  · rw [putN_small (by omega)]; simp

theorem putN_zero (x : Nat) (h : 0 < x) : ((putN x).getD ((putN x).length - 1) 0).toNat ≠ 0 := by
  induction x using Nat.strongRecOn with
  | _ x ih =>
    by_cases hx : 127 < x
    · have h1 := ih (x / 128) (by omega) (by omega)
      have h2 := putN_pos (x / 128)
      rw [putN_big hx]
      obtain ⟨k, hk⟩ : ∃ k, (putN (x / 128)).length = k + 1 := ⟨(putN (x / 128)).length - 1, by omega⟩
      rw [hk] at h1
      simp only [List.length_cons, hk, Nat.add_sub_cancel, List.getD_cons_succ] at h1 ⊢
      exact h1
    · rw [putN_small (by omega)]
      simp only [List.length_singleton, Nat.sub_self, List.getD_cons_zero]
      rw [toNat_ofNat_lt (by omega)]
      omega

theorem valN_putN (x : Nat) : valN (putN x) = x := by
  induction x using Nat.strongRecOn with
  | _ x ih =>
    by_cases hx : 127 < x
    · rw [putN_big hx]
      simp only [valN]
      rw [ih (x / 128) (by omega), toNat_ofNat_lt (by omega)]
      omega
    · rw [putN_small (by omega)]
      simp only [valN]
      rw [toNat_ofNat_lt (by omega)]
      omega

theorem runN_putN (x : Nat) (l : List UInt8) : runN (putN x ++ l) + 1 = (putN x).length := by
  induction x using Nat.strongRecOn with
  | _ x ih =>
    by_cases hx : 127 < x
    · rw [putN_big hx]
      simp only [List.cons_append, runN, List.length_cons]
      rw [toNat_ofNat_lt (by omega), if_pos (by omega), ih (x / 128) (by omega)]
    · rw [putN_small (by omega)]
      simp only [List.cons_append, runN, List.length_cons, List.nil_append]
      rw [toNat_ofNat_lt (by omega), if_neg (by omega)]
      simp

theorem takeS_putN {x : Nat} (hx : x < 2 ^ 63) (l : List UInt8) : takeS (putN x ++ l) = (x, (putN x).length) := by
  have h1 := runN_putN x l
  have h2 := putN_len x 8 (by omega)
  have h3 : (putN x ++ l).take (runN (putN x ++ l) + 1) = putN x := by rw [h1]; simp
  unfold takeS
  rw [if_neg, h3, valN_putN, h1]
  simp only [not_or, Nat.not_le, not_and]
  refine ⟨by rw [List.length_append]; omega, by omega, fun h0 hz => ?_⟩
  have hx0 : 0 < x := by
    rcases Nat.eq_zero_or_pos x with e | e
    · subst e
      have h9 : (putN 0).length = 1 := by rw [putN_small (x := 0) (by omega)]; rfl
      omega
    · exact e
  have hlt : runN (putN x ++ l) < (putN x).length := by omega
  have hg : (putN x ++ l).getD (runN (putN x ++ l)) 0 = (putN x).getD ((putN x).length - 1) 0 := by
    rw [List.getD_eq_getElem?_getD, List.getElem?_append_left hlt, List.getD_eq_getElem?_getD, show (putN x).length - 1 = runN (putN x ++ l) from by omega]
  exact putN_zero x hx0 (by rw [← hg]; exact hz)

/-- Numbers of a row, written or not. -/
theorem mknumbers_rb {b : V} {bs : List UInt8} {σ : St} (hb : RB σ b bs) (hlen : bs.length ≤ 140737488300000) :
    ∃ q σ', Does Try.prog prims 18 [b] σ q σ' ∧ ∃ v, q = .ret (.func 29 [.optr σ.objs.length 0]) ∧ BtsV v bs ∧ σ'.objs[σ.objs.length]? = some (.cells [v]) ∧ Keep σ σ' := by
  apply k18_is.does (by simp)
  obtain ⟨v', σ1, ha, ho, hk, hob⟩ := ownCopy hb hlen
  obtain ⟨s2, hs2⟩ : ∃ s2 : St, s2 = ⟨σ1.objs ++ [Ob.cells [.nils]], σ1.toks⟩ := ⟨_, rfl⟩
  have a2 : s2.objs[σ1.objs.length]? = some (.cells [.nils]) := by rw [hs2]; simp
  have hl1 : σ1.objs.length = σ.objs.length := by rw [hob]
  have hst : vstore Try.prog s2 22 (.optr σ1.objs.length 0) v' = some ⟨s2.objs.set σ1.objs.length (.cells [v']), s2.toks⟩ := by
    rw [vstore_obj a2 S22 ho.one (by simp)]; rfl
  simp only [k18_a, WK, vop, evAll, evOpt, evParts, vbuiltin, vun, vextract, Nat.reduceLT, Nat.reduceEqDiff, ↓reduceIte, reduceCtorEq, Nat.reduceAdd, Int.reduceLT, Int.reduceNeg, valloc_std, noSB, vhot, List.getD_cons_zero, build0 BT, ha, ZB, vbox, vcells, ofVal, ofVal1, ← hs2, hst]
  refine ⟨v', ?_, ho, ?_, ?_⟩
  · rw [hl1]
  · rw [← hl1]; simp [hs2]
  · refine ⟨fun r o h => ?_, by rw [hs2]; exact hk.2⟩
    have hr := (List.getElem?_eq_some_iff.1 h).1
    show (s2.objs.set σ1.objs.length (.cells [v']))[r]? = some o
    rw [List.getElem?_set_ne (by omega), hs2]
    show (σ1.objs ++ [Ob.cells [.nils]])[r]? = some o
    rw [List.getElem?_append_left (by omega)]
    exact hk.1 r o h
theorem GI : isAggT Try.prog 30 = some false := by kernel_rfl
/-- Size. -/
theorem size_does {x : Int} (hx : InI64 x) (σ : St) : ∃ q σ', Does Try.prog prims 17 [.int .i64 x] σ q σ' ∧ q = .ret (.int .i64 ((putN x.toNat).length : Nat)) ∧ Keep σ σ' := by
  apply k17_is.does (by simp)
  have hi : IntsV (.slice .exact 1 (([x] : List Int).map i64V) 1) [x] := ⟨.inr ⟨_, rfl⟩, by intro y hy; simp at hy; rw [hy]; exact hx⟩
  have hbi : vbuildSlice Try.prog 30 1 [(0, .int .i64 x)] = some (.slice .exact 1 (([x] : List Int).map i64V) 1) := by kernel_rfl
  obtain ⟨v', r, σ1, hd, hk, hB, _⟩ := put_does (σ := σ) (v := .nils) (bs := []) (.inl (.inl ⟨rfl, rfl⟩)) hi (by simp)
  have hp : putS [x] = putN x.toNat := by simp [putS]
  rw [List.nil_append, hp] at hB
  simp only [k17_a, WK, vop, evAll, evOpt, evParts, vbuiltin, vun, vextract, Nat.reduceLT, Nat.reduceEqDiff, ↓reduceIte, reduceCtorEq, Nat.reduceAdd, Int.reduceLT, Int.reduceNeg, valloc_std, noSB, vhot, List.getD_cons_zero, hbi, nilE]
  refine KD.ret hd ?_
  simp only [k17_a, WK, vop, evAll, evOpt, evParts, vbuiltin, vun, vextract, Nat.reduceLT, Nat.reduceEqDiff, ↓reduceIte, reduceCtorEq, Nat.reduceAdd, Int.reduceLT, Int.reduceNeg, valloc_std, noSB, vhot, hB.rb.len]
  exact hk
theorem k8ps0 : k8_f0.1 = #[21, 22] := by kernel_rfl
theorem putS_split {xs : List Int} {i : Nat} (h : i < xs.length) (beh : List UInt8) : (putS xs ++ beh).drop (putS (xs.take i)).length = putN (xs[i].toNat) ++ (putS (xs.drop (i + 1)) ++ beh) := by
  have : putS xs = putS (xs.take i) ++ (putN (xs[i].toNat) ++ putS (xs.drop (i + 1))) := by
    have h1 : xs = xs.take i ++ (xs[i] :: xs.drop (i + 1)) := by rw [← List.drop_eq_getElem_cons h, List.take_append_drop]
    have h2 : ∀ a b, putS (a ++ b) = putS a ++ putS b := fun a b => by unfold putS; rw [List.flatMap_append]
    have h3 : putS (xs[i] :: xs.drop (i + 1)) = putN (xs[i].toNat) ++ putS (xs.drop (i + 1)) := rfl
    rw [← h3, ← h2, ← h1]
  rw [this, List.append_assoc, List.drop_left, List.append_assoc]
/-- A round: the next number. -/
theorem chain_round {k rn ra rx : Nat} {e : Nat → V} {σ : St} {w : V} {xs : List Int} (hw : IntsV w xs) (hl : xs.length ≤ 100000000) {i : Nat} (hi : i < xs.length)
    (ho : σ.objs[k]? = some (.lp (env 61 e) k8_f0.1 k8_f0.2.1 k8_f0.2.2)) (hn : σ.objs[rn]? = some (.cells [.int .i64 (i : Nat)])) (ha : σ.objs[ra]? = some (.cells [.int .i64 ((putS (xs.take i)).length : Nat)])) (hx : σ.objs[rx]? = some (.cells [w]))
    (h2 : e 2 = .optr rx 0) (h6 : e 6 = .optr rn 0) (h7 : e 7 = .optr ra 0) (hk1 : k ≠ rn) (hk2 : k ≠ ra) (hk3 : k ≠ rx) (hk4 : rn ≠ ra) (hk5 : rn ≠ rx) (hk6 : ra ≠ rx) :
    ∃ σ1, Round Try.prog prims k [.int .i64 ((putS (xs.take i)).length : Nat), .int .i64 (xs[i].toNat : Nat)] σ (.bool true) σ1 ∧ σ1.objs[k]? = some (.lp (env 61 e) k8_f0.1 k8_f0.2.1 k8_f0.2.2) ∧ σ1.objs[rn]? = some (.cells [.int .i64 ((i + 1 : Nat) : Int)]) ∧
      σ1.objs[ra]? = some (.cells [.int .i64 ((putS (xs.take (i + 1))).length : Nat)]) ∧ KO [k, rn, ra] σ σ1 := by
  have hi' : (i : Int) < xs.length := by omega
  have hI := hw.2 xs[i] (List.getElem_mem hi)
  have hpl := putS_len (xs := xs.take i) fun x hx => hw.2 x (List.mem_of_mem_take hx)
  rw [List.length_take, Nat.min_eq_left (Nat.le_of_lt hi)] at hpl
  have hpn := putN_len xs[i].toNat 8 (by unfold InI64 at hI; omega)
  have hmx : vmm true (.int .i64 xs[i]) (.int .i64 0) = some (.int .i64 (xs[i].toNat : Nat)) := by
    simp only [vmm, if_true]
    congr 2
    split <;> omega
  obtain ⟨s1, hs1⟩ : ∃ s1 : St, s1 = ⟨σ.objs.set k (.lpB (env 61 e) k8_f0.1 k8_f0.2.1 k8_f0.2.2), σ.toks⟩ := ⟨_, rfl⟩
  have K1 : KO [k] σ s1 := by rw [hs1]; exact (KO.refl _ _).set (.inl (by simp)) _
  have c1 : s1.objs[k]? = some (.lpB (env 61 e) k8_f0.1 k8_f0.2.1 k8_f0.2.2) := by rw [hs1]; exact obj_set ho
  have n1 := K1 _ _ (by simp; omega) hn
  have a1 := K1 _ _ (by simp; omega) ha
  have x1 := K1 _ _ (by simp; omega) hx
  obtain ⟨q, s2, hd, rfl, k2⟩ := size_does hI s1
  have c2 := k2.1 _ _ c1
  have n2 := k2.1 _ _ n1
  have a2 := k2.1 _ _ a1
  have x2 := k2.1 _ _ x1
  have ln1 : vload Try.prog s1.objs 3 (.optr rn 0) = some (.int .i64 (i : Nat)) := by rw [vload_obj n1 G3]; rfl
  have la1 : vload Try.prog s1.objs 3 (.optr ra 0) = some (.int .i64 ((putS (xs.take i)).length : Nat)) := by rw [vload_obj a1 G3]; rfl
  have lx1 : vload Try.prog s1.objs 30 (.optr rx 0) = some w := by rw [vload_obj x1 GI]; rfl
  have ln2 : vload Try.prog s2.objs 3 (.optr rn 0) = some (.int .i64 (i : Nat)) := by rw [vload_obj n2 G3]; rfl
  have la2 : vload Try.prog s2.objs 3 (.optr ra 0) = some (.int .i64 ((putS (xs.take i)).length : Nat)) := by rw [vload_obj a2 G3]; rfl
  have lx2 : vload Try.prog s2.objs 30 (.optr rx 0) = some w := by rw [vload_obj x2 GI]; rfl
  have hsum : (putS (xs.take (i + 1))).length = (putS (xs.take i)).length + (putN xs[i].toNat).length := by rw [putS_take hi, List.length_append]
  have hw1 : IntKind.i64.wrap (((putS (xs.take i)).length : Int) + ((putN xs[i].toNat).length : Nat)) = ((putS (xs.take (i + 1))).length : Nat) := by rw [hsum, Int.natCast_add, wrap_i64 (by omega) (by omega)]
  have hwi : IntKind.i64.wrap ((i : Int) + 1) = ((i + 1 : Nat) : Int) := by rw [show ((i : Int) + 1) = ((i + 1 : Nat) : Int) from by omega]; exact wrap_nat (by omega)
  obtain ⟨s3, hs3⟩ : ∃ s3 : St, s3 = ⟨s2.objs.set ra (.cells [.int .i64 ((putS (xs.take (i + 1))).length : Nat)]), s2.toks⟩ := ⟨_, rfl⟩
  have st3 : vstore Try.prog s2 3 (.optr ra 0) (.int .i64 ((putS (xs.take (i + 1))).length : Nat)) = some s3 := by rw [vstore_obj a2 S3 rfl (by simp), hs3]; rfl
  have K3 : KO [ra] s2 s3 := by rw [hs3]; exact (KO.refl _ _).set (.inl (by simp)) _
  have c3 := K3 _ _ (by simp; omega) c2
  have n3 := K3 _ _ (by simp; omega) n2
  have x3 := K3 _ _ (by simp; omega) x2
  have a3 : s3.objs[ra]? = some (.cells [.int .i64 ((putS (xs.take (i + 1))).length : Nat)]) := by rw [hs3]; exact obj_set a2
  have ln3 : vload Try.prog s3.objs 3 (.optr rn 0) = some (.int .i64 (i : Nat)) := by rw [vload_obj n3 G3]; rfl
  obtain ⟨s4, hs4⟩ : ∃ s4 : St, s4 = ⟨s3.objs.set rn (.cells [.int .i64 ((i + 1 : Nat) : Int)]), s3.toks⟩ := ⟨_, rfl⟩
  have st4 : vstore Try.prog s3 3 (.optr rn 0) (.int .i64 ((i + 1 : Nat) : Int)) = some s4 := by rw [vstore_obj n3 S3 rfl (by simp), hs4]; rfl
  have K4 : KO [rn] s3 s4 := by rw [hs4]; exact (KO.refl _ _).set (.inl (by simp)) _
  have c4 := K4 _ _ (by simp; omega) c3
  have a4 := K4 _ _ (by simp; omega) a3
  have n4 : s4.objs[rn]? = some (.cells [.int .i64 ((i + 1 : Nat) : Int)]) := by rw [hs4]; exact obj_set n3
  refine ⟨⟨s4.objs.set k (.lp (env 61 e) k8_f0.1 k8_f0.2.1 k8_f0.2.2), s4.toks⟩, ?_, obj_set c4, ?_, ?_, ?_⟩
  · refine Round.of2 ho (by rw [k8ps0]; rfl) k8_f0_n k8_f0_a k8_f0_b (by rw [show (k8_f0.1).toList = [21, 22] by rw [k8ps0]]; simp only [k8_a, WK, vop, evAll, evOpt, evParts, vbuiltin, vun, vextract, Nat.reduceLT, Nat.reduceEqDiff, ↓reduceIte, reduceCtorEq, Nat.reduceAdd, Int.reduceLT, Int.reduceNeg, valloc_std, noSB, vhot, setE]; exact rfl) ?_
    rw [← hs1]
    have hne : ¬ ((i : Int) = xs.length) := by omega
    simp only [k8_a, WK, vop, evAll, evOpt, evParts, vbuiltin, vun, vextract, Nat.reduceLT, Nat.reduceEqDiff, ↓reduceIte, reduceCtorEq, Nat.reduceAdd, Int.reduceLT, Int.reduceNeg, valloc_std, noSB, vhot, h2, h6, h7, ln1, la1, lx1, hw.len IT, hne, hw.addr IT (Int.natCast_nonneg i) hi', IntsV.load IT hi, Int.toNat_natCast, hmx]
    refine KD.ret hd ?_
    simp only [k8_a, WK, vop, evAll, evOpt, evParts, vbuiltin, vun, vextract, Nat.reduceLT, Nat.reduceEqDiff, ↓reduceIte, reduceCtorEq, Nat.reduceAdd, Int.reduceLT, Int.reduceNeg, valloc_std, noSB, vhot, h2, h6, h7, ln1, la1, lx1, ln2, la2, lx2, ln3, hw1, hwi, hw.len IT, hw.addr IT (Int.natCast_nonneg i) hi', IntsV.load IT hi, Int.toNat_natCast, st3, st4]
    simp only [lpEnd, c4]
  · simp only; rw [List.getElem?_set_ne (by omega)]; exact n4
  · simp only; rw [List.getElem?_set_ne (by omega)]; exact a4
  · have S : ∀ (S' : List Nat) {a b : St}, KO S' a b → (∀ x ∈ S', x ∈ [k, rn, ra]) → KO [k, rn, ra] a b := fun S' a b h hs r o hr => h r o (fun h2 => hr (hs r h2))
    exact ((((S _ K1 (by simp)).trans (k2.ko _)).trans (S _ K3 (by simp))).trans (S _ K4 (by simp))).set (.inl (by simp)) _
theorem chain_end {k rn rx : Nat} {e : Nat → V} {σ : St} {w x y : V} {xs : List Int} (hw : IntsV w xs)
    (ho : σ.objs[k]? = some (.lp (env 61 e) k8_f0.1 k8_f0.2.1 k8_f0.2.2)) (hn : σ.objs[rn]? = some (.cells [.int .i64 (xs.length : Nat)])) (hx : σ.objs[rx]? = some (.cells [w]))
    (h2 : e 2 = .optr rx 0) (h6 : e 6 = .optr rn 0) (hk1 : k ≠ rn) (hk3 : k ≠ rx) :
    ∃ σ1, Round Try.prog prims k [x, y] σ (.bool false) σ1 ∧ σ1.objs[k]? = some (.lpD (.exit 0)) ∧ KO [k] σ σ1 := by
  obtain ⟨s1, hs1⟩ : ∃ s1 : St, s1 = ⟨σ.objs.set k (.lpB (env 61 e) k8_f0.1 k8_f0.2.1 k8_f0.2.2), σ.toks⟩ := ⟨_, rfl⟩
  have K1 : KO [k] σ s1 := by rw [hs1]; exact (KO.refl _ _).set (.inl (by simp)) _
  have c1 : s1.objs[k]? = some (.lpB (env 61 e) k8_f0.1 k8_f0.2.1 k8_f0.2.2) := by rw [hs1]; exact obj_set ho
  have n1 := K1 _ _ (by simp; omega) hn
  have x1 := K1 _ _ (by simp; omega) hx
  have ln1 : vload Try.prog s1.objs 3 (.optr rn 0) = some (.int .i64 (xs.length : Nat)) := by rw [vload_obj n1 G3]; rfl
  have lx1 : vload Try.prog s1.objs 30 (.optr rx 0) = some w := by rw [vload_obj x1 GI]; rfl
  refine ⟨⟨s1.objs.set k (.lpD (.exit 0)), s1.toks⟩, ?_, obj_set c1, K1.set (.inl (by simp)) _⟩
  refine Round.of2 ho (by rw [k8ps0]; rfl) k8_f0_n k8_f0_a k8_f0_b (by rw [show (k8_f0.1).toList = [21, 22] by rw [k8ps0]]; simp only [k8_a, WK, vop, evAll, evOpt, evParts, vbuiltin, vun, vextract, Nat.reduceLT, Nat.reduceEqDiff, ↓reduceIte, reduceCtorEq, Nat.reduceAdd, Int.reduceLT, Int.reduceNeg, valloc_std, noSB, vhot, setE]; exact rfl) ?_
  rw [← hs1]
  simp only [k8_a, WK, vop, evAll, evOpt, evParts, vbuiltin, vun, vextract, Nat.reduceLT, Nat.reduceEqDiff, ↓reduceIte, reduceCtorEq, Nat.reduceAdd, Int.reduceLT, Int.reduceNeg, valloc_std, noSB, vhot, h2, h6, ln1, lx1, hw.len IT]
  simp only [lpEnd, c1]
/-- The loop. -/
theorem chain_loop {e : Nat → V} {σ : St} {v w : V} {xs : List Int} {beh : List UInt8} {rn rc ra rx : Nat} {Q : VX → (Nat → V) → St → Prop} (hw : IntsV w xs) (hl : xs.length ≤ 100000000) (hlb : beh.length ≤ 100000000) (hv : BtsV v (putS xs ++ beh))
    (h2 : e 2 = .optr rx 0) (h6 : e 6 = .optr rn 0) (h7 : e 7 = .optr ra 0) (hx : σ.objs[rx]? = some (.cells [w])) (hc : σ.objs[rc]? = some (.cells [v])) (hn : σ.objs[rn]? = some (.cells [.int .i64 ((0 : Nat) : Int)])) (ha : σ.objs[ra]? = some (.cells [.int .i64 ((0 : Nat) : Int)]))
    (hk4 : rn ≠ ra) (hk5 : rn ≠ rx) (hk6 : ra ≠ rx) (hk7 : rn ≠ rc) (hk8 : ra ≠ rc)
    (hQ : ∀ x σ', (x = .normal ∨ x = .exit 0) → σ'.objs[rn]? = some (.cells [.int .i64 (xs.length : Nat)]) → σ'.objs[ra]? = some (.cells [.int .i64 ((putS xs).length : Nat)]) → KO [rn, ra] σ σ' → Q x e σ') :
    ∃ x σ2, Does Try.prog prims 29 [.yld σ.objs.length, .optr rc 0] ⟨σ.objs ++ [.lp (env 61 e) k8_f0.1 k8_f0.2.1 k8_f0.2.2], σ.toks⟩ (.ret x) σ2 ∧ ∃ x σ', lpOut σ.objs.length (env 61 e) σ2 = some (x, env 61 e, σ') ∧ Q x e σ' := by
  have lx := (List.getElem?_eq_some_iff.1 hx).1
  have lc := (List.getElem?_eq_some_iff.1 hc).1
  have ln := (List.getElem?_eq_some_iff.1 hn).1
  have la := (List.getElem?_eq_some_iff.1 ha).1
  have hpl := putS_len (xs := xs) hw.2
  obtain ⟨k, hk⟩ : ∃ k, k = σ.objs.length := ⟨_, rfl⟩
  obtain ⟨s0, hs0⟩ : ∃ s0 : St, s0 = ⟨σ.objs ++ [.lp (env 61 e) k8_f0.1 k8_f0.2.1 k8_f0.2.2], σ.toks⟩ := ⟨_, rfl⟩
  have k0 : KO [k, rn, ra] σ s0 := by rw [hs0]; exact (KO.refl _ _).push _
  have up : ∀ r o, σ.objs[r]? = some o → s0.objs[r]? = some o := fun r o h => by rw [hs0]; simp only; rw [List.getElem?_append_left (List.getElem?_eq_some_iff.1 h).1]; exact h
  have hle : ∀ i, (putS (xs.take i)).length ≤ (putS xs).length := fun i => by
    have : putS xs = putS (xs.take i) ++ putS (xs.drop i) := by unfold putS; rw [← List.flatMap_append, List.take_append_drop]
    rw [this, List.length_append]; omega
  have S : ∀ {a b : St}, KO [k] a b → KO [k, rn, ra] a b := fun h r o hr => h r o (fun h2 => hr (by simp at h2 ⊢; omega))
  obtain ⟨σ2, hr, hI⟩ := Runs.of (k := k) (r := rc) (v := v) (bs := putS xs ++ beh) (fun n s => s.objs[k]? = some (.lp (env 61 e) k8_f0.1 k8_f0.2.1 k8_f0.2.2) ∧ KO [k, rn, ra] σ s ∧ ∃ i, i ≤ xs.length ∧ n = (putS (xs.take i)).length ∧ s.objs[rn]? = some (.cells [.int .i64 (i : Nat)]) ∧ s.objs[ra]? = some (.cells [.int .i64 ((putS (xs.take i)).length : Nat)]))
    (fun s => s.objs[k]? = some (.lpD (.exit 0)) ∧ KO [k, rn, ra] σ s ∧ s.objs[rn]? = some (.cells [.int .i64 (xs.length : Nat)]) ∧ s.objs[ra]? = some (.cells [.int .i64 ((putS xs).length : Nat)]))
    (fun n s hnn hI hz => by
      obtain ⟨ho, hko, i, hi, rfl, hN, hA⟩ := hI
      by_cases hlt : i < xs.length
      · obtain ⟨s1, g1, g2, g3, g4, g5⟩ := chain_round hw hl hlt ho hN hA (hko rx _ (by simp; omega) hx) h2 h6 h7 (by omega) (by omega) (by omega) hk4 hk5 hk6
        have hI := hw.2 xs[i] (List.getElem_mem hlt)
        have ht : takeS ((putS xs ++ beh).drop (putS (xs.take i)).length) = (xs[i].toNat, (putN xs[i].toNat).length) := by rw [putS_split hlt, takeS_putN (by unfold InI64 at hI; omega)]
        have hsum : (putS (xs.take (i + 1))).length = (putS (xs.take i)).length + (putN xs[i].toNat).length := by rw [putS_take hlt, List.length_append]
        rw [ht]
        exact .inl ⟨s1, g1, g5 rc _ (by simp; omega) (hko rc _ (by simp; omega) hc), g2, hko.trans g5, i + 1, hlt, hsum.symm, g3, g4⟩
      · obtain rfl : i = xs.length := by omega
        obtain ⟨s1, g1, g2, g3⟩ := chain_end (x := .int .i64 ((putS (xs.take xs.length)).length : Nat)) (y := .int .i64 ((takeS ((putS xs ++ beh).drop (putS (xs.take xs.length)).length)).1 : Nat)) hw ho hN (hko rx _ (by simp; omega) hx) h2 h6 (by omega) (by omega)
        have e1 : xs.take xs.length = xs := List.take_of_length_le (Nat.le_refl _)
        refine .inr ⟨s1, g1, g2, hko.trans (S g3), g3 rn _ (by simp; omega) hN, ?_⟩
        rw [e1] at hA
        exact g3 ra _ (by simp; omega) hA)
    (putS xs ++ beh).length 0 s0 (by omega) (Nat.zero_le _) ⟨by rw [hs0, hk]; exact push_new _ _, k0, 0, Nat.zero_le _, by simp [putS], up _ _ hn, by simpa [putS] using up _ _ ha⟩
  have hd : Does Try.prog prims 29 [.yld k, .optr rc 0] s0 (.ret (.tuple [])) σ2 := numbers_does hv (by rw [List.length_append]; omega) hr (up _ _ hc)
  have hko : KO [k, rn, ra] σ σ2 → KO [rn, ra] σ ⟨σ2.objs.set k .dead, σ2.toks⟩ := by
    intro hk1 r o hr' hro
    have hrl := (List.getElem?_eq_some_iff.1 hro).1
    simp only
    rw [List.getElem?_set_ne (by omega)]
    exact hk1 r o (by simp at hr' ⊢; omega) hro
  rw [← hs0, ← hk]
  have e1 : xs.take xs.length = xs := List.take_of_length_le (Nat.le_refl _)
  have ne : ∀ {r o}, r ≠ k → σ2.objs[r]? = some o → (σ2.objs.set k .dead)[r]? = some o := fun hr ho => by rw [List.getElem?_set_ne (Ne.symm hr)]; exact ho
  rcases hI with ⟨n, hnn, ⟨ho, hk1, i, hi, rfl, hN, hA⟩, hz⟩ | ⟨ho, hk1, hN, hA⟩
  · have hi2 : i = xs.length := by
      rcases Nat.lt_or_ge i xs.length with hlt | h
      · exfalso
        have hI := hw.2 xs[i] (List.getElem_mem hlt)
        rw [putS_split hlt, takeS_putN (by unfold InI64 at hI; omega)] at hz
        have := putN_pos xs[i].toNat
        simp only at hz
        omega
      · omega
    subst hi2
    rw [e1] at hA
    exact ⟨_, σ2, hd, .normal, ⟨σ2.objs.set k .dead, σ2.toks⟩, by rw [lpOut, ho], hQ _ _ (.inl rfl) (ne (by omega) hN) (ne (by omega) hA) (hko hk1)⟩
  · exact ⟨_, σ2, hd, .exit 0, ⟨σ2.objs.set k .dead, σ2.toks⟩, by rw [lpOut, ho], hQ _ _ (.inr rfl) (ne (by omega) hN) (ne (by omega) hA) (hko hk1)⟩

theorem chains_true : LawTrue Try.prog prims 8 [30, 22] := by
  intro args hA hb
  match args, hA with
  | [w, v], ⟨hx, hx2, _⟩ =>
    obtain ⟨xs, hw, hl⟩ := ints_arg IT.u IT.ue IT.c hx
    obtain ⟨beh, hv, hl2⟩ := bytes_arg T22 T5 C5 hx2
    simp only [vbulks] at hb
    have hps := putS_len hw.2
    have key : ∃ r σ', Does Try.prog prims 8 [w, v] st0 r σ' ∧ r = .ret (.bool true) := by
      apply k8_is.does (by simp)
      have hcv : vcells w = [w] := by rcases hw.1 with ⟨rfl, _⟩ | ⟨p, rfl⟩ <;> rfl
      have hci : ∀ n : Int, vcells (.int .i64 n) = [.int .i64 n] := fun _ => rfl
      have hcb : ∀ b : Bool, vcells (.bool b) = [.bool b] := fun _ => rfl
      obtain ⟨s0, hs0⟩ : ∃ s0 : St, s0 = ⟨[.cells [w], .cells [.bool false]], []⟩ := ⟨_, rfl⟩
      have hst0 : st0 = ⟨[], []⟩ := rfl
      obtain ⟨q1, s1, hwk, rfl, k1⟩ := wakes_any s0
      have x1 : s1.objs[0]? = some (.cells [w]) := k1.1 _ _ (by rw [hs0]; rfl)
      have r1 : s1.objs[1]? = some (.cells [.bool false]) := k1.1 _ _ (by rw [hs0]; rfl)
      have lx1 : vload Try.prog s1.objs 30 (.optr 0 0) = some w := by rw [vload_obj x1 GI]; rfl
      obtain ⟨v1, rp, s2, d2, k2, h2, q2⟩ := put_does (σ := s1) (v := .nils) (bs := []) (.inl (.inl ⟨rfl, rfl⟩)) hw (by simp; omega)
      rw [List.nil_append] at h2
      obtain ⟨vb, rb, s3, a3, h3, k3, q3⟩ := h2.append (y := v) (ys := beh) (.inl hv) (by omega)
      have k3' : Keep s1 s3 := k2.overX k3 q2
      have x3 := k3'.1 _ _ x1
      have r3 := k3'.1 _ _ r1
      have lb3 := h3.lt
      obtain ⟨bs, hbs⟩ : ∃ bs, bs = putS xs ++ beh := ⟨_, rfl⟩
      have hbl : bs.length = (putS xs).length + beh.length := by rw [hbs, List.length_append]
      rw [← hbs] at h3
      obtain ⟨s4, hs4⟩ : ∃ s4 : St, s4 = ⟨s3.objs ++ [.cells [.int .i64 0]] ++ [.cells [.int .i64 0]], s3.toks⟩ := ⟨_, rfl⟩
      have k4 : Keep s3 s4 := by rw [hs4]; exact ((Keep.refl s3).push _).push _
      have l4 : s4.objs.length = s3.objs.length + 2 := by rw [hs4]; simp
      have n4 : s4.objs[s3.objs.length]? = some (.cells [.int .i64 ((0 : Nat) : Int)]) := by rw [hs4]; simp
      have a4 : s4.objs[s3.objs.length + 1]? = some (.cells [.int .i64 ((0 : Nat) : Int)]) := by rw [hs4]; simp
      have st1 : vstore Try.prog s4 3 (.optr s3.objs.length 0) (.int .i64 0) = some ⟨s4.objs.set s3.objs.length (.cells [.int .i64 0]), s4.toks⟩ := by
        rw [vstore_obj n4 S3 rfl (by simp)]; rfl
      have st1' : (⟨s4.objs.set s3.objs.length (.cells [.int .i64 0]), s4.toks⟩ : St) = s4 := by rw [hs4]; simp
      rw [st1'] at st1
      have st2 : vstore Try.prog s4 3 (.optr (s3.objs.length + 1) 0) (.int .i64 0) = some ⟨s4.objs.set (s3.objs.length + 1) (.cells [.int .i64 0]), s4.toks⟩ := by
        rw [vstore_obj a4 S3 rfl (by simp)]; rfl
      have st2' : (⟨s4.objs.set (s3.objs.length + 1) (.cells [.int .i64 0]), s4.toks⟩ : St) = s4 := by rw [hs4]; simp
      rw [st2'] at st2
      have h4 := h3.keep k4
      obtain ⟨q5, s5, d5, w5, rfl, hw5, hc5, k5⟩ := mknumbers_rb h4.rb (by omega)
      obtain ⟨q6, s6, d6, w6, rfl, hw6, hc6, k6⟩ := mknumbers_rb (h4.keep k5).rb (by omega)
      have kk : Keep s4 s6 := k5.trans k6
      have x6 := kk.1 _ _ (k4.1 _ _ x3)
      have r6 := kk.1 _ _ (k4.1 _ _ r3)
      have n6 := kk.1 _ _ n4
      have a6 := kk.1 _ _ a4
      have h6 := h4.keep kk
      have l5 := Keep.olen k5
      have lr3 := (List.getElem?_eq_some_iff.1 r3).1
      have hwm : IntKind.i64.wrap ((bs.length : Int) - (beh.length : Int)) = (((putS xs).length : Nat) : Int) := by rw [wrap_i64 (by omega) (by omega)]; omega
      simp only [k8_a, WK, vop, evAll, evOpt, evParts, vbuiltin, vun, vextract, Nat.reduceLT, Nat.reduceEqDiff, ↓reduceIte, reduceCtorEq, Nat.reduceAdd, Int.reduceLT, Int.reduceNeg, valloc_std, noSB, vhot, List.getD_cons_zero, List.getD_cons_succ, vbox, hcv, hci, hcb, zeroB, zeroI, hst0, List.nil_append, List.cons_append, List.length_cons, List.length_nil, ← hs0]
      refine KD.ret hwk ?_
      simp only [k8_a, WK, vop, evAll, evOpt, evParts, vbuiltin, vun, vextract, Nat.reduceLT, Nat.reduceEqDiff, ↓reduceIte, reduceCtorEq, Nat.reduceAdd, Int.reduceLT, Int.reduceNeg, valloc_std, noSB, vhot, lx1, nilE]
      refine KD.ret d2 ?_
      simp only [k8_a, WK, vop, evAll, evOpt, evParts, vbuiltin, vun, vextract, Nat.reduceLT, Nat.reduceEqDiff, ↓reduceIte, reduceCtorEq, Nat.reduceAdd, Int.reduceLT, Int.reduceNeg, valloc_std, noSB, vhot, List.getD_cons_zero, List.getD_cons_succ, a3, vbox, hci, zeroI, List.length_append, List.length_cons, List.length_nil, Nat.zero_add, ← hs4, st1, st2]
      refine KD.ret d5 ?_
      simp only [k8_a, WK, vop, evAll, evOpt, evParts, vbuiltin, vun, vextract, Nat.reduceLT, Nat.reduceEqDiff, ↓reduceIte, reduceCtorEq, Nat.reduceAdd, Int.reduceLT, Int.reduceNeg, valloc_std, noSB, vhot, ofNilF, eqlNilF]
      refine KD.ret d6 ?_
      simp only [k8_a, WK, vop, evAll, evOpt, evParts, vbuiltin, vun, vextract, Nat.reduceLT, Nat.reduceEqDiff, ↓reduceIte, reduceCtorEq, Nat.reduceAdd, Int.reduceLT, Int.reduceNeg, valloc_std, noSB, vhot]
      refine chain_loop (xs := xs) (beh := beh) (v := w6) (w := w) (rn := s3.objs.length) (ra := s3.objs.length + 1) (rc := s5.objs.length) (rx := 0) hw (by omega) (by omega) (by rw [← hbs]; exact hw6) (by simp [upd_some]) (by simp [upd_some]) (by simp [upd_some]) x6 hc6 n6 a6 (by omega) (by omega) (by omega) (by omega) (by omega) ?_
      intro x s7 hx7 n7 a7 k7o
      have x7 := k7o 0 _ (by rw [List.mem_cons, List.mem_singleton]; omega) x6
      have r7 := k7o 1 _ (by rw [List.mem_cons, List.mem_singleton]; omega) r6
      have rb7 : vlen Try.prog 22 vb = some (.int .i64 (bs.length : Nat)) := h3.rb.len
      have ln7 : vload Try.prog s7.objs 3 (.optr s3.objs.length 0) = some (.int .i64 (xs.length : Nat)) := by rw [vload_obj n7 G3]; rfl
      have la7 : vload Try.prog s7.objs 3 (.optr (s3.objs.length + 1) 0) = some (.int .i64 ((putS xs).length : Nat)) := by rw [vload_obj a7 G3]; rfl
      have lx7 : vload Try.prog s7.objs 30 (.optr 0 0) = some w := by rw [vload_obj x7 GI]; rfl
      have hst : vstore Try.prog s7 4 (.optr 1 0) (.bool true) = some ⟨s7.objs.set 1 (.cells [.bool true]), s7.toks⟩ := by
        rw [vstore_obj r7 S4 rfl (by simp)]; rfl
      have hlr : vload Try.prog (s7.objs.set 1 (.cells [.bool true])) 4 (.optr 1 0) = some (.bool true) := by
        rw [vload_obj (obj_set r7) G4]; rfl
      rcases hx7 with rfl | rfl <;> simp only [k8_a, WK, vop, evAll, evOpt, evParts, vbuiltin, vun, vextract, Nat.reduceLT, Nat.reduceEqDiff, ↓reduceIte, reduceCtorEq, Nat.reduceAdd, Int.reduceLT, Int.reduceNeg, valloc_std, noSB, vhot, List.getD_cons_zero, List.getD_cons_succ, ln7, la7, lx7, hw.len IT, rb7, hv.len T22, hwm, hst, hlr]
    obtain ⟨r, σ', ⟨n, h⟩, rfl⟩ := key
    exact ⟨n, σ', h⟩
end Go.Proofs.Ytmcadfejkcpblaa.Q
