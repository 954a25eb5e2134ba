/- PackNumbers: for every input of bulk at most 1048576 the law answers true. -/
import Derived.Test.YtmcadfejkcpblaaNa
import Derived.Test.YtmcadfejkcpblaaTl
import Derived.Test.YtmcadfejkcpblaaMn
set_option linter.unusedVariables false
set_option linter.unusedSimpArgs false
set_option maxRecDepth 100000
namespace Go.Proofs.Ytmcadfejkcpblaa.Q
open Go Go.RowKit Go.Proofs

/-- All objects but these stay. -/
def KO (S : List Nat) (σ σ' : St) : Prop := ∀ r o, r ∉ S → σ.objs[r]? = some o → σ'.objs[r]? = some o
theorem KO.refl (S : List Nat) (σ : St) : KO S σ σ := fun _ _ _ h => h
theorem KO.trans {S : List Nat} {σ σ1 σ2 : St} (h : KO S σ σ1) (h2 : KO S σ1 σ2) : KO S σ σ2 := fun r o hr ho => h2 r o hr (h r o hr ho)
theorem KO.push {S : List Nat} {σ σ1 : St} (h : KO S σ σ1) (o : Ob) : KO S σ ⟨σ1.objs ++ [o], σ1.toks⟩ := fun r p hr hp => by
  have := h r p hr hp
  simp only
  rw [List.getElem?_append_left (List.getElem?_eq_some_iff.1 this).1]
  exact this
theorem KO.set {S : List Nat} {σ σ1 : St} (h : KO S σ σ1) {k : Nat} (hk : k ∈ S ∨ σ.objs.length ≤ k) (o : Ob) : KO S σ ⟨σ1.objs.set k o, σ1.toks⟩ := fun r p hr hp => by
  have h1 := h r p hr hp
  have h2 := (List.getElem?_eq_some_iff.1 hp).1
  simp only
  rw [List.getElem?_set_ne]
  · exact h1
  · rintro rfl
    rcases hk with hk | hk
    · exact hr hk
    · omega
theorem Keep.ko {σ σ' : St} (h : Keep σ σ') (S : List Nat) : KO S σ σ' := fun r o _ ho => h.1 r o ho
theorem k7ps0 : k7_f0.1 = #[26, 27] := by kernel_rfl
theorem k7ps1 : k7_f1.1 = #[60, 61] := by kernel_rfl

/-- A round, walked in two parts. -/
theorem Round.of2 {P : Program} {pr : Prim} {N k : Nat} {ps : Array Tmp} {asg body : Code} {vs : List V} {e E1 : Nat → V} {σ : St} {v : V} {σ' : St} {ca cb : CC} (ho : σ.objs[k]? = some (.lp (env N e) ps asg body)) (hl : vs.length = ps.size) (hn : hasRF asg = false ∧ hasRF body = false)
    (ea : cc P pr.hot N asg = some ca) (eb : cc P pr.hot N body = some cb)
    (h1 : Ev P pr N ca (setE e ps.toList vs) σ fun x e1 σ1 => x = .normal ∧ e1 = E1 ∧ σ1 = σ)
    (h2 : Ev P pr N cb E1 ⟨σ.objs.set k (.lpB (env N e) ps asg body), σ.toks⟩ fun x e2 σ2 => lpEnd k x σ2 = some (v, σ')) : Round P pr k vs σ v σ' := by
  refine Round.of ho hl hn.1 hn.2 ea eb (h1.mono fun x e1 σ1 h => ?_)
  obtain ⟨rfl, rfl, rfl⟩ := h
  exact ⟨rfl, _, _, _, _, ho, h2⟩
/-- A round of the first loop. -/
theorem num_round {k ra rb : Nat} {e : Nat → V} {σ : St} {v : V} {bs : List UInt8} (hv : BtsV v bs) (hl : bs.length ≤ 4611686018427387904) {n : Nat} (hn : n ≤ bs.length)
    (ho : σ.objs[k]? = some (.lp (env 74 e) k7_f0.1 k7_f0.2.1 k7_f0.2.2)) (ha : σ.objs[ra]? = some (.cells [.int .i64 (n : Nat)])) (hb : σ.objs[rb]? = some (.cells [v])) (h2 : e 2 = .optr rb 0) (h7 : e 7 = .optr ra 0)
    (hne : ra ≠ rb) (hka : k ≠ ra) (hkb : k ≠ rb) (hz : (takeS (bs.drop n)).2 ≠ 0) :
    ∃ σ1, Round Try.prog prims k [.int .i64 (n : Nat), .int .i64 ((takeS (bs.drop n)).1 : Nat)] σ (.bool true) σ1 ∧ σ1.objs[k]? = some (.lp (env 74 e) k7_f0.1 k7_f0.2.1 k7_f0.2.2) ∧ σ1.objs[ra]? = some (.cells [.int .i64 ((n + (takeS (bs.drop n)).2 : Nat) : Int)]) ∧ KO [k, ra] σ σ1 := by
  obtain ⟨u, hu, hu2⟩ := bts_drop hv hn hl
  have hml : (bs.drop n).length ≤ maxLen := by
    have : (4611686018427387904 : Nat) ≤ maxLen := by decide
    rw [List.length_drop]; omega
  have hle := (takeS_lt (bs.drop n)).2.2
  rw [List.length_drop] at hle
  have hw : IntKind.i64.wrap ((n : Int) + ((takeS (bs.drop n)).2 : Nat)) = ((n + (takeS (bs.drop n)).2 : Nat) : Int) := by
    rw [show (n : Int) + ((takeS (bs.drop n)).2 : Nat) = ((n + (takeS (bs.drop n)).2 : Nat) : Int) by omega]; exact wrap_nat (by omega)
  have hz' : ¬ (((takeS (bs.drop n)).2 : Nat) : Int) = 0 := by omega
  obtain ⟨s1, hs1⟩ : ∃ s1 : St, s1 = ⟨σ.objs.set k (.lpB (env 74 e) k7_f0.1 k7_f0.2.1 k7_f0.2.2), σ.toks⟩ := ⟨_, rfl⟩
  have a1 : s1.objs[ra]? = some (.cells [.int .i64 (n : Nat)]) := by rw [hs1]; simp only; rw [List.getElem?_set_ne hka]; exact ha
  have b1 : s1.objs[rb]? = some (.cells [v]) := by rw [hs1]; simp only; rw [List.getElem?_set_ne hkb]; exact hb
  have c1 : s1.objs[k]? = some (.lpB (env 74 e) k7_f0.1 k7_f0.2.1 k7_f0.2.2) := by rw [hs1]; exact obj_set ho
  have hlb : vload Try.prog s1.objs 22 (.optr rb 0) = some v := by rw [vload_obj b1 G22]; rfl
  have hla : vload Try.prog s1.objs 3 (.optr ra 0) = some (.int .i64 (n : Nat)) := by rw [vload_obj a1 G3]; rfl
  have hst : vstore Try.prog s1 3 (.optr ra 0) (.int .i64 ((n + (takeS (bs.drop n)).2 : Nat) : Int)) = some ⟨s1.objs.set ra (.cells [.int .i64 ((n + (takeS (bs.drop n)).2 : Nat) : Int)]), s1.toks⟩ := by
    rw [vstore_obj a1 S3 rfl (by simp)]; rfl
  obtain ⟨s2, hs2⟩ : ∃ s2 : St, s2 = ⟨s1.objs.set ra (.cells [.int .i64 ((n + (takeS (bs.drop n)).2 : Nat) : Int)]), s1.toks⟩ := ⟨_, rfl⟩
  rw [← hs2] at hst
  have c2 : s2.objs[k]? = some (.lpB (env 74 e) k7_f0.1 k7_f0.2.1 k7_f0.2.2) := by rw [hs2]; simp only; rw [List.getElem?_set_ne (Ne.symm hka)]; exact c1
  have a2 : s2.objs[ra]? = some (.cells [.int .i64 ((n + (takeS (bs.drop n)).2 : Nat) : Int)]) := by rw [hs2]; exact obj_set a1
  refine ⟨⟨s2.objs.set k (.lp (env 74 e) k7_f0.1 k7_f0.2.1 k7_f0.2.2), s2.toks⟩, ?_, obj_set c2, ?_, ?_⟩
  · refine Round.of2 ho (by rw [k7ps0]; rfl) k7_f0_n k7_f0_a k7_f0_b (by rw [show (k7_f0.1).toList = [26, 27] by rw [k7ps0]]; simp only [k7_a, WK, vop, evAll, evOpt, evParts, vbuiltin, vun, vextract, Nat.reduceLT, Nat.reduceEqDiff, ↓reduceIte, reduceCtorEq, Nat.reduceAdd, Int.reduceLT, Int.reduceNeg, valloc_std, noSB, vhot, setE]; exact rfl) ?_
    rw [← hs1]
    simp only [k7_a, WK, vop, evAll, evOpt, evParts, vbuiltin, vun, vextract, Nat.reduceLT, Nat.reduceEqDiff, ↓reduceIte, reduceCtorEq, Nat.reduceAdd, Int.reduceLT, Int.reduceNeg, valloc_std, noSB, vhot, h2, h7, hlb, hla, hu, T22]
    refine KD.ret (take2_does hu2 hml s1) ?_
    simp only [k7_a, WK, vop, evAll, evOpt, evParts, vbuiltin, vun, vextract, Nat.reduceLT, Nat.reduceEqDiff, ↓reduceIte, reduceCtorEq, Nat.reduceAdd, Int.reduceLT, Int.reduceNeg, valloc_std, noSB, vhot, h2, h7, hlb, hla, hz', hw, hst]
    simp only [lpEnd, c2]
  · simp only; rw [List.getElem?_set_ne hka]; exact a2
  · rw [hs2, hs1]
    exact (((KO.refl _ _).set (.inl (by simp)) _).set (.inl (by simp)) _).set (.inl (by simp)) _
/-- The first loop. -/
theorem nums_first {e : Nat → V} {σ : St} {v w : V} {bs : List UInt8} {rb rc ra : Nat} (hv : BtsV v bs) (hw : BtsV w bs) (hl : bs.length ≤ 4611686018427387904) (h2 : e 2 = .optr rb 0) (h7 : e 7 = .optr ra 0)
    (hb : σ.objs[rb]? = some (.cells [v])) (hc : σ.objs[rc]? = some (.cells [w])) (ha : σ.objs[ra]? = some (.cells [.int .i64 ((0 : Nat) : Int)])) (hne : ra ≠ rb) (hnc : ra ≠ rc) :
    ∃ n σ', n ≤ bs.length ∧ (takeS (bs.drop n)).2 = 0 ∧ σ'.objs[ra]? = some (.cells [.int .i64 (n : Nat)]) ∧ KO [ra] σ σ' ∧
      ∃ σ2, Does Try.prog prims 29 [.yld σ.objs.length, .optr rc 0] ⟨σ.objs ++ [.lp (env 74 e) k7_f0.1 k7_f0.2.1 k7_f0.2.2], σ.toks⟩ (.ret (.tuple [])) σ2 ∧ lpOut σ.objs.length (env 74 e) σ2 = some (.normal, env 74 e, σ') := by
  have lb := (List.getElem?_eq_some_iff.1 hb).1
  have lc := (List.getElem?_eq_some_iff.1 hc).1
  have la := (List.getElem?_eq_some_iff.1 ha).1
  obtain ⟨s0, hs0⟩ : ∃ s0 : St, s0 = ⟨σ.objs ++ [.lp (env 74 e) k7_f0.1 k7_f0.2.1 k7_f0.2.2], σ.toks⟩ := ⟨_, rfl⟩
  have k0 : KO [σ.objs.length, ra] σ s0 := by rw [hs0]; exact (KO.refl _ _).push _
  obtain ⟨σ2, hr, hI⟩ := Runs.of (k := σ.objs.length) (r := rc) (v := w) (bs := bs) (fun n s => s.objs[σ.objs.length]? = some (.lp (env 74 e) k7_f0.1 k7_f0.2.1 k7_f0.2.2) ∧ s.objs[ra]? = some (.cells [.int .i64 (n : Nat)]) ∧ KO [σ.objs.length, ra] σ s) (fun _ => False)
    (fun n s hn hI hz => by
      obtain ⟨ho, hA, hk⟩ := hI
      obtain ⟨s1, h1, h3, h4, h5⟩ := num_round hv hl hn ho hA (hk rb _ (by simp; omega) hb) h2 h7 hne (by omega) (by omega) hz
      exact .inl ⟨s1, h1, h5 rc _ (by simp; omega) (hk rc _ (by simp; omega) hc), h3, h4, hk.trans h5⟩)
    bs.length 0 s0 (by omega) (Nat.zero_le _) ⟨by rw [hs0]; exact push_new _ _, by rw [hs0]; simp only; rw [List.getElem?_append_left la]; exact ha, k0⟩
  obtain ⟨n, hn, ⟨ho, hA, hk⟩, hz⟩ := hI.resolve_right id
  refine ⟨n, ⟨σ2.objs.set σ.objs.length .dead, σ2.toks⟩, hn, hz, ?_, ?_, σ2, ?_, ?_⟩
  · simp only; rw [List.getElem?_set_ne (by omega)]; exact hA
  · intro r o hr' hro
    have hrl := (List.getElem?_eq_some_iff.1 hro).1
    simp only
    rw [List.getElem?_set_ne (by omega)]
    exact hk r o (by simp at hr' ⊢; omega) hro
  · rw [← hs0]
    exact numbers_does hw hl hr (by rw [hs0]; simp only; rw [List.getElem?_append_left lc]; exact hc)
  · rw [lpOut, ho]
theorem nums_first' {e : Nat → V} {σ : St} {v w : V} {bs : List UInt8} {rb rc ra : Nat} {Q : VX → (Nat → V) → St → Prop} (hv : BtsV v bs) (hw : BtsV w bs) (hl : bs.length ≤ 4611686018427387904) (h2 : e 2 = .optr rb 0) (h7 : e 7 = .optr ra 0)
    (hb : σ.objs[rb]? = some (.cells [v])) (hc : σ.objs[rc]? = some (.cells [w])) (ha : σ.objs[ra]? = some (.cells [.int .i64 ((0 : Nat) : Int)])) (hne : ra ≠ rb) (hnc : ra ≠ rc)
    (hQ : ∀ n σ', n ≤ bs.length → (takeS (bs.drop n)).2 = 0 → σ'.objs[ra]? = some (.cells [.int .i64 (n : Nat)]) → KO [ra] σ σ' → Q .normal e σ') :
    ∃ x σ2, Does Try.prog prims 29 [.yld σ.objs.length, .optr rc 0] ⟨σ.objs ++ [.lp (env 74 e) k7_f0.1 k7_f0.2.1 k7_f0.2.2], σ.toks⟩ (.ret x) σ2 ∧ ∃ x σ', lpOut σ.objs.length (env 74 e) σ2 = some (x, env 74 e, σ') ∧ Q x e σ' := by
  obtain ⟨n, σ', h1, h3, h4, h5, σ2, h6, h8⟩ := nums_first hv hw hl h2 h7 hb hc ha hne hnc
  exact ⟨_, σ2, h6, _, _, h8, hQ n σ' h1 h3 h4 h5⟩
/-- A round of the second loop. -/
theorem cnt_round {k ra rs : Nat} {e : Nat → V} {σ : St} {x y : V} {c : Nat} {stop : Int} (hcl : c < 4611686018427387904)
    (ho : σ.objs[k]? = some (.lp (env 74 e) k7_f1.1 k7_f1.2.1 k7_f1.2.2)) (ha : σ.objs[ra]? = some (.cells [.int .i64 (c : Nat)])) (hb : σ.objs[rs]? = some (.cells [.int .i64 stop])) (h3 : e 3 = .optr rs 0) (h14 : e 14 = .optr ra 0)
    (hne : ra ≠ rs) (hka : k ≠ ra) (hkb : k ≠ rs) :
    ∃ b σ1, Round Try.prog prims k [x, y] σ (.bool b) σ1 ∧ b = decide (((c + 1 : Nat) : Int) < stop) ∧ σ1.objs[k]? = some (if b = true then .lp (env 74 e) k7_f1.1 k7_f1.2.1 k7_f1.2.2 else .lpD (.exit 4)) ∧ σ1.objs[ra]? = some (.cells [.int .i64 ((c + 1 : Nat) : Int)]) ∧ KO [k, ra] σ σ1 := by
  have hw : IntKind.i64.wrap ((c : Int) + 1) = ((c + 1 : Nat) : Int) := by
    rw [show (c : Int) + 1 = ((c + 1 : Nat) : Int) by omega]; exact wrap_nat (by omega)
  obtain ⟨s1, hs1⟩ : ∃ s1 : St, s1 = ⟨σ.objs.set k (.lpB (env 74 e) k7_f1.1 k7_f1.2.1 k7_f1.2.2), σ.toks⟩ := ⟨_, rfl⟩
  have a1 : s1.objs[ra]? = some (.cells [.int .i64 (c : Nat)]) := by rw [hs1]; simp only; rw [List.getElem?_set_ne hka]; exact ha
  have b1 : s1.objs[rs]? = some (.cells [.int .i64 stop]) := by rw [hs1]; simp only; rw [List.getElem?_set_ne hkb]; exact hb
  have c1 : s1.objs[k]? = some (.lpB (env 74 e) k7_f1.1 k7_f1.2.1 k7_f1.2.2) := by rw [hs1]; exact obj_set ho
  have hla : vload Try.prog s1.objs 3 (.optr ra 0) = some (.int .i64 (c : Nat)) := by rw [vload_obj a1 G3]; rfl
  have hst : vstore Try.prog s1 3 (.optr ra 0) (.int .i64 ((c + 1 : Nat) : Int)) = some ⟨s1.objs.set ra (.cells [.int .i64 ((c + 1 : Nat) : Int)]), s1.toks⟩ := by
    rw [vstore_obj a1 S3 rfl (by simp)]; rfl
  obtain ⟨s2, hs2⟩ : ∃ s2 : St, s2 = ⟨s1.objs.set ra (.cells [.int .i64 ((c + 1 : Nat) : Int)]), s1.toks⟩ := ⟨_, rfl⟩
  rw [← hs2] at hst
  have c2 : s2.objs[k]? = some (.lpB (env 74 e) k7_f1.1 k7_f1.2.1 k7_f1.2.2) := by rw [hs2]; simp only; rw [List.getElem?_set_ne (Ne.symm hka)]; exact c1
  have a2 : s2.objs[ra]? = some (.cells [.int .i64 ((c + 1 : Nat) : Int)]) := by rw [hs2]; exact obj_set a1
  have b2 : s2.objs[rs]? = some (.cells [.int .i64 stop]) := by rw [hs2]; simp only; rw [List.getElem?_set_ne hne]; exact b1
  have hl2 : vload Try.prog s2.objs 3 (.optr ra 0) = some (.int .i64 ((c + 1 : Nat) : Int)) := by rw [vload_obj a2 G3]; rfl
  have hl3 : vload Try.prog s2.objs 3 (.optr rs 0) = some (.int .i64 stop) := by rw [vload_obj b2 G3]; rfl
  have kk : ∀ o, KO [k, ra] σ ⟨s2.objs.set k o, s2.toks⟩ := fun o => by
    rw [hs2, hs1]
    exact (((KO.refl _ _).set (.inl (by simp)) _).set (.inl (by simp)) _).set (.inl (by simp)) _
  by_cases hlt : ((c + 1 : Nat) : Int) < stop
  · have hlt' : ¬ stop ≤ ((c + 1 : Nat) : Int) := by omega
    refine ⟨true, ⟨s2.objs.set k (.lp (env 74 e) k7_f1.1 k7_f1.2.1 k7_f1.2.2), s2.toks⟩, ?_, by simp; omega, obj_set c2, ?_, kk _⟩
    · refine Round.of2 ho (by rw [k7ps1]; rfl) k7_f1_n k7_f1_a k7_f1_b (by rw [show (k7_f1.1).toList = [60, 61] by rw [k7ps1]]; simp only [k7_a, WK, vop, evAll, evOpt, evParts, vbuiltin, vun, vextract, Nat.reduceLT, Nat.reduceEqDiff, ↓reduceIte, reduceCtorEq, Nat.reduceAdd, Int.reduceLT, Int.reduceNeg, valloc_std, noSB, vhot, setE]; exact rfl) ?_
      rw [← hs1]
      simp only [k7_a, WK, vop, evAll, evOpt, evParts, vbuiltin, vun, vextract, Nat.reduceLT, Nat.reduceEqDiff, ↓reduceIte, reduceCtorEq, Nat.reduceAdd, Int.reduceLT, Int.reduceNeg, valloc_std, noSB, vhot, h3, h14, hla, hw, hst, hl2, hl3, hlt']
      simp only [lpEnd, c2]
    · simp only; rw [List.getElem?_set_ne hka]; exact a2
  · have hlt' : stop ≤ ((c + 1 : Nat) : Int) := by omega
    refine ⟨false, ⟨s2.objs.set k (.lpD (.exit 4)), s2.toks⟩, ?_, by simp; omega, obj_set c2, ?_, kk _⟩
    · refine Round.of2 ho (by rw [k7ps1]; rfl) k7_f1_n k7_f1_a k7_f1_b (by rw [show (k7_f1.1).toList = [60, 61] by rw [k7ps1]]; simp only [k7_a, WK, vop, evAll, evOpt, evParts, vbuiltin, vun, vextract, Nat.reduceLT, Nat.reduceEqDiff, ↓reduceIte, reduceCtorEq, Nat.reduceAdd, Int.reduceLT, Int.reduceNeg, valloc_std, noSB, vhot, setE]; exact rfl) ?_
      rw [← hs1]
      simp only [k7_a, WK, vop, evAll, evOpt, evParts, vbuiltin, vun, vextract, Nat.reduceLT, Nat.reduceEqDiff, ↓reduceIte, reduceCtorEq, Nat.reduceAdd, Int.reduceLT, Int.reduceNeg, valloc_std, noSB, vhot, h3, h14, hla, hw, hst, hl2, hl3, hlt']
      simp only [lpEnd, c2]
    · simp only; rw [List.getElem?_set_ne hka]; exact a2
/-- The second loop. -/
theorem nums_second {e : Nat → V} {σ : St} {w : V} {bs : List UInt8} {rs rc ra : Nat} {stop : Int} (hw : BtsV w bs) (hl : bs.length ≤ 4611686018427387900) (h3 : e 3 = .optr rs 0) (h14 : e 14 = .optr ra 0)
    (hb : σ.objs[rs]? = some (.cells [.int .i64 stop])) (hc : σ.objs[rc]? = some (.cells [w])) (ha : σ.objs[ra]? = some (.cells [.int .i64 ((0 : Nat) : Int)])) (hne : ra ≠ rs) (hnc : ra ≠ rc) :
    ∃ c x σ', (x = .normal ∨ x = .exit 4) ∧ ¬ (0 < stop ∧ stop < ((c : Nat) : Int)) ∧ σ'.objs[ra]? = some (.cells [.int .i64 (c : Nat)]) ∧ KO [ra] σ σ' ∧
      ∃ σ2, Does Try.prog prims 29 [.yld σ.objs.length, .optr rc 0] ⟨σ.objs ++ [.lp (env 74 e) k7_f1.1 k7_f1.2.1 k7_f1.2.2], σ.toks⟩ (.ret (.tuple [])) σ2 ∧ lpOut σ.objs.length (env 74 e) σ2 = some (x, env 74 e, σ') := by
  have lb := (List.getElem?_eq_some_iff.1 hb).1
  have lc := (List.getElem?_eq_some_iff.1 hc).1
  have la := (List.getElem?_eq_some_iff.1 ha).1
  obtain ⟨s0, hs0⟩ : ∃ s0 : St, s0 = ⟨σ.objs ++ [.lp (env 74 e) k7_f1.1 k7_f1.2.1 k7_f1.2.2], σ.toks⟩ := ⟨_, rfl⟩
  have k0 : KO [σ.objs.length, ra] σ s0 := by rw [hs0]; exact (KO.refl _ _).push _
  obtain ⟨σ2, hr, hI⟩ := Runs.of (k := σ.objs.length) (r := rc) (v := w) (bs := bs) (fun n s => s.objs[σ.objs.length]? = some (.lp (env 74 e) k7_f1.1 k7_f1.2.1 k7_f1.2.2) ∧ KO [σ.objs.length, ra] σ s ∧ ∃ c : Nat, s.objs[ra]? = some (.cells [.int .i64 (c : Nat)]) ∧ c ≤ n ∧ (c = 0 ∨ (c : Int) < stop))
    (fun s => s.objs[σ.objs.length]? = some (.lpD (.exit 4)) ∧ KO [σ.objs.length, ra] σ s ∧ ∃ c : Nat, s.objs[ra]? = some (.cells [.int .i64 (c : Nat)]) ∧ ¬ (0 < stop ∧ stop < (c : Int)))
    (fun n s hn hI hz => by
      obtain ⟨ho, hk, c, hA, hcn, hc0⟩ := hI
      obtain ⟨b, s1, h1, h2, h4, h5, h6⟩ := cnt_round (x := .int .i64 (n : Nat)) (y := .int .i64 ((takeS (bs.drop n)).1 : Nat)) (show c < 4611686018427387904 by omega) ho hA (hk rs _ (by simp; omega) hb) h3 h14 hne (by omega) (by omega)
      cases b with
      | true =>
        have hlt : ((c + 1 : Nat) : Int) < stop := of_decide_eq_true h2.symm
        exact .inl ⟨s1, h1, h6 rc _ (by simp; omega) (hk rc _ (by simp; omega) hc), h4, hk.trans h6, c + 1, h5, by omega, .inr hlt⟩
      | false =>
        have hlt : ¬ ((c + 1 : Nat) : Int) < stop := of_decide_eq_false h2.symm
        exact .inr ⟨s1, h1, h4, hk.trans h6, c + 1, h5, by omega⟩)
    bs.length 0 s0 (by omega) (Nat.zero_le _) ⟨by rw [hs0]; exact push_new _ _, k0, 0, by rw [hs0]; simp only; rw [List.getElem?_append_left la]; exact ha, Nat.le_refl _, .inl rfl⟩
  have hd : Does Try.prog prims 29 [.yld σ.objs.length, .optr rc 0] ⟨σ.objs ++ [.lp (env 74 e) k7_f1.1 k7_f1.2.1 k7_f1.2.2], σ.toks⟩ (.ret (.tuple [])) σ2 := by
    rw [← hs0]
    exact numbers_does hw (by omega) hr (by rw [hs0]; simp only; rw [List.getElem?_append_left lc]; exact hc)
  have hko : KO [σ.objs.length, ra] σ σ2 → KO [ra] σ ⟨σ2.objs.set σ.objs.length .dead, σ2.toks⟩ := by
    intro hk r o hr' hro
    have hrl := (List.getElem?_eq_some_iff.1 hro).1
    simp only
    rw [List.getElem?_set_ne (by omega)]
    exact hk r o (by simp at hr' ⊢; omega) hro
  rcases hI with ⟨n, hn, ⟨ho, hk, c, hA, _, hc0⟩, hz⟩ | ⟨ho, hk, c, hA, hc0⟩
  · refine ⟨c, .normal, ⟨σ2.objs.set σ.objs.length .dead, σ2.toks⟩, .inl rfl, by omega, ?_, hko hk, σ2, hd, by rw [lpOut, ho]⟩
    simp only; rw [List.getElem?_set_ne (by omega)]; exact hA
  · refine ⟨c, .exit 4, ⟨σ2.objs.set σ.objs.length .dead, σ2.toks⟩, .inr rfl, hc0, ?_, hko hk, σ2, hd, by rw [lpOut, ho]⟩
    simp only; rw [List.getElem?_set_ne (by omega)]; exact hA

theorem nums_second' {e : Nat → V} {σ : St} {w : V} {bs : List UInt8} {rs rc ra : Nat} {stop : Int} {Q : VX → (Nat → V) → St → Prop} (hw : BtsV w bs) (hl : bs.length ≤ 4611686018427387900) (h3 : e 3 = .optr rs 0) (h14 : e 14 = .optr ra 0)
    (hb : σ.objs[rs]? = some (.cells [.int .i64 stop])) (hc : σ.objs[rc]? = some (.cells [w])) (ha : σ.objs[ra]? = some (.cells [.int .i64 ((0 : Nat) : Int)])) (hne : ra ≠ rs) (hnc : ra ≠ rc)
    (hQ : ∀ x (c : Nat) σ', (x = .normal ∨ x = .exit 4) → ¬ (0 < stop ∧ stop < ((c : Nat) : Int)) → σ'.objs[ra]? = some (.cells [.int .i64 (c : Nat)]) → KO [ra] σ σ' → Q x e σ') :
    ∃ x σ2, Does Try.prog prims 29 [.yld σ.objs.length, .optr rc 0] ⟨σ.objs ++ [.lp (env 74 e) k7_f1.1 k7_f1.2.1 k7_f1.2.2], σ.toks⟩ (.ret x) σ2 ∧ ∃ x σ', lpOut σ.objs.length (env 74 e) σ2 = some (x, env 74 e, σ') ∧ Q x e σ' := by
  obtain ⟨n, x, σ', h1, h2, h4, h5, σ2, h6, h8⟩ := nums_second hw hl h3 h14 hb hc ha hne hnc
  exact ⟨_, σ2, h6, _, _, h8, hQ x n σ' h1 h2 h4 h5⟩
theorem KO.sub {S : List Nat} {s0 σ σ' : St} {k : Nat} (h : KO [] s0 σ) (h2 : KO [k] σ σ') (hk : s0.objs.length ≤ k) : KO [] s0 σ' := fun r o _ ho => by
  have := (List.getElem?_eq_some_iff.1 ho).1
  exact h2 r o (by simp; omega) (h r o (by simp) ho)
theorem zeroI : zeroT Try.prog 3 = some (.int .i64 0) := by kernel_rfl
theorem zeroB : zeroT Try.prog 4 = some (.bool false) := by kernel_rfl
theorem putN_small {x : Nat} (h : x ≤ 127) : putN x = [UInt8.ofNat x] := by rw [putN, dif_neg (by omega)]
theorem putN_big {x : Nat} (h : 127 < x) : putN x = UInt8.ofNat (x % 128 + 128) :: putN (x / 128) := by rw [putN, dif_pos h]
theorem ofNilF : ofVal .nilFunc = some .nilf := by kernel_rfl
theorem eqlNilF (f : FuncId) (c : List V) (a b : Operand) : vbin Try.prog .eql 36 a b (.func f c) .nilf = some (.bool false) := by kernel_rfl
theorem takeW : takeS [172, 2, 7] = (300, 2) := by decide +kernel
theorem putW : putS [0, 127, 128, 300] = [0, 127, 128, 1, 172, 2] := by
  show putN 0 ++ (putN 127 ++ (putN 128 ++ (putN 300 ++ []))) = _
  rw [putN_small (x := 0) (by omega), putN_small (x := 127) (by omega), putN_big (x := 128) (by omega), putN_big (x := 300) (by omega), putN_small (x := 128 / 128) (by omega), putN_small (x := 300 / 128) (by omega)]
  rfl
theorem bw3 : vbuildSlice Try.prog 22 3 [(0, .int .u8 172), (1, .int .u8 2), (2, .int .u8 7)] = some (.slice .exact 1 (([172, 2, 7] : List UInt8).map byteV) 3) := by kernel_rfl
theorem bw6 : vbuildSlice Try.prog 22 6 [(0, .int .u8 0), (1, .int .u8 127), (2, .int .u8 128), (3, .int .u8 1), (4, .int .u8 172), (5, .int .u8 2)] = some (.slice .exact 1 (([0, 127, 128, 1, 172, 2] : List UInt8).map byteV) 6) := by kernel_rfl
theorem bi4 : vbuildSlice Try.prog 30 4 [(0, .int .i64 0), (1, .int .i64 127), (2, .int .i64 128), (3, .int .i64 300)] = some (.slice .exact 1 (([0, 127, 128, 300] : List Int).map i64V) 4) := by kernel_rfl
theorem nilE : ofVal (.slice none 0 0) = some .nils := by kernel_rfl
/-- The waking, from any state. -/
theorem wakes_any (σ : St) : ∃ q σ', Does Try.prog prims 11 [] σ q σ' ∧ q = .ret (.bool true) ∧ Keep σ σ' := by
  apply k11_is.does (by simp)
  have hb : BtsV (.slice .exact 1 (([172, 2, 7] : List UInt8).map byteV) 3) [172, 2, 7] := .inr ⟨_, rfl⟩
  have hb6 : BtsV (.slice .exact 1 (([0, 127, 128, 1, 172, 2] : List UInt8).map byteV) 6) [0, 127, 128, 1, 172, 2] := .inr ⟨_, rfl⟩
  have hi4 : IntsV (.slice .exact 1 (([0, 127, 128, 300] : List Int).map i64V) 4) [0, 127, 128, 300] := ⟨.inr ⟨_, rfl⟩, by intro x hx; simp at hx; unfold InI64; omega⟩
  have ht : Does Try.prog prims 12 [.slice .exact 1 (([172, 2, 7] : List UInt8).map byteV) 3] σ (.ret (.tuple [.int .i64 300, .int .i64 2])) σ := by
    have ht := take_does hb (by decide) σ
    rw [takeW] at ht
    exact ht
  obtain ⟨v', r, σ1, hd, hk, hB, _⟩ := put_does (σ := σ) (v := .nils) (bs := []) (.inl (.inl ⟨rfl, rfl⟩)) hi4 (by simp)
  rw [List.nil_append, putW] at hB
  have hs := samebytes_does hB.rb (RB.keep (σ := σ1) (.inl hb6 : RB σ1 _ _) (Keep.refl _)) (by simp)
  rw [decide_eq_true rfl] at hs
  simp only [k11_a, WK, vop, evAll, evOpt, evParts, vbuiltin, vun, vextract, Nat.reduceLT, Nat.reduceEqDiff, ↓reduceIte, reduceCtorEq, Nat.reduceAdd, Int.reduceLT, Int.reduceNeg, valloc_std, noSB, vhot, bw3]
  refine KD.ret ht ?_
  simp only [k11_a, WK, vop, evAll, evOpt, evParts, vbuiltin, vun, vextract, Nat.reduceLT, Nat.reduceEqDiff, ↓reduceIte, reduceCtorEq, Nat.reduceAdd, Int.reduceLT, Int.reduceNeg, valloc_std, noSB, vhot, bi4, bw6, nilE]
  refine KD.ret hd ?_
  simp only [k11_a, WK, vop, evAll, evOpt, evParts, vbuiltin, vun, vextract, Nat.reduceLT, Nat.reduceEqDiff, ↓reduceIte, reduceCtorEq, Nat.reduceAdd, Int.reduceLT, Int.reduceNeg, valloc_std, noSB, vhot, bi4, bw6, nilE]
  refine KD.ret hs ?_
  simp only [k11_a, WK, vop, evAll, evOpt, evParts, vbuiltin, vun, vextract, Nat.reduceLT, Nat.reduceEqDiff, ↓reduceIte, reduceCtorEq, Nat.reduceAdd, Int.reduceLT, Int.reduceNeg, valloc_std, noSB, vhot]
  exact hk
theorem numbers_true : LawTrue Try.prog prims 7 [22, 3] := by
  intro args hA hb
  match args, hA with
  | [v, w], ⟨hx, hx2, _⟩ =>
    obtain ⟨bs, hv, hl⟩ := bytes_arg T22 T5 C5 hx
    obtain ⟨stop, rfl, hI⟩ : ∃ stop : Int, w = .int .i64 stop ∧ InI64 stop := int_arg T3 hx2
    simp only [vbulks] at hb
    have key : ∃ r σ', Does Try.prog prims 7 [v, .int .i64 stop] st0 r σ' ∧ r = .ret (.bool true) := by
      apply k7_is.does (by simp)
      have hcv : vcells v = [v] := by rcases hv with ⟨rfl, _⟩ | ⟨p, rfl⟩ <;> rfl
      have hci : ∀ n : Int, vcells (.int .i64 n) = [.int .i64 n] := fun _ => rfl
      have hcb : ∀ b : Bool, vcells (.bool b) = [.bool b] := fun _ => rfl
      obtain ⟨s0, hs0⟩ : ∃ s0 : St, s0 = ⟨[.cells [v], .cells [.int .i64 stop], .cells [.bool false]], []⟩ := ⟨_, rfl⟩
      have hst0 : st0 = ⟨[], []⟩ := rfl
      obtain ⟨q1, s1, hwk, rfl, k1⟩ := wakes_any s0
      have b1 : s1.objs[0]? = some (.cells [v]) := k1.1 _ _ (by rw [hs0]; rfl)
      have st1 : s1.objs[1]? = some (.cells [.int .i64 stop]) := k1.1 _ _ (by rw [hs0]; rfl)
      have r1 : s1.objs[2]? = some (.cells [.bool false]) := k1.1 _ _ (by rw [hs0]; rfl)
      have lb1 : vload Try.prog s1.objs 22 (.optr 0 0) = some v := by rw [vload_obj b1 G22]; rfl
      obtain ⟨q2, s2, hmk, w, rfl, hw, hc2, k2⟩ := mknumbers_does hv (by omega) s1
      simp only [k7_a, WK, vop, evAll, evOpt, evParts, vbuiltin, vun, vextract, Nat.reduceLT, Nat.reduceEqDiff, ↓reduceIte, reduceCtorEq, Nat.reduceAdd, Int.reduceLT, Int.reduceNeg, valloc_std, noSB, vhot, vbox, hcv, hci, hcb, zeroB, zeroI, hst0, List.nil_append, List.cons_append, List.length_cons, List.length_nil, ← hs0]
      refine KD.ret hwk ?_
      simp only [k7_a, WK, vop, evAll, evOpt, evParts, vbuiltin, vun, vextract, Nat.reduceLT, Nat.reduceEqDiff, ↓reduceIte, reduceCtorEq, Nat.reduceAdd, Int.reduceLT, Int.reduceNeg, valloc_std, noSB, vhot, lb1]
      refine KD.ret hmk ?_
      simp only [k7_a, WK, vop, evAll, evOpt, evParts, vbuiltin, vun, vextract, Nat.reduceLT, Nat.reduceEqDiff, ↓reduceIte, reduceCtorEq, Nat.reduceAdd, Int.reduceLT, Int.reduceNeg, valloc_std, noSB, vhot]
      have hst2 : s2.objs.length = s2.objs.length := rfl
      have b2 := k2.1 _ _ b1
      have st2 := k2.1 _ _ st1
      have r2 := k2.1 _ _ r1
      have hl1 : 3 ≤ s1.objs.length := by
        have := (List.getElem?_eq_some_iff.1 r1).1
        omega
      simp only [k7_a, WK, vop, evAll, evOpt, evParts, vbuiltin, vun, vextract, Nat.reduceLT, Nat.reduceEqDiff, ↓reduceIte, reduceCtorEq, Nat.reduceAdd, Int.reduceLT, Int.reduceNeg, valloc_std, noSB, vhot, ofNilF, eqlNilF]
      refine Ev.loopF (fun (i : Nat) e σ' => e 6 = .int .i64 (i : Nat) ∧ i ≤ 2 ∧ KO [] s2 σ') (fun i => 2 - i) 0 ⟨by simp [upd_some], Nat.zero_le _, KO.refl _ _⟩ ?_
      rintro i e σ' ⟨h6, hi, hko⟩ hf
      have h2 : e 2 = .optr 0 0 := (hf 2 (by decide)).trans (by simp [upd_some])
      have h3 : e 3 = .optr 1 0 := (hf 3 (by decide)).trans (by simp [upd_some])
      have h4 : e 4 = .optr 2 0 := (hf 4 (by decide)).trans (by simp [upd_some])
      have h5 : e 5 = .func 29 [.optr s1.objs.length 0] := (hf 5 (by decide)).trans (by simp [upd_some])
      clear hf
      by_cases hlt : i < 2
      · have hlt' : (i : Int) < 2 := by omega
        have bA := hko _ _ (by simp) b2
        have stA := hko _ _ (by simp) st2
        have rA := hko _ _ (by simp) r2
        have cA := hko _ _ (by simp) hc2
        obtain ⟨t1, ht1⟩ : ∃ t1 : St, t1 = ⟨σ'.objs ++ [.cells [.int .i64 0]], σ'.toks⟩ := ⟨_, rfl⟩
        have kt1 : KO [] σ' t1 := by rw [ht1]; exact (KO.refl _ _).push _
        have at1 : t1.objs[σ'.objs.length]? = some (.cells [.int .i64 ((0 : Nat) : Int)]) := by rw [ht1]; exact push_new _ _
        have hst : vstore Try.prog t1 3 (.optr σ'.objs.length 0) (.int .i64 0) = some ⟨t1.objs.set σ'.objs.length (.cells [.int .i64 0]), t1.toks⟩ := by
          rw [vstore_obj at1 S3 rfl (by simp)]; rfl
        have hst' : (⟨t1.objs.set σ'.objs.length (.cells [.int .i64 0]), t1.toks⟩ : St) = t1 := by rw [ht1]; simp
        rw [hst'] at hst
        have lA := (List.getElem?_eq_some_iff.1 rA).1
        have lB := (List.getElem?_eq_some_iff.1 cA).1
        simp only [k7_a, WK, vop, evAll, evOpt, evParts, vbuiltin, vun, vextract, Nat.reduceLT, Nat.reduceEqDiff, ↓reduceIte, reduceCtorEq, Nat.reduceAdd, Int.reduceLT, Int.reduceNeg, valloc_std, noSB, vhot, h6, h5, hlt', hci, zeroI, vbox, ← ht1, hst]
        refine nums_first' (v := v) (w := w) (bs := bs) (rb := 0) (ra := σ'.objs.length) (rc := s1.objs.length) hv hw (by omega) (by simp [upd_some, h2]) (by simp [upd_some]) (kt1 _ _ (by simp) bA) (kt1 _ _ (by simp) cA) at1 (by omega) (by omega) ?_
        intro n t2 hn hz at2 kt2
        have kt2' : KO [] σ' t2 := KO.sub (S := []) kt1 kt2 (Nat.le_refl _)
        have b2' := kt2' _ _ (by simp) bA
        have st2' := kt2' _ _ (by simp) stA
        have r2' := kt2' _ _ (by simp) rA
        have c2' := kt2' _ _ (by simp) cA
        obtain ⟨u, hu, hu2⟩ := bts_drop hv hn (by omega)
        have hml : (bs.drop n).length ≤ maxLen := by
          have : (4611686018427387904 : Nat) ≤ maxLen := by decide
          rw [List.length_drop]; omega
        have hlb : vload Try.prog t2.objs 22 (.optr 0 0) = some v := by rw [vload_obj b2' G22]; rfl
        have hla : vload Try.prog t2.objs 3 (.optr σ'.objs.length 0) = some (.int .i64 (n : Nat)) := by rw [vload_obj at2 G3]; rfl
        have hz' : (((takeS (bs.drop n)).2 : Nat) : Int) = 0 := by omega
        simp only [k7_a, WK, vop, evAll, evOpt, evParts, vbuiltin, vun, vextract, Nat.reduceLT, Nat.reduceEqDiff, ↓reduceIte, reduceCtorEq, Nat.reduceAdd, Int.reduceLT, Int.reduceNeg, valloc_std, noSB, vhot, h2, hlb, hla, hu, T22]
        refine KD.ret (take2_does hu2 hml t2) ?_
        obtain ⟨t3, ht3⟩ : ∃ t3 : St, t3 = ⟨t2.objs ++ [.cells [.int .i64 0]], t2.toks⟩ := ⟨_, rfl⟩
        have kt3 : KO [] t2 t3 := by rw [ht3]; exact (KO.refl _ _).push _
        have at3 : t3.objs[t2.objs.length]? = some (.cells [.int .i64 ((0 : Nat) : Int)]) := by rw [ht3]; exact push_new _ _
        have hst3 : vstore Try.prog t3 3 (.optr t2.objs.length 0) (.int .i64 0) = some ⟨t3.objs.set t2.objs.length (.cells [.int .i64 0]), t3.toks⟩ := by
          rw [vstore_obj at3 S3 rfl (by simp)]; rfl
        have hst3' : (⟨t3.objs.set t2.objs.length (.cells [.int .i64 0]), t3.toks⟩ : St) = t3 := by rw [ht3]; simp
        rw [hst3'] at hst3
        have lA2 := (List.getElem?_eq_some_iff.1 r2').1
        have lB2 := (List.getElem?_eq_some_iff.1 c2').1
        simp only [k7_a, WK, vop, evAll, evOpt, evParts, vbuiltin, vun, vextract, Nat.reduceLT, Nat.reduceEqDiff, ↓reduceIte, reduceCtorEq, Nat.reduceAdd, Int.reduceLT, Int.reduceNeg, valloc_std, noSB, vhot, hz', h5, hci, zeroI, vbox, ← ht3, hst3]
        refine nums_second' (stop := stop) (w := w) (bs := bs) (rs := 1) (ra := t2.objs.length) (rc := s1.objs.length) hw (by omega) (by simp [upd_some, h3]) (by simp [upd_some]) (kt3 _ _ (by simp) st2') (kt3 _ _ (by simp) c2') at3 (by omega) (by omega) ?_
        intro x c t4 hx hc at4 kt4
        have kt4' : KO [] t2 t4 := KO.sub (S := []) kt3 kt4 (Nat.le_refl _)
        have st4 := kt4' _ _ (by simp) st2'
        have hl4 : vload Try.prog t4.objs 3 (.optr t2.objs.length 0) = some (.int .i64 (c : Nat)) := by rw [vload_obj at4 G3]; rfl
        have hl5 : vload Try.prog t4.objs 3 (.optr 1 0) = some (.int .i64 stop) := by rw [vload_obj st4 G3]; rfl
        have hwi : IntKind.i64.wrap ((i : Int) + 1) = ((i + 1 : Nat) : Int) := by rw [show ((i : Int) + 1) = ((i + 1 : Nat) : Int) from by omega]; exact wrap_nat (by omega)
        have kend : KO [] s2 t4 := (hko.trans kt2').trans kt4'
        rcases hx with rfl | rfl
        · by_cases hs0 : 0 < stop
          · have hs1 : ¬ stop < ((c : Nat) : Int) := by omega
            simp only [k7_a, WK, vop, evAll, evOpt, evParts, vbuiltin, vun, vextract, Nat.reduceLT, Nat.reduceEqDiff, ↓reduceIte, reduceCtorEq, Nat.reduceAdd, Int.reduceLT, Int.reduceNeg, valloc_std, noSB, vhot, h3, h6, hl4, hl5, hs0, hs1, hwi]
            exact ⟨i + 1, ⟨by simp [upd_some], by omega, kend⟩, by omega⟩
          · simp only [k7_a, WK, vop, evAll, evOpt, evParts, vbuiltin, vun, vextract, Nat.reduceLT, Nat.reduceEqDiff, ↓reduceIte, reduceCtorEq, Nat.reduceAdd, Int.reduceLT, Int.reduceNeg, valloc_std, noSB, vhot, h3, h6, hl4, hl5, hs0, hwi]
            exact ⟨i + 1, ⟨by simp [upd_some], by omega, kend⟩, by omega⟩
        · by_cases hs0 : 0 < stop
          · have hs1 : ¬ stop < ((c : Nat) : Int) := by omega
            simp only [k7_a, WK, vop, evAll, evOpt, evParts, vbuiltin, vun, vextract, Nat.reduceLT, Nat.reduceEqDiff, ↓reduceIte, reduceCtorEq, Nat.reduceAdd, Int.reduceLT, Int.reduceNeg, valloc_std, noSB, vhot, h3, h6, hl4, hl5, hs0, hs1, hwi]
            exact ⟨i + 1, ⟨by simp [upd_some], by omega, kend⟩, by omega⟩
          · simp only [k7_a, WK, vop, evAll, evOpt, evParts, vbuiltin, vun, vextract, Nat.reduceLT, Nat.reduceEqDiff, ↓reduceIte, reduceCtorEq, Nat.reduceAdd, Int.reduceLT, Int.reduceNeg, valloc_std, noSB, vhot, h3, h6, hl4, hl5, hs0, hwi]
            exact ⟨i + 1, ⟨by simp [upd_some], by omega, kend⟩, by omega⟩
      · have hlt' : ¬ (i : Int) < 2 := by omega
        have rA := hko _ _ (by simp) r2
        have hst : vstore Try.prog σ' 4 (.optr 2 0) (.bool true) = some ⟨σ'.objs.set 2 (.cells [.bool true]), σ'.toks⟩ := by
          rw [vstore_obj rA S4 rfl (by simp)]; rfl
        have hl4 : vload Try.prog (σ'.objs.set 2 (.cells [.bool true])) 4 (.optr 2 0) = some (.bool true) := by
          rw [vload_obj (obj_set rA) G4]; rfl
        simp only [k7_a, WK, vop, evAll, evOpt, evParts, vbuiltin, vun, vextract, Nat.reduceLT, Nat.reduceEqDiff, ↓reduceIte, reduceCtorEq, Nat.reduceAdd, Int.reduceLT, Int.reduceNeg, valloc_std, noSB, vhot, h4, h6, hlt', hst, hl4]
    obtain ⟨r, σ', ⟨n, h⟩, rfl⟩ := key
    exact ⟨n, σ', h⟩
end Go.Proofs.Ytmcadfejkcpblaa.Q
