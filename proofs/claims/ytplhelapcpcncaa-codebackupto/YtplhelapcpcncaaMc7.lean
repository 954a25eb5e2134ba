/- A part of the proof: Ch, Ci, Cj, Ck, Cl, Cm, Cn, Co, Cp, Cq, Tl, Tr, Td, Tf, Tg, Vo, Cr, Cs. -/
import Derived.Test.YtplhelapcpcncaaMc6
/- One height for each place that is reached: the plain law. -/
set_option linter.unusedVariables false
set_option linter.unusedSimpArgs false
namespace Go.Proofs.Ytplhelapcpcncaa.Q
open Go Go.RowKit Go.Proofs
def nextS (i : Ins) (p : Nat) : List Int := if i.op = 10 then [] else if i.op = 7 then [i.a] else if i.op = 8 then [(p : Int) + 1, i.a] else [(p : Int) + 1]
def gx (xs : List Int) (q : Nat) : Int := xs.getD q (-1)
theorem pushS_ge (i : Ins) : 0 ≤ pushS i := by unfold pushS; split <;> omega
/-- These are heights of all places that are reached. -/
def GoodH (m : Mdl) (f : Fun) (h : Nat → Option Int) : Prop := h 0 = some 0 ∧ ∀ p x, h p = some x → ∃ i, f.code[p]? = some i ∧ 0 ≤ x - popS m i ∧ x - popS m i + pushS i ≤ f.stack ∧ ∀ q ∈ nextS i p, 0 ≤ q ∧ h q.toNat = some (x - popS m i + pushS i)
def DoneH (m : Mdl) (f : Fun) (xs : List Int) (p : Nat) : Prop := ∃ i, f.code[p]? = some i ∧ 0 ≤ gx xs p - popS m i ∧ gx xs p - popS m i + pushS i ≤ f.stack ∧ ∀ q ∈ nextS i p, 0 ≤ q ∧ q < f.code.length ∧ gx xs q.toNat = gx xs p - popS m i + pushS i
/-- What holds of the places known and those to be gone to; but of the place b nothing is said yet. -/
structure HInv (m : Mdl) (f : Fun) (xs ws : List Int) (b : Option Nat) : Prop where
  len : xs.length = f.code.length
  zero : gx xs 0 = 0
  lo : ∀ p, -1 ≤ gx xs p
  wk : ∀ w ∈ ws, 0 ≤ w ∧ w < f.code.length ∧ 0 ≤ gx xs w.toNat
  dn : ∀ p, 0 ≤ gx xs p → some p = b ∨ (p : Int) ∈ ws ∨ DoneH m f xs p
  ok : ∀ h, GoodH m f h → ∀ p, 0 ≤ gx xs p → h p = some (gx xs p)
theorem gx_set {xs : List Int} {q : Nat} {x : Int} (hq : q < xs.length) (p : Nat) : gx (xs.set q x) p = if p = q then x else gx xs p := by
  unfold gx
  rw [List.getD_eq_getElem?_getD, List.getD_eq_getElem?_getD, List.getElem?_set]
  by_cases h : q = p
  · subst h; simp [hq]
  · rw [if_neg h, if_neg (fun e => h e.symm)]
/-- A new place is known. -/
theorem HInv.more {m : Mdl} {f : Fun} {xs ws : List Int} {b : Nat} (H : HInv m f xs ws (some b)) (hb : 0 ≤ gx xs b) {q : Int} {y : Int} (hy : 0 ≤ y) (h0 : 0 ≤ q) (h1 : q < f.code.length) (hq : gx xs q.toNat < 0) (hok : ∀ h, GoodH m f h → h q.toNat = some y) :
    HInv m f (xs.set q.toNat y) (ws ++ [q]) (some b) ∧ (∀ p, 0 ≤ gx xs p → gx (xs.set q.toNat y) p = gx xs p) ∧ gx (xs.set q.toNat y) q.toNat = y := by
  have hql : q.toNat < xs.length := by rw [H.len]; omega
  have hs := gx_set (x := y) hql
  have keep : ∀ p, 0 ≤ gx xs p → gx (xs.set q.toNat y) p = gx xs p := by
    intro p hp
    rw [hs, if_neg (fun e => by rw [e] at hp; omega)]
  refine ⟨⟨by rw [List.length_set]; exact H.len, by rw [keep 0 (by rw [H.zero]; exact Int.le_refl _)]; exact H.zero, fun p => ?_, fun w hw => ?_, fun p hp => ?_, fun h hg p hp => ?_⟩, keep, by rw [hs, if_pos rfl]⟩
  · rw [hs]; split
    · omega
    · exact H.lo p
  · rcases List.mem_append.1 hw with hw | hw
    · obtain ⟨a1, a2, a3⟩ := H.wk w hw
      exact ⟨a1, a2, by rw [keep _ a3]; exact a3⟩
    · rw [List.mem_singleton] at hw
      subst hw
      exact ⟨h0, h1, by rw [hs, if_pos rfl]; exact hy⟩
  · rw [hs] at hp
    by_cases e : p = q.toNat
    · exact .inr (.inl (List.mem_append.2 (.inr (by rw [List.mem_singleton]; omega))))
    · rw [if_neg e] at hp
      rcases H.dn p hp with h2 | h2 | ⟨i, g1, g2, g3, g4⟩
      · exact .inl h2
      · exact .inr (.inl (List.mem_append.2 (.inl h2)))
      · refine .inr (.inr ⟨i, g1, by rw [keep p hp]; exact g2, by rw [keep p hp]; exact g3, fun r hr => ?_⟩)
        obtain ⟨k1, k2, k3⟩ := g4 r hr
        have : 0 ≤ gx xs r.toNat := by rw [k3]; have := pushS_ge i; omega
        exact ⟨k1, k2, by rw [keep _ this, keep p hp]; exact k3⟩
  · rw [hs] at hp ⊢
    by_cases e : p = q.toNat
    · rw [if_pos e, e]; exact hok h hg
    · rw [if_neg e] at hp ⊢; exact H.ok h hg p hp
/-- Nothing is left to be gone to. -/
theorem HInv.good {m : Mdl} {f : Fun} {xs : List Int} (H : HInv m f xs [] none) : ∃ h, GoodH m f h := by
  refine ⟨fun p => if 0 ≤ gx xs p then some (gx xs p) else none, by simp [H.zero], fun p x hp => ?_⟩
  by_cases h0 : 0 ≤ gx xs p
  · simp only [h0, if_true] at hp
    injection hp with hp
    subst hp
    rcases H.dn p h0 with h | h | ⟨i, g1, g2, g3, g4⟩
    · cases h
    · cases h
    · refine ⟨i, g1, g2, g3, fun q hq => ?_⟩
      obtain ⟨k1, k2, k3⟩ := g4 q hq
      have : 0 ≤ gx xs q.toNat := by rw [k3]; have := pushS_ge i; omega
      exact ⟨k1, by simp only; rw [if_pos this, k3]⟩
  · simp only [h0, if_false] at hp
    cases hp
/-- A place is done. -/
theorem HInv.close {m : Mdl} {f : Fun} {xs ws : List Int} {b : Nat} (H : HInv m f xs ws (some b)) (hd : DoneH m f xs b) : HInv m f xs ws none :=
  ⟨H.len, H.zero, H.lo, H.wk, fun p hp => by
    rcases H.dn p hp with h | h | h
    · injection h with h; subst h; exact .inr (.inr hd)
    · exact .inr (.inl h)
    · exact .inr (.inr h), H.ok⟩
end Go.Proofs.Ytplhelapcpcncaa.Q

set_option linter.unusedVariables false
set_option linter.unusedSimpArgs false
set_option maxRecDepth 100000
namespace Go.Proofs.Ytplhelapcpcncaa.Q
open Go Go.RowKit Go.Proofs
theorem NZ : zeroT Try.prog 39 = some (.agg [.int .i64 0, .int .i64 0]) := by kernel_rfl
theorem code_load {σ : St} {w : V} {l : List Ins} (h : CodeS σ w l) {n : Nat} (hn : n < l.length) : ∃ p, vindexAddr Try.prog 35 w (.int .i64 (n : Int)) = some p ∧ ∀ σ', Keep σ σ' → vload Try.prog σ'.objs 39 p = some (.agg (insC l[n])) := by
  obtain ⟨p, hp, hat⟩ := RowS.at h NT NS (by omega) hn (kk := .i64)
  rw [flat_part insC_len hn] at hat
  exact ⟨p, hp, fun σ' hk => (hat.keep hk).load NG NS⟩
/-- A variable of an instruction's kind that gets one. -/
theorem insmade (σ : St) (i : Ins) : ∃ s1 s2 : St, s1 = ⟨σ.objs ++ [Ob.cells [.int .i64 0, .int .i64 0]], σ.toks⟩ ∧ vstore Try.prog s1 39 (.optr σ.objs.length 0) (.agg (insC i)) = some s2 ∧ Keep σ s2 ∧ s2.objs[σ.objs.length]? = some (.cells (insC i)) ∧ s2.objs.length = σ.objs.length + 1 := by
  obtain ⟨s1, hs1⟩ : ∃ s1 : St, s1 = ⟨σ.objs ++ [Ob.cells [.int .i64 0, .int .i64 0]], σ.toks⟩ := ⟨_, rfl⟩
  have k1 : Keep σ s1 := by rw [hs1]; exact (Keep.refl σ).push _
  have q1 : s1.objs[σ.objs.length]? = some (.cells [.int .i64 0, .int .i64 0]) := by rw [hs1]; exact push_new _ _
  obtain ⟨s2, e⟩ : ∃ s2 : St, s2 = ⟨s1.objs.set σ.objs.length (.cells (insC i)), s1.toks⟩ := ⟨_, rfl⟩
  obtain ⟨k, hk2⟩ := KeepX.set_eq q1 e
  refine ⟨s1, s2, hs1, by rw [vstore_agg (cs' := insC i) q1 NS rfl rfl, e], ⟨fun q o ho => k.1 q o (by have := (List.getElem?_eq_some_iff.1 ho).1; omega) (k1.1 q o ho), Nat.le_trans k1.2.1 k.2.1, fun j hj => k.2.2 j (k1.2.2 j hj)⟩, hk2, by rw [e, hs1]; simp⟩
theorem Keep.overX2 {σ σ1 σ2 : St} {r : Nat} (h : Keep σ σ1) (h2 : KeepX r σ1 σ2) (hr : σ.objs.length ≤ r) : Keep σ σ2 :=
  ⟨fun q o ho => h2.1 q o (by have := (List.getElem?_eq_some_iff.1 ho).1; omega) (h.1 q o ho), Nat.le_trans h.2.1 h2.2.1, fun k hk => h2.2.2 k (h.2.2 k hk)⟩
theorem rep_set (N i : Nat) (h : i < N) : (List.replicate i (-1 : Int) ++ List.replicate (N - i) 0).set i (-1) = List.replicate (i + 1) (-1) ++ List.replicate (N - (i + 1)) 0 := by
  apply List.ext_getElem?
  intro j
  simp only [List.getElem?_set, List.getElem?_append, List.getElem?_replicate, List.length_replicate, List.length_append]
  by_cases h1 : i = j
  · subst h1; simp; omega
  · rw [if_neg h1]
    by_cases h2 : j < i
    · simp [h2, show j < i + 1 by omega]
    · simp only [h2, if_false, show ¬ j < i + 1 by omega]
      by_cases h3 : j - i < N - i
      · rw [if_pos h3, if_pos (by omega)]
      · rw [if_neg h3, if_neg (by omega)]
def unk (xs : List Int) : Nat := (xs.filter fun x => decide (x < 0)).length
theorem unk_set : ∀ {xs : List Int} {q : Nat} {y : Int}, gx xs q < 0 → q < xs.length → 0 ≤ y → unk (xs.set q y) + 1 = unk xs
  | [], q, y, _, h, _ => by simp at h
  | x :: xs, 0, y, h, _, hy => by
    have hx : x < 0 := by simpa [gx] using h
    have hy' : ¬ y < 0 := by omega
    simp [unk, hx, hy']
  | x :: xs, q + 1, y, h, hl, hy => by
    have ih := unk_set (xs := xs) (q := q) (y := y) (by simpa [gx] using h) (by simpa using hl) hy
    unfold unk at ih ⊢
    rw [List.set_cons_succ, List.filter_cons, List.filter_cons]
    split <;> (try simp only [List.length_cons]) <;> omega
theorem gx_get {xs : List Int} {p : Nat} (h : p < xs.length) : gx xs p = xs[p] := by
  unfold gx; rw [List.getD_eq_getElem?_getD, List.getElem?_eq_getElem h]; rfl
theorem nb1 (x : Int) : vbuildSlice Try.prog 70 1 [(0, .int .i64 x)] = some (.slice .exact 1 [.int .i64 x] 1) := by kernel_rfl
theorem nb2 (x y : Int) : vbuildSlice Try.prog 70 2 [(0, .int .i64 x), (1, .int .i64 y)] = some (.slice .exact 1 [.int .i64 x, .int .i64 y] 2) := by kernel_rfl
theorem good_lt {m : Mdl} {f : Fun} {h : Nat → Option Int} (hg : GoodH m f h) {p : Nat} {x : Int} (hp : h p = some x) : p < f.code.length := by
  obtain ⟨i, e, _⟩ := hg.2 p x hp
  exact (List.getElem?_eq_some_iff.1 e).1
theorem heights_inner {m : Mdl} {f : Fun} {s3 s8 : St} {rk q fr rw0 : Nat} {v6 v7 nv wc : V} {xs ws nx : List Int} {y : Int}
    (hI : HInv m f xs ws (some q)) (hq0 : 0 ≤ gx xs q) (hy0 : 0 ≤ y) (hy1 : y ≤ 256) (hnx : IntsV nv nx) (hnl : nx.length ≤ 2) (hn0 : ∀ r ∈ nx, 0 ≤ r) (hok : ∀ h, GoodH m f h → ∀ r ∈ nx, h r.toNat = some y)
    (L : ∀ s', Keep s3 s' → vload Try.prog s'.objs 35 (.optr fr 4) = some wc) (lc : vlen Try.prog 35 wc = some (.int .i64 (f.code.length : Nat)))
    (H6 : HI s8 v6 rk xs) (H7 : HI s8 v7 rw0 ws) (hrw : s3.objs.length ≤ rw0) (hne : rw0 ≠ rk) (hk : Keep s3 s8) (hrk : s3.objs.length ≤ rk) (hgx : ∀ p, gx xs p ≤ 256) (hN : f.code.length ≤ 16384) (hM : 2 * unk xs + ws.length ≤ 32768)
    {e : Nat → V} (g5 : e 5 = .optr fr 0) (g6 : e 6 = v6) (g7 : e 7 = v7) (g13 : e 13 = .int .i64 y) (g101 : e 101 = nv) (g102 : e 102 = .int .i64 (nx.length : Nat)) (g103 : e 103 = .int .i64 (0 : Nat)) :
    Ev Try.prog prims 143 (.loop k24_l2) e s8 (fun ex e' σ' => (ex = .exit 5 ∧ ∃ xs' ws' rw', HInv m f xs' ws' (some q) ∧ HI σ' v6 rk xs' ∧ HI σ' (e' 7) rw' ws' ∧ s3.objs.length ≤ rw' ∧ rw' ≠ rk ∧ Keep s3 σ' ∧ 2 * unk xs' + ws'.length ≤ 2 * unk xs + ws.length ∧ (∀ p, gx xs' p ≤ 256) ∧ (∀ p, 0 ≤ gx xs p → gx xs' p = gx xs p) ∧ ∀ r ∈ nx, r < f.code.length ∧ gx xs' r.toNat = y) ∨ (ex = .ret ∧ e' 4 = .bool false ∧ Keep s3 σ' ∧ ¬ ∃ h, GoodH m f h)) := by
  refine Ev.loopF (fun (j : Nat) e' σ' => e' 103 = .int .i64 (j : Nat) ∧ j ≤ nx.length ∧ ∃ xs' ws' rw', HInv m f xs' ws' (some q) ∧ HI σ' v6 rk xs' ∧ HI σ' (e' 7) rw' ws' ∧ s3.objs.length ≤ rw' ∧ rw' ≠ rk ∧ Keep s3 σ' ∧ 2 * unk xs' + ws'.length ≤ 2 * unk xs + ws.length ∧ (∀ p, gx xs' p ≤ 256) ∧ (∀ p, 0 ≤ gx xs p → gx xs' p = gx xs p) ∧ ∀ r ∈ nx.take j, r < f.code.length ∧ gx xs' r.toNat = y) (fun j => nx.length - j) 0 ⟨g103, Nat.zero_le _, xs, ws, rw0, hI, H6, by rw [g7]; exact H7, hrw, hne, hk, Nat.le_refl _, hgx, fun _ _ => rfl, by simp⟩ ?_
  rintro j e' σ' ⟨h103, hj, xs', ws', rw', hI', H6', H7', hrw', hne', hk', hms, hgx', hsame, hdn⟩ hf
  have j5 : e' 5 = .optr fr 0 := (hf 5 (by decide)).trans g5
  have j6 : e' 6 = v6 := (hf 6 (by decide)).trans g6
  have j13 : e' 13 = .int .i64 y := (hf 13 (by decide)).trans g13
  have j101 : e' 101 = nv := (hf 101 (by decide)).trans g101
  have j102 : e' 102 = .int .i64 (nx.length : Nat) := (hf 102 (by decide)).trans g102
  clear hf
  by_cases hlt : j < nx.length
  · have hlt' : (j : Int) < (nx.length : Nat) := by omega
    have hwj : IntKind.i64.wrap ((j : Int) + 1) = ((j + 1 : Nat) : Int) := by rw [show ((j : Int) + 1) = ((j + 1 : Nat) : Int) from by omega]; exact wrap_nat (by omega)
    obtain ⟨r, hr⟩ : ∃ r, r = nx[j] := ⟨_, rfl⟩
    have hrm : r ∈ nx := by rw [hr]; exact List.getElem_mem _
    have hr0 := hn0 r hrm
    have ldr := IntsV.load (P := Try.prog) (objs := σ'.objs) IT hlt
    rw [← hr] at ldr
    have adr := hnx.addr IT (Int.natCast_nonneg j) hlt' (k := .i64)
    have lw := L σ' hk'
    have tk : ∀ (P : Int → Prop), (∀ z ∈ nx.take j, P z) → P r → ∀ z ∈ nx.take (j + 1), P z := by
      intro P h1 h2 z hz
      rw [List.take_succ_eq_append_getElem hlt, List.mem_append] at hz
      rcases hz with hz | hz
      · exact h1 z hz
      · rw [List.mem_singleton] at hz; rw [hz, ← hr]; exact h2
    by_cases hge : (f.code.length : Int) ≤ r
    · simp only [k24_a, WK, vop, evAll, evOpt, evParts, vbuiltin, vun, vextract, Nat.reduceLT, Nat.reduceEqDiff, ↓reduceIte, reduceCtorEq, Nat.reduceAdd, Int.reduceLT, Int.reduceNeg, valloc_std, noSB, vhot, h103, j101, j102, hlt', adr, Int.toNat_natCast, ldr, j5, FF4', lw, lc, hge]
      refine .inr ⟨hk', ?_⟩
      rintro ⟨h, hg⟩
      have := good_lt hg (hok h hg r hrm)
      omega
    obtain ⟨z, rfl⟩ : ∃ z : Nat, r = (z : Int) := ⟨r.toNat, by omega⟩
    have hz : z < xs'.length := by rw [hI'.len]; omega
    have ldk := H6'.load hz
    have hgz := gx_get hz
    have hokz : ∀ h, GoodH m f h → h z = some y := fun h hg => by have := hok h hg _ hrm; rwa [Int.toNat_natCast] at this
    by_cases hk0 : 0 ≤ xs'[z]
    · by_cases hky : xs'[z] = y
      · have hneg : ¬ xs'[z] < 0 := by omega
        simp only [k24_a, WK, vop, evAll, evOpt, evParts, vbuiltin, vun, vextract, Nat.reduceLT, Nat.reduceEqDiff, ↓reduceIte, reduceCtorEq, Nat.reduceAdd, Int.reduceLT, Int.reduceNeg, valloc_std, noSB, vhot, h103, j101, j102, hlt', adr, Int.toNat_natCast, ldr, j5, FF4', lw, lc, hge, j6, H6'.addr hz, ldk, hk0, hky, hy0, j13, decide_true, Bool.not_true, (show ¬ y < 0 by omega), hwj]
        refine ⟨j + 1, ⟨by simp [upd_some], hlt, xs', ws', rw', hI', H6', by simpa [upd_some] using H7', hrw', hne', hk', hms, hgx', hsame, ?_⟩, by omega⟩
        exact tk _ hdn ⟨by omega, by rw [Int.toNat_natCast, hgz]; exact hky⟩
      · have hky' : decide (xs'[z] = y) = false := decide_eq_false hky
        simp only [k24_a, WK, vop, evAll, evOpt, evParts, vbuiltin, vun, vextract, Nat.reduceLT, Nat.reduceEqDiff, ↓reduceIte, reduceCtorEq, Nat.reduceAdd, Int.reduceLT, Int.reduceNeg, valloc_std, noSB, vhot, h103, j101, j102, hlt', adr, Int.toNat_natCast, ldr, j5, FF4', lw, lc, hge, j6, H6'.addr hz, ldk, hk0, hky', j13, Bool.not_false]
        refine .inr ⟨hk', ?_⟩
        rintro ⟨h, hg⟩
        have h1 := hI'.ok h hg z (by rw [hgz]; exact hk0)
        rw [hokz h hg, hgz] at h1
        injection h1 with h1
        exact hky h1.symm
    · have hneg : xs'[z] < 0 := by omega
      obtain ⟨sx, stx, HX, kx, lx⟩ := H6'.set hz y
      have H7x := H7'.keepX kx hne'
      obtain ⟨sy, ly, HY, ky, lly⟩ := HI.lit1 sx (z : Int)
      obtain ⟨v9, sz, az, HZ, kz, lz⟩ := (H7x.keep ky).append HY (by have := hms; omega)
      have hrl := H6'.lt
      have hk9 : Keep s3 sz := ((hk'.overX2 kx hrk).trans ky).overX2 kz hrw'
      have H6z := (HX.keep ky).keepX kz (Ne.symm hne')
      obtain ⟨hI9, hsm9, hgy9⟩ := hI'.more (by rw [hsame q hq0]; exact hq0) (q := (z : Int)) hy0 (by omega) (by omega) (by rw [Int.toNat_natCast, hgz]; exact hneg) (fun h hg => by rw [Int.toNat_natCast]; exact hokz h hg)
      rw [Int.toNat_natCast] at hI9 hsm9 hgy9
      have hu := unk_set (xs := xs') (q := z) (y := y) (by rw [hgz]; exact hneg) hz hy0
      simp only [k24_a, WK, vop, evAll, evOpt, evParts, vbuiltin, vun, vextract, Nat.reduceLT, Nat.reduceEqDiff, ↓reduceIte, reduceCtorEq, Nat.reduceAdd, Int.reduceLT, Int.reduceNeg, valloc_std, noSB, vhot, h103, j101, j102, hlt', adr, Int.toNat_natCast, ldr, j5, FF4', lw, lc, hge, j6, H6'.addr hz, ldk, hk0, hneg, j13, stx, ly, az, hwj]
      refine ⟨j + 1, ⟨by simp [upd_some], hlt, _, _, _, hI9, H6z, by simpa [upd_some] using HZ, by omega, by omega, hk9, by rw [List.length_append, List.length_singleton]; omega, fun p => ?_, fun p hp => by rw [hsm9 p (by rw [hsame p hp]; exact hp)]; exact hsame p hp, ?_⟩, by omega⟩
      · rw [gx_set hz]; split
        · exact hy1
        · exact hgx' p
      · refine tk _ (fun w hw => ⟨(hdn w hw).1, ?_⟩) ⟨by omega, by rw [Int.toNat_natCast]; exact hgy9⟩
        rw [hsm9 w.toNat (by rw [(hdn w hw).2]; exact hy0)]
        exact (hdn w hw).2
  · have hlt' : ¬ (j : Int) < (nx.length : Nat) := by omega
    simp only [k24_a, WK, vop, evAll, evOpt, evParts, vbuiltin, vun, vextract, Nat.reduceLT, Nat.reduceEqDiff, ↓reduceIte, reduceCtorEq, Nat.reduceAdd, Int.reduceLT, Int.reduceNeg, valloc_std, noSB, vhot, h103, j102, hlt']
    refine .inl ⟨xs', ws', rw', hI', H6', H7', hrw', hne', hk', hms, hgx', hsame, ?_⟩
    rw [List.take_of_length_le (by omega)] at hdn
    exact hdn
theorem heights_does {σ : St} {m : Mdl} {c : List V} (hm : MdlS σ m c) {n : Nat} (hn : n < m.funcs.length) (hN : 1 ≤ (m.funcs[n]).code.length ∧ (m.funcs[n]).code.length ≤ 16384) (hst : (m.funcs[n]).stack ≤ 256)
    (hins : ∀ (p : Nat) (hp : p < (m.funcs[n]).code.length), callOk m (m.funcs[n]).code[p] ∧ 0 ≤ popS m (m.funcs[n]).code[p] ∧ popS m (m.funcs[n]).code[p] ≤ 8 ∧ ((m.funcs[n]).code[p].op = 7 ∨ (m.funcs[n]).code[p].op = 8 → 0 ≤ (m.funcs[n]).code[p].a ∧ (m.funcs[n]).code[p].a < (m.funcs[n]).code.length)) :
    ∃ b σ', Does Try.prog prims 24 [.agg c, .int .i64 (n : Int)] σ (.ret (.bool b)) σ' ∧ Keep σ σ' ∧ (b = true ↔ ∃ h, GoodH m m.funcs[n] h) := by
  have key : ∃ q σ', Does Try.prog prims 24 [.agg c, .int .i64 (n : Int)] σ q σ' ∧ ∃ b, q = .ret (.bool b) ∧ Keep σ σ' ∧ (b = true ↔ ∃ h, GoodH m m.funcs[n] h) := by
    apply k24_is.does (by simp)
    have hm0 := hm
    obtain ⟨w1, w2, hc, hv, hf⟩ := hm
    obtain ⟨s1, hs1⟩ : ∃ s1 : St, s1 = ⟨σ.objs ++ [Ob.cells c], σ.toks⟩ := ⟨_, rfl⟩
    have k1 : Keep σ s1 := by rw [hs1]; exact (Keep.refl σ).push _
    have o1 : s1.objs[σ.objs.length]? = some (.cells c) := by rw [hs1]; exact push_new _ _
    obtain ⟨p, cf, hp, hF, hpl⟩ := fun_load hf hn
    obtain ⟨s2, s3, wc, hs2, st3, k3, o3, hcode, hl3⟩ := funmade s1 hF k1
    obtain ⟨f, hfe⟩ : ∃ f, f = m.funcs[n] := ⟨_, rfl⟩
    simp only [← hfe] at hN hst hins
    rw [← hfe] at hF o3 hcode ⊢
    have ldf : vload Try.prog s1.objs 23 (.optr σ.objs.length 1) = some w2 := by rw [vload_obj o1 FsG, hc]; rfl
    have k13 := k1.trans k3
    have L : ∀ s', Keep s3 s' → vload Try.prog s'.objs 35 (.optr s1.objs.length 4) = some wc ∧ vload Try.prog s'.objs 3 (.optr s1.objs.length 3) = some (.int .i64 f.stack) ∧ vload Try.prog s'.objs 25 (.optr σ.objs.length 0) = some (.agg c) := by
      intro s' hk
      have e3 := hk.1 _ _ o3
      have e1 := hk.1 _ _ (k3.1 _ _ o1)
      exact ⟨by rw [vload_obj e3 NsG]; rfl, by rw [vload_obj e3 G3]; rfl, vload_agg e1 MG (by rw [hm0.len]; exact MS)⟩
    have lc : vlen Try.prog 35 wc = some (.int .i64 (f.code.length : Nat)) := RowS.len hcode NT
    obtain ⟨N, hNe⟩ : ∃ N, N = f.code.length := ⟨_, rfl⟩
    rw [← hNe] at lc hN
    obtain ⟨v6, s4, mk4, h6, k4, l4⟩ := HI.make s3 (n := N) (by omega)
    obtain ⟨s5, mk5, h7, k5, l5⟩ := HI.lit1 s4 0
    have h65 := h6.keep k5
    have len6 : vlen Try.prog 70 v6 = some (.int .i64 (N : Nat)) := by have := h6.len; simpa using this
    simp only [k24_a, WK, vop, evAll, evOpt, evParts, vbuiltin, vun, vextract, Nat.reduceLT, Nat.reduceEqDiff, ↓reduceIte, reduceCtorEq, Nat.reduceAdd, Int.reduceLT, Int.reduceNeg, valloc_std, noSB, vhot, vbox, vcells, ← hs1, MF1, ldf, hp, hpl s1 k1, FZ, ← hs2, st3, FF4', (L s3 (Keep.refl _)).1, lc, mk4, mk5, len6]
    refine Ev.loopF (fun (i : Nat) e σ' => e 29 = .int .i64 (i : Nat) ∧ i ≤ N ∧ HI σ' v6 s3.objs.length (List.replicate i (-1) ++ List.replicate (N - i) 0) ∧ HI σ' (.hslice s4.objs.length 0 1 1) s4.objs.length [0] ∧ Keep s3 σ') (fun i => N - i) 0 ⟨by simp [upd_some], Nat.zero_le _, by simpa using h65, h7, k4.trans k5⟩ ?_
    rintro i e σ' ⟨h29, hi, H6, H7, hk⟩ hf
    have g2 : e 2 = .optr σ.objs.length 0 := (hf 2 (by decide)).trans (by simp [upd_some])
    have g5 : e 5 = .optr s1.objs.length 0 := (hf 5 (by decide)).trans (by simp [upd_some])
    have g6 : e 6 = v6 := (hf 6 (by decide)).trans (by simp [upd_some])
    have g7 : e 7 = .hslice s4.objs.length 0 1 1 := (hf 7 (by decide)).trans (by simp [upd_some])
    have g28 : e 28 = .int .i64 (N : Nat) := (hf 28 (by decide)).trans (by simp [upd_some])
    clear hf
    have rne : s3.objs.length ≠ s4.objs.length := by omega
    by_cases hlt : i < N
    · have hlt' : (i : Int) < (N : Nat) := by omega
      have hwi : IntKind.i64.wrap ((i : Int) + 1) = ((i + 1 : Nat) : Int) := by rw [show ((i : Int) + 1) = ((i + 1 : Nat) : Int) from by omega]; exact wrap_nat (by omega)
      have hil : i < (List.replicate i (-1 : Int) ++ List.replicate (N - i) 0).length := by simp; omega
      obtain ⟨sa, hst1, HA, kx, _⟩ := H6.set hil (-1)
      simp only [k24_a, WK, vop, evAll, evOpt, evParts, vbuiltin, vun, vextract, Nat.reduceLT, Nat.reduceEqDiff, ↓reduceIte, reduceCtorEq, Nat.reduceAdd, Int.reduceLT, Int.reduceNeg, valloc_std, noSB, vhot, g6, h29, g28, hlt', H6.addr hil, hst1, hwi]
      exact ⟨i + 1, ⟨by simp [upd_some], by omega, by rw [← rep_set N i hlt]; exact HA, H7.keepX kx (Ne.symm rne), hk.overX2 kx (Nat.le_refl _)⟩, by omega⟩
    have hlt' : ¬ (i : Int) < (N : Nat) := by omega
    have hiN : i = N := by omega
    subst hiN
    rw [Nat.sub_self, List.replicate_zero, List.append_nil] at H6
    have h0l : 0 < (List.replicate i (-1 : Int)).length := by simp; omega
    obtain ⟨sa, hst1, HA, kx, _⟩ := H6.set h0l 0
    have ha0 : vindexAddr Try.prog 70 v6 (.int .i64 0) = some (.optr s3.objs.length 0) := H6.addr h0l
    have H7a := H7.keepX kx (Ne.symm rne)
    have hka := hk.overX2 kx (Nat.le_refl _)
    simp only [k24_a, WK, vop, evAll, evOpt, evParts, vbuiltin, vun, vextract, Nat.reduceLT, Nat.reduceEqDiff, ↓reduceIte, reduceCtorEq, Nat.reduceAdd, Int.reduceLT, Int.reduceNeg, valloc_std, noSB, vhot, g6, h29, g28, hlt', ha0, hst1]
    have inv0 : HInv m f ((List.replicate i (-1 : Int)).set 0 0) [0] none := by
      have gs := gx_set (xs := List.replicate i (-1 : Int)) (x := 0) h0l
      have gr : ∀ p, gx (List.replicate i (-1 : Int)) p = -1 := by
        intro p
        unfold gx
        rw [List.getD_eq_getElem?_getD, List.getElem?_replicate]
        split <;> rfl
      refine ⟨by rw [List.length_set, List.length_replicate]; exact hNe, by rw [gs, if_pos rfl], fun p => by rw [gs, gr]; split <;> omega, fun w hw => ?_, fun p hp => ?_, fun h hg p hp => ?_⟩
      · rw [List.mem_singleton] at hw; subst hw
        exact ⟨Int.le_refl _, by omega, by rw [show (0 : Int).toNat = 0 from rfl, gs, if_pos rfl]; exact Int.le_refl _⟩
      · rw [gs, gr] at hp
        by_cases hp0 : p = 0
        · subst hp0; exact .inr (.inl (by simp))
        · rw [if_neg hp0] at hp; omega
      · rw [gs, gr] at hp
        by_cases hp0 : p = 0
        · subst hp0; rw [gs, if_pos rfl]; exact hg.1
        · rw [if_neg hp0] at hp; omega
    have hu0 : unk ((List.replicate i (-1 : Int)).set 0 0) + 1 = i := by
      rw [unk_set (by unfold gx; rw [List.getD_eq_getElem?_getD, List.getElem?_eq_getElem h0l]; simp) h0l (Int.le_refl _)]
      simp [unk]
    have hg0 : ∀ p, gx ((List.replicate i (-1 : Int)).set 0 0) p ≤ 256 := by
      intro p
      rw [gx_set h0l]
      split
      · omega
      · unfold gx
        rw [List.getD_eq_getElem?_getD, List.getElem?_replicate]
        split <;> simp
    refine Ev.loopF (fun (z : List Int × List Int) e σ' => HInv m f z.1 z.2 none ∧ HI σ' v6 s3.objs.length z.1 ∧ (∃ rw, HI σ' (e 7) rw z.2 ∧ s3.objs.length ≤ rw ∧ rw ≠ s3.objs.length) ∧ Keep s3 σ' ∧ 2 * unk z.1 + z.2.length ≤ 2 * i ∧ ∀ p, gx z.1 p ≤ 256) (fun z => 2 * unk z.1 + z.2.length) ((List.replicate i (-1 : Int)).set 0 0, [0]) ⟨inv0, HA, ⟨s4.objs.length, by simpa [upd_some, g7] using H7a, by omega, by omega⟩, hka, by simp; omega, hg0⟩ ?_
    rintro ⟨xs, ws⟩ e2 sb ⟨hI, H6b, ⟨rw_, H7b, hrw, hne⟩, hkb, hms, hgx⟩ hf
    have j2 : e2 2 = .optr σ.objs.length 0 := (hf 2 (by decide)).trans (by simp [upd_some, g2])
    have j5 : e2 5 = .optr s1.objs.length 0 := (hf 5 (by decide)).trans (by simp [upd_some, g5])
    have j6 : e2 6 = v6 := (hf 6 (by decide)).trans (by simp [upd_some, g6])
    clear hf
    simp only at hI H6b H7b hms hgx
    by_cases hw0 : 0 < ws.length
    · have hw0' : (0 : Int) < (ws.length : Nat) := by omega
      have hwl : ws.length ≤ 32768 := by omega
      obtain ⟨a, ha⟩ : ∃ a, a = ws.length - 1 := ⟨_, rfl⟩
      have hal : a < ws.length := by omega
      have w1' : IntKind.i64.wrap (((ws.length : Nat) : Int) - 1) = ((a : Nat) : Int) := by rw [wrap_i64 (by omega) (by omega)]; omega
      obtain ⟨x, hx⟩ : ∃ x, x = ws[a] := ⟨_, rfl⟩
      have hxm : x ∈ ws := by rw [hx]; exact List.getElem_mem _
      obtain ⟨hx0, hx1, hx2⟩ := hI.wk x hxm
      obtain ⟨q, rfl⟩ : ∃ q : Nat, x = (q : Int) := ⟨x.toNat, by omega⟩
      rw [Int.toNat_natCast] at hx2
      have hq : q < f.code.length := by omega
      have hqx : q < xs.length := by rw [hI.len]; exact hq
      have ld7 := H7b.load hal
      rw [← hx] at ld7
      obtain ⟨v51, sl51, H51⟩ := H7b.front (n := a) (by omega) (by omega)
      obtain ⟨pc, hpc, hlc⟩ := code_load hcode hq
      obtain ⟨ins, hine⟩ : ∃ ins, ins = f.code[q] := ⟨_, rfl⟩
      obtain ⟨s6, s7, hs6, st7, k7, o7, l7⟩ := insmade sb ins
      have ld10 : vload Try.prog s7.objs 39 (.optr sb.objs.length 0) = some (.agg (insC ins)) := vload_agg o7 NG NS
      obtain ⟨hcall, hp0, hp8, hjmp⟩ := hins q hq
      rw [← hine] at hcall hp0 hp8 hjmp
      obtain ⟨s8, d8, k8⟩ := effect_does (hm0.keep ((k13.trans hkb).trans k7)) ins hcall
      have H6d := (H6b.keep k7).keep k8
      have ldk := H6d.load hqx
      have hkd := (hkb.trans k7).trans k8
      have hb := hgx q
      have hlo := hI.lo q
      rw [gx_get hqx] at hb hlo hx2
      have hps := pushS_ge ins
      have hps1 : pushS ins ≤ 1 := by unfold pushS; split <;> omega
      have w2' : IntKind.i64.wrap (xs[q] - popS m ins) = xs[q] - popS m ins := wrap_i64 (by omega) (by omega)
      have w3' : IntKind.i64.wrap (xs[q] - popS m ins + pushS ins) = xs[q] - popS m ins + pushS ins := wrap_i64 (by omega) (by omega)
      have lst := (L s8 hkd).2.1
      have hlcb := hlc sb (k13.trans hkb)
      rw [← hine] at hlcb
      simp only [k24_a, WK, vop, evAll, evOpt, evParts, vbuiltin, vun, vextract, Nat.reduceLT, Nat.reduceEqDiff, ↓reduceIte, reduceCtorEq, Nat.reduceAdd, Int.reduceLT, Int.reduceNeg, valloc_std, noSB, vhot, H7b.len, hw0', w1', H7b.addr hal, ld7, IU, sl51, j5, FF4', (L sb hkb).1, hpc, hlcb, NZ, vbox, vcells, ← hs6, st7, j2, (L s7 (hkb.trans k7)).2.2, ld10]
      refine KD.ret d8 ?_
      have bad : (xs[q] - popS m ins < 0 ∨ f.stack < xs[q] - popS m ins + pushS ins) → ¬ ∃ h, GoodH m f h := by
        rintro hb2 ⟨h, hg⟩
        have h1 := hI.ok h hg q (by rw [gx_get hqx]; exact hx2)
        obtain ⟨i', e1, e2', e3, _⟩ := hg.2 q _ h1
        rw [List.getElem?_eq_getElem hq] at e1
        injection e1 with e1
        rw [← hine] at e1
        subst e1
        rw [gx_get hqx] at e2' e3
        omega
      have kq : Keep σ s8 := k13.trans hkd
      by_cases hlow : xs[q] - popS m ins < 0
      · simp only [k24_a, WK, vop, evAll, evOpt, evParts, vbuiltin, vun, vextract, Nat.reduceLT, Nat.reduceEqDiff, ↓reduceIte, reduceCtorEq, Nat.reduceAdd, Int.reduceLT, Int.reduceNeg, valloc_std, noSB, vhot, j6, H6d.addr hqx, ldk, w2', hlow]
        exact ⟨false, rfl, kq, iff_of_false (by decide) (bad (.inl hlow))⟩
      by_cases hhi : f.stack < xs[q] - popS m ins + pushS ins
      · simp only [k24_a, WK, vop, evAll, evOpt, evParts, vbuiltin, vun, vextract, Nat.reduceLT, Nat.reduceEqDiff, ↓reduceIte, reduceCtorEq, Nat.reduceAdd, Int.reduceLT, Int.reduceNeg, valloc_std, noSB, vhot, j5, j6, H6d.addr hqx, ldk, w2', w3', hlow, FF3', lst, hhi]
        exact ⟨false, rfl, kq, iff_of_false (by decide) (bad (.inr hhi))⟩
      simp only [k24_a, WK, vop, evAll, evOpt, evParts, vbuiltin, vun, vextract, Nat.reduceLT, Nat.reduceEqDiff, ↓reduceIte, reduceCtorEq, Nat.reduceAdd, Int.reduceLT, Int.reduceNeg, valloc_std, noSB, vhot, j5, j6, H6d.addr hqx, ldk, w2', w3', hlow, FF3', lst, hhi, ofVal_nil]
      have ldop : vload Try.prog s8.objs 3 (.optr sb.objs.length 0) = some (.int .i64 ins.op) := by rw [vload_obj (k8.1 _ _ o7) G3]; rfl
      have lda : vload Try.prog s8.objs 3 (.optr sb.objs.length 1) = some (.int .i64 ins.a) := by rw [vload_obj (k8.1 _ _ o7) G3]; rfl
      have hwq : IntKind.i64.wrap ((q : Int) + 1) = ((q + 1 : Nat) : Int) := by rw [wrap_i64 (by omega) (by omega)]; omega
      have hgq : gx xs q = xs[q] := gx_get hqx
      have hsplit : ∀ z, z ∈ ws → z ∈ ws.take a ∨ z = (q : Int) := by
        intro z hz
        obtain ⟨j, hj, rfl⟩ := List.getElem_of_mem hz
        by_cases hja : j < a
        · exact .inl (List.mem_take_iff_getElem.2 ⟨j, by omega, rfl⟩)
        · refine .inr ?_
          rw [hx]
          congr 1
          omega
      have hIo : HInv m f xs (ws.take a) (some q) := ⟨hI.len, hI.zero, hI.lo, fun z hz => hI.wk z (List.mem_of_mem_take hz), fun p hp => by
        rcases hI.dn p hp with h | h | h
        · cases h
        · rcases hsplit _ h with h | h
          · exact .inr (.inl h)
          · exact .inl (by congr 1; omega)
        · exact .inr (.inr h), hI.ok⟩
      have hokn : ∀ h, GoodH m f h → ∀ r ∈ nextS ins q, 0 ≤ r ∧ h r.toNat = some (xs[q] - popS m ins + pushS ins) := by
        intro h hg
        have h1 := hI.ok h hg q (by rw [hgq]; exact hx2)
        obtain ⟨i', e1, _, _, e4⟩ := hg.2 q _ h1
        rw [List.getElem?_eq_getElem hq] at e1
        injection e1 with e1
        rw [← hine] at e1
        subst e1
        rw [hgq] at e4
        exact e4
      obtain ⟨y, hy⟩ : ∃ y, y = xs[q] - popS m ins + pushS ins := ⟨_, rfl⟩
      rw [← hy] at hokn w3'
      have hyl : 0 ≤ y ∧ y ≤ 256 := by omega
      have hakl : (ws.take a).length = a := by rw [List.length_take]; omega
      have fin : ∀ (nx : List Int) (nv : V) (e3 : Nat → V), nextS ins q = nx → IntsV nv nx → nx.length ≤ 2 → (∀ r ∈ nx, 0 ≤ r) → e3 5 = .optr s1.objs.length 0 → e3 6 = v6 → e3 7 = v51 → e3 13 = .int .i64 y → e3 101 = nv → e3 102 = .int .i64 (nx.length : Nat) → e3 103 = .int .i64 (0 : Nat) → _ :=
        fun nx nv e3 hnx h1 h2 h3 e5 e6 e7 e13 e101 e102 e103 => heights_inner (q := q) (y := y) hIo (by rw [hgq]; exact hx2) hyl.1 hyl.2 h1 h2 h3 (fun h hg r hr => (hokn h hg r (by rw [hnx]; exact hr)).2) (fun s' hk => (L s' hk).1) (by rw [← hNe]; exact lc) H6d ((H51.keep k7).keep k8) hrw hne hkd (Nat.le_refl _) hgx (by omega) (by rw [hakl]; omega) e5 e6 e7 e13 e101 e102 e103
      have done : ∀ (nx : List Int) (xs' ws' : List Int), nextS ins q = nx → HInv m f xs' ws' (some q) → (∀ p, 0 ≤ gx xs p → gx xs' p = gx xs p) → (∀ r ∈ nx, 0 ≤ r) → (∀ r ∈ nx, r < f.code.length ∧ gx xs' r.toNat = y) → HInv m f xs' ws' none := by
        intro nx xs' ws' hnx h1 h2 h3 h4
        refine h1.close ⟨ins, by rw [List.getElem?_eq_getElem hq, hine], ?_, ?_, fun r hr => ?_⟩
        · rw [h2 q (by rw [hgq]; exact hx2), hgq]; omega
        · rw [h2 q (by rw [hgq]; exact hx2), hgq]; omega
        · rw [hnx] at hr
          rw [h2 q (by rw [hgq]; exact hx2), hgq, ← hy]
          exact ⟨h3 r hr, h4 r hr⟩
      by_cases h10 : ins.op = 10
      · have e10 : (ins.op = 10) = True := eq_true h10
        simp only [k24_a, WK, vop, evAll, evOpt, evParts, vbuiltin, vun, vextract, Nat.reduceLT, Nat.reduceEqDiff, ↓reduceIte, reduceCtorEq, Nat.reduceAdd, Int.reduceLT, Int.reduceNeg, valloc_std, noSB, vhot, NF0, NF1, ldop, lda, hwq, e10, (show vlen Try.prog 70 .nils = some (.int .i64 ((([] : List Int).length : Nat))) from by simp [vlen, IU])]
        refine Ev.cut (fin [] .nils _ (by simp [nextS, h10]) ⟨.inl ⟨rfl, rfl⟩, by simp⟩ (by simp) (by simp) (by simp [upd_some, j5]) (by simp [upd_some, j6]) (by simp [upd_some]) (by simp only [upd_some, Nat.reduceEqDiff, ↓reduceIte]; rw [hy]) (by simp [upd_some]) (by simp [upd_some]) (by simp [upd_some])) ?_
        rintro ex e' σ' (⟨rfl, xs', ws', rw', b1, b2, b3, b4, b5, b6, b7, b8, b9, b10⟩ | ⟨rfl, ht4, hk9, hng⟩) hfr
        · simp only [WK, vop, evAll, evOpt, evParts, vbuiltin, vun, vextract, Nat.reduceLT, Nat.reduceEqDiff, ↓reduceIte, reduceCtorEq, Nat.reduceAdd, Int.reduceLT, Int.reduceNeg, valloc_std, noSB, vhot]
          exact ⟨(xs', ws'), ⟨done [] xs' ws' (by simp [nextS, h10]) b1 b9 (by simp) b10, b2, ⟨rw', b3, b4, b5⟩, b6, by simp only; rw [hakl] at b7; omega, b8⟩, by simp only; rw [hakl] at b7; omega⟩
        · simp only [WK, vop, evAll, evOpt, evParts, vbuiltin, vun, vextract, Nat.reduceLT, Nat.reduceEqDiff, ↓reduceIte, reduceCtorEq, Nat.reduceAdd, Int.reduceLT, Int.reduceNeg, valloc_std, noSB, vhot, ht4]
          exact ⟨false, rfl, k13.trans hk9, iff_of_false (by decide) hng⟩
      have e10 : (ins.op = 10) = False := eq_false h10
      by_cases h7' : ins.op = 7
      · have e7 : (ins.op = 7) = True := eq_true h7'
        obtain ⟨ja, jb⟩ := hjmp (.inl h7')
        simp only [k24_a, WK, vop, evAll, evOpt, evParts, vbuiltin, vun, vextract, Nat.reduceLT, Nat.reduceEqDiff, ↓reduceIte, reduceCtorEq, Nat.reduceAdd, Int.reduceLT, Int.reduceNeg, valloc_std, noSB, vhot, NF0, NF1, ldop, lda, hwq, e10, e7, nb1, (show vlen Try.prog 70 (.slice .exact 1 [.int .i64 ins.a] 1) = some (.int .i64 (([0] : List Int).length : Nat)) from by simp [vlen, IU])]
        refine Ev.cut (fin [ins.a] (.slice .exact 1 [.int .i64 ins.a] 1) _ (by simp [nextS, h7']) ⟨.inr ⟨_, rfl⟩, (by intro x hx; simp at hx; first | (subst hx; unfold InI64; omega) | (rcases hx with rfl | rfl <;> unfold InI64 <;> omega))⟩ (by simp) (by simp; omega) (by simp [upd_some, j5]) (by simp [upd_some, j6]) (by simp [upd_some]) (by simp only [upd_some, Nat.reduceEqDiff, ↓reduceIte]; rw [hy]) (by simp [upd_some]) (by simp [upd_some]) (by simp [upd_some])) ?_
        rintro ex e' σ' (⟨rfl, xs', ws', rw', b1, b2, b3, b4, b5, b6, b7, b8, b9, b10⟩ | ⟨rfl, ht4, hk9, hng⟩) hfr
        · simp only [WK, vop, evAll, evOpt, evParts, vbuiltin, vun, vextract, Nat.reduceLT, Nat.reduceEqDiff, ↓reduceIte, reduceCtorEq, Nat.reduceAdd, Int.reduceLT, Int.reduceNeg, valloc_std, noSB, vhot]
          exact ⟨(xs', ws'), ⟨done [ins.a] xs' ws' (by simp [nextS, h7']) b1 b9 (by simp; omega) b10, b2, ⟨rw', b3, b4, b5⟩, b6, by simp only; rw [hakl] at b7; omega, b8⟩, by simp only; rw [hakl] at b7; omega⟩
        · simp only [WK, vop, evAll, evOpt, evParts, vbuiltin, vun, vextract, Nat.reduceLT, Nat.reduceEqDiff, ↓reduceIte, reduceCtorEq, Nat.reduceAdd, Int.reduceLT, Int.reduceNeg, valloc_std, noSB, vhot, ht4]
          exact ⟨false, rfl, k13.trans hk9, iff_of_false (by decide) hng⟩
      have e7 : (ins.op = 7) = False := eq_false h7'
      by_cases h8' : ins.op = 8
      · have e8 : (ins.op = 8) = True := eq_true h8'
        obtain ⟨ja, jb⟩ := hjmp (.inr h8')
        simp only [k24_a, WK, vop, evAll, evOpt, evParts, vbuiltin, vun, vextract, Nat.reduceLT, Nat.reduceEqDiff, ↓reduceIte, reduceCtorEq, Nat.reduceAdd, Int.reduceLT, Int.reduceNeg, valloc_std, noSB, vhot, NF0, NF1, ldop, lda, hwq, e10, e7, e8, nb2, (show vlen Try.prog 70 (.slice .exact 1 [.int .i64 ((q + 1 : Nat) : Int), .int .i64 ins.a] 2) = some (.int .i64 (([0, 0] : List Int).length : Nat)) from by simp [vlen, IU])]
        refine Ev.cut (fin [((q + 1 : Nat) : Int), ins.a] (.slice .exact 1 [.int .i64 ((q + 1 : Nat) : Int), .int .i64 ins.a] 2) _ (by simp [nextS, h8']) ⟨.inr ⟨_, rfl⟩, (by intro x hx; simp at hx; first | (subst hx; unfold InI64; omega) | (rcases hx with rfl | rfl <;> unfold InI64 <;> omega))⟩ (by simp) (by simp; omega) (by simp [upd_some, j5]) (by simp [upd_some, j6]) (by simp [upd_some]) (by simp only [upd_some, Nat.reduceEqDiff, ↓reduceIte]; rw [hy]) (by simp [upd_some]) (by simp [upd_some]) (by simp [upd_some])) ?_
        rintro ex e' σ' (⟨rfl, xs', ws', rw', b1, b2, b3, b4, b5, b6, b7, b8, b9, b10⟩ | ⟨rfl, ht4, hk9, hng⟩) hfr
        · simp only [WK, vop, evAll, evOpt, evParts, vbuiltin, vun, vextract, Nat.reduceLT, Nat.reduceEqDiff, ↓reduceIte, reduceCtorEq, Nat.reduceAdd, Int.reduceLT, Int.reduceNeg, valloc_std, noSB, vhot]
          exact ⟨(xs', ws'), ⟨done [((q + 1 : Nat) : Int), ins.a] xs' ws' (by simp [nextS, h8']) b1 b9 (by simp; omega) b10, b2, ⟨rw', b3, b4, b5⟩, b6, by simp only; rw [hakl] at b7; omega, b8⟩, by simp only; rw [hakl] at b7; omega⟩
        · simp only [WK, vop, evAll, evOpt, evParts, vbuiltin, vun, vextract, Nat.reduceLT, Nat.reduceEqDiff, ↓reduceIte, reduceCtorEq, Nat.reduceAdd, Int.reduceLT, Int.reduceNeg, valloc_std, noSB, vhot, ht4]
          exact ⟨false, rfl, k13.trans hk9, iff_of_false (by decide) hng⟩
      have e8 : (ins.op = 8) = False := eq_false h8'
      · skip
        simp only [k24_a, WK, vop, evAll, evOpt, evParts, vbuiltin, vun, vextract, Nat.reduceLT, Nat.reduceEqDiff, ↓reduceIte, reduceCtorEq, Nat.reduceAdd, Int.reduceLT, Int.reduceNeg, valloc_std, noSB, vhot, NF0, NF1, ldop, lda, hwq, e10, e7, e8, nb1, (show vlen Try.prog 70 (.slice .exact 1 [.int .i64 ((q + 1 : Nat) : Int)] 1) = some (.int .i64 (([0] : List Int).length : Nat)) from by simp [vlen, IU])]
        refine Ev.cut (fin [((q + 1 : Nat) : Int)] (.slice .exact 1 [.int .i64 ((q + 1 : Nat) : Int)] 1) _ (by simp [nextS, h10, h7', h8']) ⟨.inr ⟨_, rfl⟩, (by intro x hx; simp at hx; first | (subst hx; unfold InI64; omega) | (rcases hx with rfl | rfl <;> unfold InI64 <;> omega))⟩ (by simp) (by simp; omega) (by simp [upd_some, j5]) (by simp [upd_some, j6]) (by simp [upd_some]) (by simp only [upd_some, Nat.reduceEqDiff, ↓reduceIte]; rw [hy]) (by simp [upd_some]) (by simp [upd_some]) (by simp [upd_some])) ?_
        rintro ex e' σ' (⟨rfl, xs', ws', rw', b1, b2, b3, b4, b5, b6, b7, b8, b9, b10⟩ | ⟨rfl, ht4, hk9, hng⟩) hfr
        · simp only [WK, vop, evAll, evOpt, evParts, vbuiltin, vun, vextract, Nat.reduceLT, Nat.reduceEqDiff, ↓reduceIte, reduceCtorEq, Nat.reduceAdd, Int.reduceLT, Int.reduceNeg, valloc_std, noSB, vhot]
          exact ⟨(xs', ws'), ⟨done [((q + 1 : Nat) : Int)] xs' ws' (by simp [nextS, h10, h7', h8']) b1 b9 (by simp; omega) b10, b2, ⟨rw', b3, b4, b5⟩, b6, by simp only; rw [hakl] at b7; omega, b8⟩, by simp only; rw [hakl] at b7; omega⟩
        · simp only [WK, vop, evAll, evOpt, evParts, vbuiltin, vun, vextract, Nat.reduceLT, Nat.reduceEqDiff, ↓reduceIte, reduceCtorEq, Nat.reduceAdd, Int.reduceLT, Int.reduceNeg, valloc_std, noSB, vhot, ht4]
          exact ⟨false, rfl, k13.trans hk9, iff_of_false (by decide) hng⟩
    · have hw0' : ¬ (0 : Int) < (ws.length : Nat) := by omega
      have hws : ws = [] := List.length_eq_zero_iff.1 (by omega)
      simp only [k24_a, WK, vop, evAll, evOpt, evParts, vbuiltin, vun, vextract, Nat.reduceLT, Nat.reduceEqDiff, ↓reduceIte, reduceCtorEq, Nat.reduceAdd, Int.reduceLT, Int.reduceNeg, valloc_std, noSB, vhot, H7b.len, hw0']
      subst hws
      exact ⟨true, rfl, k13.trans hkb, iff_of_true rfl hI.good⟩
  obtain ⟨q, σ', h1, b, rfl, h2⟩ := key
  exact ⟨b, σ', h1, h2⟩
end Go.Proofs.Ytplhelapcpcncaa.Q

/- Written rows of truths. -/
set_option linter.unusedVariables false
set_option linter.unusedSimpArgs false
set_option maxRecDepth 100000
namespace Go.Proofs.Ytplhelapcpcncaa.Q
open Go Go.RowKit Go.Proofs
/-- v is object r as a whole, that has these truths. -/
def HT (σ : St) (v : V) (r : Nat) (bs : List Bool) : Prop := v = .hslice r 0 1 bs.length ∧ σ.objs[r]? = some (.cells (bs.map V.bool))
theorem HT.keepX {σ σ' : St} {v : V} {r q : Nat} {bs : List Bool} (h : HT σ v r bs) (hk : KeepX q σ σ') (hne : r ≠ q) : HT σ' v r bs := ⟨h.1, hk.1 _ _ hne h.2⟩
theorem HT.keep {σ σ' : St} {v : V} {r : Nat} {bs : List Bool} (h : HT σ v r bs) (hk : Keep σ σ') : HT σ' v r bs := ⟨h.1, hk.1 _ _ h.2⟩
theorem BlU : Try.prog.underlying 73 = some (.slice 4) := by kernel_rfl
theorem BlB : (Try.prog.info? 4).map (·.bytes) = some 1 := by kernel_rfl
theorem BlZ : zeroT Try.prog 4 = some (.bool false) := by kernel_rfl
theorem HT.addr {σ : St} {v : V} {r : Nat} {bs : List Bool} (h : HT σ v r bs) {i : Nat} (hi : i < bs.length) : vindexAddr Try.prog 73 v (.int .i64 (i : Int)) = some (.optr r i) := by
  have hi' : (i : Int) < bs.length := by omega
  rw [h.1]; simp [vindexAddr, BlU, S4, hi']
theorem HT.load {σ : St} {v : V} {r : Nat} {bs : List Bool} (h : HT σ v r bs) {i : Nat} (hi : i < bs.length) : vload Try.prog σ.objs 4 (.optr r i) = some (.bool bs[i]) := by
  rw [vload_obj h.2 G4]
  simp [List.getElem?_eq_getElem hi]
theorem HT.set {σ : St} {v : V} {r : Nat} {bs : List Bool} (h : HT σ v r bs) {i : Nat} (hi : i < bs.length) (x : Bool) : ∃ σ', vstore Try.prog σ 4 (.optr r i) (.bool x) = some σ' ∧ HT σ' v r (bs.set i x) ∧ KeepX r σ σ' ∧ σ'.objs.length = σ.objs.length := by
  obtain ⟨σ', hs⟩ : ∃ σ' : St, σ' = ⟨σ.objs.set r (.cells ((bs.set i x).map V.bool)), σ.toks⟩ := ⟨_, rfl⟩
  obtain ⟨k, hk⟩ := KeepX.set_eq h.2 hs
  exact ⟨σ', by rw [vstore_obj h.2 S4 rfl (by simpa using hi), hs, List.map_set], ⟨by rw [List.length_set]; exact h.1, hk⟩, k, by rw [hs]; simp⟩
theorem HT.make (σ : St) {n : Nat} (hn : n ≤ 1000000) : ∃ v σ', vmakeRow Try.prog σ 73 (.int .i64 (n : Int)) (.int .i64 (n : Int)) = some (v, σ') ∧ HT σ' v σ.objs.length (List.replicate n false) ∧ Keep σ σ' ∧ σ'.objs.length = σ.objs.length + 1 := by
  have hz : zeroCellsV [V.bool false] n = (List.replicate n false).map V.bool := by
    apply List.ext_getElem?
    intro i
    simp only [zeroCellsV, List.getElem?_map, List.getElem?_range', List.getElem?_replicate]
    by_cases h : i < n
    · simp [h, Nat.mod_one]
    · simp [h]
  refine ⟨.hslice σ.objs.length 0 1 n, ⟨σ.objs ++ [.cells ((List.replicate n false).map V.bool)], σ.toks⟩, ?_, ⟨by rw [List.length_replicate], push_new _ _⟩, (Keep.refl σ).push _, by simp⟩
  have h1 : n ≤ 140737488355328 := by omega
  have h2 : (n : Int) ≤ 140737488355328 := by omega
  simp [vmakeRow, BlU, BlB, S4, BlZ, vcells, h1, h2, hz]
end Go.Proofs.Ytplhelapcpcncaa.Q

/- The document's walk: the same heights. -/
set_option linter.unusedVariables false
set_option linter.unusedSimpArgs false
set_option maxRecDepth 100000
namespace Go.Proofs.Ytplhelapcpcncaa.Q
open Go Go.RowKit Go.Proofs
def gb (bs : List Bool) (p : Nat) : Bool := bs.getD p false
/-- What holds of the places known, and of those that were seen. -/
structure WInv (m : Mdl) (f : Fun) (xs : List Int) (bs : List Bool) (b : Option Nat) : Prop where
  h : ∃ ws, HInv m f xs ws b ∧ ∀ w ∈ ws, gb bs w.toNat = false
  s : ∀ p, gb bs p = true → 0 ≤ gx xs p
def uns (bs : List Bool) : Nat := (bs.filter fun x => !x).length
theorem WInv.more {m : Mdl} {f : Fun} {xs : List Int} {bs : List Bool} {b : Nat} (H : WInv m f xs bs (some b)) (hb : 0 ≤ gx xs b) {q : Int} {y : Int} (hy : 0 ≤ y) (h0 : 0 ≤ q) (h1 : q < f.code.length) (hq : gx xs q.toNat < 0) (hok : ∀ h, GoodH m f h → h q.toNat = some y) :
    WInv m f (xs.set q.toNat y) bs (some b) ∧ (∀ p, 0 ≤ gx xs p → gx (xs.set q.toNat y) p = gx xs p) ∧ gx (xs.set q.toNat y) q.toNat = y := by
  obtain ⟨ws, hI, hw⟩ := H.h
  obtain ⟨g1, g2, g3⟩ := hI.more hb hy h0 h1 hq hok
  refine ⟨⟨⟨_, g1, fun w hw' => ?_⟩, fun p hp => by rw [g2 p (H.s p hp)]; exact H.s p hp⟩, g2, g3⟩
  rcases List.mem_append.1 hw' with h | h
  · exact hw w h
  · rw [List.mem_singleton] at h
    subst h
    cases e : gb bs w.toNat with
    | false => rfl
    | true => have := H.s _ e; omega
theorem WInv.close {m : Mdl} {f : Fun} {xs : List Int} {bs : List Bool} {b : Nat} (H : WInv m f xs bs (some b)) (hd : DoneH m f xs b) : WInv m f xs bs none :=
  let ⟨ws, hI, hw⟩ := H.h; ⟨⟨ws, hI.close hd, hw⟩, H.s⟩
theorem WInv.len {m : Mdl} {f : Fun} {xs : List Int} {bs : List Bool} {b : Option Nat} (H : WInv m f xs bs b) : xs.length = f.code.length := let ⟨_, h, _⟩ := H.h; h.len
theorem WInv.lo {m : Mdl} {f : Fun} {xs : List Int} {bs : List Bool} {b : Option Nat} (H : WInv m f xs bs b) (p : Nat) : -1 ≤ gx xs p := let ⟨_, h, _⟩ := H.h; h.lo p
theorem WInv.ok {m : Mdl} {f : Fun} {xs : List Int} {bs : List Bool} {b : Option Nat} (H : WInv m f xs bs b) : ∀ h, GoodH m f h → ∀ p, 0 ≤ gx xs p → h p = some (gx xs p) := let ⟨_, h, _⟩ := H.h; h.ok
theorem WInv.good {m : Mdl} {f : Fun} {xs : List Int} {bs : List Bool} (H : WInv m f xs bs none) (ha : ∀ p, 0 ≤ gx xs p → gb bs p = true) : ∃ h, GoodH m f h := by
  obtain ⟨ws, hI, hw⟩ := H.h
  have : ws = [] := by
    cases ws with
    | nil => rfl
    | cons w ws =>
      have h1 := hw w (by simp)
      rw [ha _ (hI.wk w (by simp)).2.2] at h1
      cases h1
  subst this
  exact hI.good
end Go.Proofs.Ytplhelapcpcncaa.Q

/- Verify, the program's and the document's. -/
set_option linter.unusedVariables false
set_option linter.unusedSimpArgs false
set_option maxRecDepth 100000
namespace Go.Proofs.Ytplhelapcpcncaa.Q
open Go Go.RowKit Go.Proofs
def HeadBad (m : Mdl) (st : Int) : Prop := 32 < (m.funcs.length : Int) ∨ st < 0 ∨ 32 < st ∨ 16384 < (m.consts.length : Int)
def FunBad (m : Mdl) (f : Fun) : Prop := f.params < 0 ∨ 8 < f.params ∨ f.locals < f.params ∨ 256 < f.locals ∨ f.zero < 0 ∨ (m.consts.length : Int) ≤ f.zero ∨ f.stack < 1 ∨ 256 < f.stack ∨ (f.code.length : Int) < 1 ∨ 16384 < (f.code.length : Int)
def FunOk (m : Mdl) (st : Int) (n : Nat) (f : Fun) : Prop := ¬ FunBad m f ∧ (∀ i ∈ f.code, rightS m st n f i = true) ∧ ∃ h, GoodH m f h
/-- The module can be run. -/
def MdlOk (m : Mdl) (st : Int) : Prop := ¬ HeadBad m st ∧ (∀ v ∈ m.consts, typeC v ≠ []) ∧ ∀ (n : Nat) (h : n < m.funcs.length), FunOk m st n m.funcs[n]
theorem right_call {m : Mdl} {st : Int} {n : Nat} {f : Fun} {i : Ins} (h : rightS m st n f i = true) (h9 : i.op = 9) : 0 ≤ i.a ∧ i.a < n := by
  unfold rightS at h
  rw [h9] at h
  simp [limL, lookI] at h
  omega
theorem right_jump {m : Mdl} {st : Int} {n : Nat} {f : Fun} {i : Ins} (h : rightS m st n f i = true) (h9 : i.op = 7 ∨ i.op = 8) : 0 ≤ i.a ∧ i.a < f.code.length := by
  unfold rightS at h
  rcases h9 with h9 | h9 <;>
  · rw [h9] at h
    simp [limL, lookI] at h
    omega
theorem right_ins {m : Mdl} {st : Int} {n : Nat} {f : Fun} {i : Ins} (h : rightS m st n f i = true) (hn : n ≤ m.funcs.length) (hp : ∀ (j : Nat) (hj : j < m.funcs.length), j < n → 0 ≤ m.funcs[j].params ∧ m.funcs[j].params ≤ 8) :
    callOk m i ∧ 0 ≤ popS m i ∧ popS m i ≤ 8 ∧ (i.op = 7 ∨ i.op = 8 → 0 ≤ i.a ∧ i.a < f.code.length) := by
  have hpop : 0 ≤ popS m i ∧ popS m i ≤ 8 := by
    unfold popS
    split
    · omega
    split
    · omega
    split
    · omega
    split
    · rename_i h9
      obtain ⟨a, b⟩ := right_call h h9
      have hlt : i.a.toNat < m.funcs.length := by omega
      rw [List.getElem?_eq_getElem hlt]
      exact hp _ hlt (by omega)
    · omega
  exact ⟨fun h9 => by have := right_call h h9; omega, hpop.1, hpop.2, right_jump h⟩
theorem FF2' (r o : Nat) : vfieldAddr Try.prog 37 (.optr r o) 2 = some (.optr r (o + 2)) := by kernel_rfl
theorem cverify_does {σ : St} {m : Mdl} {c : List V} (hm : MdlS σ m c) (st : Int) (hw : ∀ v ∈ m.consts, weight v ≤ 4294967296) :
    ∃ z σ', Does Try.prog prims 12 [.agg c, .int .i64 st] σ (.ret (.int .i64 z)) σ' ∧ Keep σ σ' ∧ ((z = 0 ∧ MdlOk m st) ∨ (z = 40 ∧ ¬ MdlOk m st)) := by
  have key : ∃ q σ', Does Try.prog prims 12 [.agg c, .int .i64 st] σ q σ' ∧ ∃ z, q = .ret (.int .i64 z) ∧ Keep σ σ' ∧ ((z = 0 ∧ MdlOk m st) ∨ (z = 40 ∧ ¬ MdlOk m st)) := by
    apply k12_is.does (by simp)
    have hm0 := hm
    obtain ⟨w1, w2, hc, hv, hf⟩ := hm
    obtain ⟨s1, hs1⟩ : ∃ s1 : St, s1 = ⟨σ.objs ++ [Ob.cells c], σ.toks⟩ := ⟨_, rfl⟩
    have k1 : Keep σ s1 := by rw [hs1]; exact (Keep.refl σ).push _
    have o1 : s1.objs[σ.objs.length]? = some (.cells c) := by rw [hs1]; exact push_new _ _
    have L : ∀ s', Keep s1 s' → vload Try.prog s'.objs 25 (.optr σ.objs.length 0) = some (.agg c) ∧ vload Try.prog s'.objs 22 (.optr σ.objs.length 0) = some w1 ∧ vload Try.prog s'.objs 23 (.optr σ.objs.length 1) = some w2 := by
      intro s' hk
      have e1 := hk.1 _ _ o1
      exact ⟨vload_agg e1 MG (by rw [hm0.len]; exact MS), by rw [vload_obj e1 VsG, hc]; rfl, by rw [vload_obj e1 FsG, hc]; rfl⟩
    have lf : vlen Try.prog 23 w2 = some (.int .i64 (m.funcs.length : Nat)) := by obtain ⟨cs, hr, _⟩ := hf; exact hr.len FT
    have lv := hv.len
    rcases (((Classical.em (32 < (m.funcs.length : Int))).elim (fun h0 => Or.inl h0) (fun h0 => Or.inr ((Classical.em (st < 0)).elim (fun h1 => Or.inl ⟨h0, h1⟩) (fun h1 => Or.inr ((Classical.em (32 < st)).elim (fun h2 => Or.inl ⟨h0, h1, h2⟩) (fun h2 => Or.inr ((Classical.em (16384 < (m.consts.length : Int))).elim (fun h3 => Or.inl ⟨h0, h1, h2, h3⟩) (fun h3 => Or.inr (⟨h0, h1, h2, h3⟩))))))))) : ((32 < (m.funcs.length : Int)) ∨ ¬ (32 < (m.funcs.length : Int)) ∧ (st < 0) ∨ ¬ (32 < (m.funcs.length : Int)) ∧ ¬ (st < 0) ∧ (32 < st) ∨ ¬ (32 < (m.funcs.length : Int)) ∧ ¬ (st < 0) ∧ ¬ (32 < st) ∧ (16384 < (m.consts.length : Int)) ∨ ¬ (32 < (m.funcs.length : Int)) ∧ ¬ (st < 0) ∧ ¬ (32 < st) ∧ ¬ (16384 < (m.consts.length : Int)))) with h | h | h | h | h
    all_goals
      simp only [k12_a, WK, vop, evAll, evOpt, evParts, vbuiltin, vun, vextract, Nat.reduceLT, Nat.reduceEqDiff, ↓reduceIte, reduceCtorEq, Nat.reduceAdd, Int.reduceLT, Int.reduceNeg, valloc_std, noSB, vhot, List.getD_cons_zero, List.getD_cons_succ, vbox, vcells, ← hs1, MF0, MF1, (L s1 (Keep.refl _)).2.1, (L s1 (Keep.refl _)).2.2, lf, lv, h]
    case' inr.inr.inr.inr =>
      skip
    all_goals first
      | exact ⟨40, rfl, k1, .inr ⟨rfl, fun hok => hok.1 (by unfold HeadBad; omega)⟩⟩
      | skip
    have hhead : ¬ HeadBad m st := by unfold HeadBad; omega
    have hfl : m.funcs.length ≤ 32 := by omega
    have hvl : m.consts.length ≤ 16384 := by omega
    clear h
    refine Ev.loopF (fun (i : Nat) e σ' => e 32 = .int .i64 (i : Nat) ∧ i ≤ m.consts.length ∧ Keep s1 σ' ∧ ∀ v ∈ m.consts.take i, typeC v ≠ []) (fun i => m.consts.length - i) 0 ⟨by simp [upd_some], Nat.zero_le _, Keep.refl _, by simp⟩ ?_
    rintro i e σ' ⟨h32, hi, hk, hT⟩ hfr
    have g1 : e 1 = .int .i64 st := (hfr 1 (by decide)).trans (by simp [upd_some])
    have g2 : e 2 = .optr σ.objs.length 0 := (hfr 2 (by decide)).trans (by simp [upd_some])
    have g30 : e 30 = w1 := (hfr 30 (by decide)).trans (by simp [upd_some])
    have g31 : e 31 = .int .i64 (m.consts.length : Nat) := (hfr 31 (by decide)).trans (by simp [upd_some])
    clear hfr
    by_cases hlt : i < m.consts.length
    · have hlt' : (i : Int) < (m.consts.length : Nat) := by omega
      have hwi : IntKind.i64.wrap ((i : Int) + 1) = ((i + 1 : Nat) : Int) := by rw [show ((i : Int) + 1) = ((i + 1 : Nat) : Int) from by omega]; exact wrap_nat (by omega)
      obtain ⟨ccs, cv, hva, hvl', hvc⟩ := hv.get hlt
      obtain ⟨s2, hs2⟩ : ∃ s2 : St, s2 = ⟨(σ'.objs ++ [Ob.cells val0C]).set σ'.objs.length (Ob.cells cv), σ'.toks⟩ := ⟨_, rfl⟩
      have q2 : IsV s2 σ'.objs.length cv := by rw [hs2]; exact IsV.made
      have k2 : Keep σ' s2 := by rw [hs2]; exact (Keep.refl σ').madeV _ _
      have st2 := IsV.new (σ := σ') (o := val0C) hvc.len rfl hvc.one
      rw [← hs2] at st2
      obtain ⟨s3, d3, k3⟩ := ctype_does (σ := s2) (hw _ (List.getElem_mem hlt)) hvc
      simp only [k12_a, WK, vop, evAll, evOpt, evParts, vbuiltin, vun, vextract, Nat.reduceLT, Nat.reduceEqDiff, ↓reduceIte, reduceCtorEq, Nat.reduceAdd, Int.reduceLT, Int.reduceNeg, valloc_std, noSB, vhot, h32, g30, g31, hlt', hva, hvl', VZ24, vbox, vcells, st2, q2.load hvc.len]
      refine KD.ret d3 ?_
      by_cases ht : typeC m.consts[i] = []
      · simp only [k12_a, WK, vop, evAll, evOpt, evParts, vbuiltin, vun, vextract, Nat.reduceLT, Nat.reduceEqDiff, ↓reduceIte, reduceCtorEq, Nat.reduceAdd, Int.reduceLT, Int.reduceNeg, valloc_std, noSB, vhot, ofVal_t0, strBin, ht]
        exact ⟨40, rfl, ((k1.trans hk).trans k2).trans k3, .inr ⟨rfl, fun hok => hok.2.1 _ (List.getElem_mem hlt) ht⟩⟩
      · simp only [k12_a, WK, vop, evAll, evOpt, evParts, vbuiltin, vun, vextract, Nat.reduceLT, Nat.reduceEqDiff, ↓reduceIte, reduceCtorEq, Nat.reduceAdd, Int.reduceLT, Int.reduceNeg, valloc_std, noSB, vhot, ofVal_t0, strBin, ht, h32, hwi]
        refine ⟨i + 1, ⟨by simp [upd_some], by omega, (hk.trans k2).trans k3, fun v hv => ?_⟩, by omega⟩
        rw [List.take_succ_eq_append_getElem hlt, List.mem_append, List.mem_singleton] at hv
        rcases hv with hv | rfl
        · exact hT v hv
        · exact ht
    have hlt' : ¬ (i : Int) < (m.consts.length : Nat) := by omega
    have hTy : ∀ v ∈ m.consts, typeC v ≠ [] := by rw [List.take_of_length_le (by omega)] at hT; exact hT
    simp only [k12_a, WK, vop, evAll, evOpt, evParts, vbuiltin, vun, vextract, Nat.reduceLT, Nat.reduceEqDiff, ↓reduceIte, reduceCtorEq, Nat.reduceAdd, Int.reduceLT, Int.reduceNeg, valloc_std, noSB, vhot, h32, g2, g31, hlt', MF1, (L σ' hk).2.2, lf]
    refine Ev.loopF (fun (n : Nat) e σ' => e 43 = .int .i64 (n : Nat) ∧ n ≤ m.funcs.length ∧ Keep s1 σ' ∧ ∀ (j : Nat) (hj : j < m.funcs.length), j < n → FunOk m st j m.funcs[j]) (fun n => m.funcs.length - n) 0 ⟨by simp [upd_some], Nat.zero_le _, hk, fun j hj h => by omega⟩ ?_
    rintro n e2 sb ⟨h43, hn, hkb, hF⟩ hfr
    have j1 : e2 1 = .int .i64 st := (hfr 1 (by decide)).trans (by simp [upd_some, g1])
    have j2 : e2 2 = .optr σ.objs.length 0 := (hfr 2 (by decide)).trans (by simp [upd_some, g2])
    have j41 : e2 41 = w2 := (hfr 41 (by decide)).trans (by simp [upd_some])
    have j42 : e2 42 = .int .i64 (m.funcs.length : Nat) := (hfr 42 (by decide)).trans (by simp [upd_some])
    clear hfr
    by_cases hnl : n < m.funcs.length
    · have hnl' : (n : Int) < (m.funcs.length : Nat) := by omega
      have hwn : IntKind.i64.wrap ((n : Int) + 1) = ((n + 1 : Nat) : Int) := by rw [show ((n : Int) + 1) = ((n + 1 : Nat) : Int) from by omega]; exact wrap_nat (by omega)
      obtain ⟨p, cf, hp, hFS, hpl⟩ := fun_load hf hnl
      obtain ⟨s2, s3, wc, hs2, st3, k3, o3, hcode, hl3⟩ := funmade sb hFS (k1.trans hkb)
      obtain ⟨f, hfe⟩ : ∃ f, f = m.funcs[n] := ⟨_, rfl⟩
      rw [← hfe] at hFS o3 hcode
      have lc : vlen Try.prog 35 wc = some (.int .i64 (f.code.length : Nat)) := RowS.len hcode NT
      have hk3 := hkb.trans k3
      have L3 : ∀ s', Keep s3 s' → vload Try.prog s'.objs 3 (.optr sb.objs.length 0) = some (.int .i64 f.params) ∧ vload Try.prog s'.objs 3 (.optr sb.objs.length 1) = some (.int .i64 f.locals) ∧ vload Try.prog s'.objs 3 (.optr sb.objs.length 2) = some (.int .i64 f.zero) ∧ vload Try.prog s'.objs 3 (.optr sb.objs.length 3) = some (.int .i64 f.stack) ∧ vload Try.prog s'.objs 35 (.optr sb.objs.length 4) = some wc := by
        intro s' hk
        have e3 := hk.1 _ _ o3
        exact ⟨by rw [vload_obj e3 G3]; rfl, by rw [vload_obj e3 G3]; rfl, by rw [vload_obj e3 G3]; rfl, by rw [vload_obj e3 G3]; rfl, by rw [vload_obj e3 NsG]; rfl⟩
      obtain ⟨f0, f1, f2, f3, f4⟩ := L3 s3 (Keep.refl _)
      have badF : FunBad m f → ¬ MdlOk m st := fun hb hok => (hok.2.2 n hnl).1 (by rw [← hfe]; exact hb)
      rcases (((Classical.em (f.params < 0)).elim (fun h0 => Or.inl h0) (fun h0 => Or.inr ((Classical.em (8 < f.params)).elim (fun h1 => Or.inl ⟨h0, h1⟩) (fun h1 => Or.inr ((Classical.em (f.locals < f.params)).elim (fun h2 => Or.inl ⟨h0, h1, h2⟩) (fun h2 => Or.inr ((Classical.em (256 < f.locals)).elim (fun h3 => Or.inl ⟨h0, h1, h2, h3⟩) (fun h3 => Or.inr ((Classical.em (f.zero < 0)).elim (fun h4 => Or.inl ⟨h0, h1, h2, h3, h4⟩) (fun h4 => Or.inr ((Classical.em ((m.consts.length : Int) ≤ f.zero)).elim (fun h5 => Or.inl ⟨h0, h1, h2, h3, h4, h5⟩) (fun h5 => Or.inr ((Classical.em (f.stack < 1)).elim (fun h6 => Or.inl ⟨h0, h1, h2, h3, h4, h5, h6⟩) (fun h6 => Or.inr ((Classical.em (256 < f.stack)).elim (fun h7 => Or.inl ⟨h0, h1, h2, h3, h4, h5, h6, h7⟩) (fun h7 => Or.inr ((Classical.em ((f.code.length : Int) < 1)).elim (fun h8 => Or.inl ⟨h0, h1, h2, h3, h4, h5, h6, h7, h8⟩) (fun h8 => Or.inr ((Classical.em (16384 < (f.code.length : Int))).elim (fun h9 => Or.inl ⟨h0, h1, h2, h3, h4, h5, h6, h7, h8, h9⟩) (fun h9 => Or.inr (⟨h0, h1, h2, h3, h4, h5, h6, h7, h8, h9⟩))))))))))))))))))))) : ((f.params < 0) ∨ ¬ (f.params < 0) ∧ (8 < f.params) ∨ ¬ (f.params < 0) ∧ ¬ (8 < f.params) ∧ (f.locals < f.params) ∨ ¬ (f.params < 0) ∧ ¬ (8 < f.params) ∧ ¬ (f.locals < f.params) ∧ (256 < f.locals) ∨ ¬ (f.params < 0) ∧ ¬ (8 < f.params) ∧ ¬ (f.locals < f.params) ∧ ¬ (256 < f.locals) ∧ (f.zero < 0) ∨ ¬ (f.params < 0) ∧ ¬ (8 < f.params) ∧ ¬ (f.locals < f.params) ∧ ¬ (256 < f.locals) ∧ ¬ (f.zero < 0) ∧ ((m.consts.length : Int) ≤ f.zero) ∨ ¬ (f.params < 0) ∧ ¬ (8 < f.params) ∧ ¬ (f.locals < f.params) ∧ ¬ (256 < f.locals) ∧ ¬ (f.zero < 0) ∧ ¬ ((m.consts.length : Int) ≤ f.zero) ∧ (f.stack < 1) ∨ ¬ (f.params < 0) ∧ ¬ (8 < f.params) ∧ ¬ (f.locals < f.params) ∧ ¬ (256 < f.locals) ∧ ¬ (f.zero < 0) ∧ ¬ ((m.consts.length : Int) ≤ f.zero) ∧ ¬ (f.stack < 1) ∧ (256 < f.stack) ∨ ¬ (f.params < 0) ∧ ¬ (8 < f.params) ∧ ¬ (f.locals < f.params) ∧ ¬ (256 < f.locals) ∧ ¬ (f.zero < 0) ∧ ¬ ((m.consts.length : Int) ≤ f.zero) ∧ ¬ (f.stack < 1) ∧ ¬ (256 < f.stack) ∧ ((f.code.length : Int) < 1) ∨ ¬ (f.params < 0) ∧ ¬ (8 < f.params) ∧ ¬ (f.locals < f.params) ∧ ¬ (256 < f.locals) ∧ ¬ (f.zero < 0) ∧ ¬ ((m.consts.length : Int) ≤ f.zero) ∧ ¬ (f.stack < 1) ∧ ¬ (256 < f.stack) ∧ ¬ ((f.code.length : Int) < 1) ∧ (16384 < (f.code.length : Int)) ∨ ¬ (f.params < 0) ∧ ¬ (8 < f.params) ∧ ¬ (f.locals < f.params) ∧ ¬ (256 < f.locals) ∧ ¬ (f.zero < 0) ∧ ¬ ((m.consts.length : Int) ≤ f.zero) ∧ ¬ (f.stack < 1) ∧ ¬ (256 < f.stack) ∧ ¬ ((f.code.length : Int) < 1) ∧ ¬ (16384 < (f.code.length : Int)))) with h | h | h | h | h | h | h | h | h | h | h
      all_goals
        simp only [k12_a, WK, vop, evAll, evOpt, evParts, vbuiltin, vun, vextract, Nat.reduceLT, Nat.reduceEqDiff, ↓reduceIte, reduceCtorEq, Nat.reduceAdd, Int.reduceLT, Int.reduceNeg, valloc_std, noSB, vhot, h43, j41, j42, hnl', hp, hpl sb (k1.trans hkb), FZ, vbox, vcells, ← hs2, st3, FFp, FF1', FF2', FF3', FF4', f0, f1, f2, f3, f4, j2, MF0, (L s3 hk3).2.1, lv, lc, h]
      all_goals first
        | exact ⟨40, rfl, k1.trans hk3, .inr ⟨rfl, badF (by unfold FunBad; omega)⟩⟩
        | skip
      have hgood : ¬ FunBad m f := by unfold FunBad; omega
      have hcl : 1 ≤ f.code.length ∧ f.code.length ≤ 16384 := by omega
      have hst : f.stack ≤ 256 := by omega
      clear h
      refine Ev.loopF (fun (q : Nat) e σ' => e 106 = .int .i64 (q : Nat) ∧ q ≤ f.code.length ∧ Keep s3 σ' ∧ ∀ i ∈ f.code.take q, rightS m st n f i = true) (fun q => f.code.length - q) 0 ⟨by simp [upd_some], Nat.zero_le _, Keep.refl _, by simp⟩ ?_
      rintro q e3 sc ⟨h106, hq, hkc, hR⟩ hfr
      have l1 : e3 1 = .int .i64 st := (hfr 1 (by decide)).trans (by simp [upd_some, j1])
      have l2 : e3 2 = .optr σ.objs.length 0 := (hfr 2 (by decide)).trans (by simp [upd_some, j2])
      have l7 : e3 7 = .int .i64 (n : Nat) := (hfr 7 (by decide)).trans (by simp [upd_some])
      have l43 : e3 43 = .int .i64 (n : Nat) := (hfr 43 (by decide)).trans (by simp [upd_some, h43])
      have l104 : e3 104 = wc := (hfr 104 (by decide)).trans (by simp [upd_some])
      have l105 : e3 105 = .int .i64 (f.code.length : Nat) := (hfr 105 (by decide)).trans (by simp [upd_some])
      clear hfr
      by_cases hql : q < f.code.length
      · have hql' : (q : Int) < (f.code.length : Nat) := by omega
        have hwq : IntKind.i64.wrap ((q : Int) + 1) = ((q + 1 : Nat) : Int) := by rw [show ((q : Int) + 1) = ((q + 1 : Nat) : Int) from by omega]; exact wrap_nat (by omega)
        obtain ⟨pc, hpc, hlc⟩ := code_load hcode hql
        obtain ⟨ins, hine⟩ : ∃ ins, ins = f.code[q] := ⟨_, rfl⟩
        obtain ⟨s6, s7, hs6, st7, k7, o7, l7'⟩ := insmade sc ins
        have ldi : vload Try.prog s7.objs 39 (.optr sc.objs.length 0) = some (.agg (insC ins)) := vload_agg o7 NG NS
        have hlcb := hlc sc ((k1.trans hk3).trans hkc)
        rw [← hine] at hlcb
        have hk7 := (hk3.trans hkc).trans k7
        obtain ⟨s8, d8, k8⟩ := right_does (hm0.keep (k1.trans hk7)) st hnl ins
        rw [← hfe] at d8
        simp only [k12_a, WK, vop, evAll, evOpt, evParts, vbuiltin, vun, vextract, Nat.reduceLT, Nat.reduceEqDiff, ↓reduceIte, reduceCtorEq, Nat.reduceAdd, Int.reduceLT, Int.reduceNeg, valloc_std, noSB, vhot, h106, l104, l105, hql', hpc, hlcb, NZ, vbox, vcells, ← hs6, st7, l1, l2, l7, (L s7 hk7).1, ldi]
        refine KD.ret d8 ?_
        cases hr : rightS m st n f ins with
        | false =>
          simp only [k12_a, WK, vop, evAll, evOpt, evParts, vbuiltin, vun, vextract, Nat.reduceLT, Nat.reduceEqDiff, ↓reduceIte, reduceCtorEq, Nat.reduceAdd, Int.reduceLT, Int.reduceNeg, valloc_std, noSB, vhot]
          exact ⟨40, rfl, (k1.trans hk7).trans k8, .inr ⟨rfl, fun hok => by
            have := (hok.2.2 n hnl).2.1 ins (by rw [← hfe, hine]; exact List.getElem_mem _)
            rw [← hfe, hr] at this
            cases this⟩⟩
        | true =>
          simp only [k12_a, WK, vop, evAll, evOpt, evParts, vbuiltin, vun, vextract, Nat.reduceLT, Nat.reduceEqDiff, ↓reduceIte, reduceCtorEq, Nat.reduceAdd, Int.reduceLT, Int.reduceNeg, valloc_std, noSB, vhot, h106, hwq]
          refine ⟨q + 1, ⟨by simp [upd_some], by omega, (hkc.trans k7).trans k8, fun i hi => ?_⟩, by omega⟩
          rw [List.take_succ_eq_append_getElem hql, List.mem_append, List.mem_singleton] at hi
          rcases hi with hi | rfl
          · exact hR i hi
          · rw [← hine]; exact hr
      have hql' : ¬ (q : Int) < (f.code.length : Nat) := by omega
      have hRa : ∀ i ∈ f.code, rightS m st n f i = true := by rw [List.take_of_length_le (by omega)] at hR; exact hR
      have hins : ∀ (p : Nat) (hp : p < f.code.length), callOk m f.code[p] ∧ 0 ≤ popS m f.code[p] ∧ popS m f.code[p] ≤ 8 ∧ (f.code[p].op = 7 ∨ f.code[p].op = 8 → 0 ≤ f.code[p].a ∧ f.code[p].a < f.code.length) := fun p hp =>
        right_ins (hRa _ (List.getElem_mem hp)) (by omega) fun j hj hjn => by
          have := (hF j hj hjn).1
          unfold FunBad at this
          omega
      have hkc' := hk3.trans hkc
      obtain ⟨b, s9, d9, k9, hb⟩ := heights_does (hm0.keep (k1.trans hkc')) hnl (by rw [← hfe]; exact hcl) (by rw [← hfe]; exact hst) (by rw [← hfe]; exact hins)
      rw [← hfe] at hb
      simp only [k12_a, WK, vop, evAll, evOpt, evParts, vbuiltin, vun, vextract, Nat.reduceLT, Nat.reduceEqDiff, ↓reduceIte, reduceCtorEq, Nat.reduceAdd, Int.reduceLT, Int.reduceNeg, valloc_std, noSB, vhot, h106, l105, hql', l2, l7, (L sc hkc').1]
      refine KD.ret d9 ?_
      cases b with
      | false =>
        simp only [k12_a, WK, vop, evAll, evOpt, evParts, vbuiltin, vun, vextract, Nat.reduceLT, Nat.reduceEqDiff, ↓reduceIte, reduceCtorEq, Nat.reduceAdd, Int.reduceLT, Int.reduceNeg, valloc_std, noSB, vhot]
        exact ⟨40, rfl, (k1.trans hkc').trans k9, .inr ⟨rfl, fun hok => by
          have := (hok.2.2 n hnl).2.2
          rw [← hfe] at this
          exact absurd (hb.2 this) (by decide)⟩⟩
      | true =>
        simp only [k12_a, WK, vop, evAll, evOpt, evParts, vbuiltin, vun, vextract, Nat.reduceLT, Nat.reduceEqDiff, ↓reduceIte, reduceCtorEq, Nat.reduceAdd, Int.reduceLT, Int.reduceNeg, valloc_std, noSB, vhot, l43, hwn]
        refine ⟨n + 1, ⟨by simp [upd_some], by omega, hkc'.trans k9, fun j hj hjn => ?_⟩, by omega⟩
        by_cases hjn' : j < n
        · exact hF j hj hjn'
        · have : j = n := by omega
          subst this
          rw [← hfe]
          exact ⟨hgood, hRa, hb.1 rfl⟩
    have hnl' : ¬ (n : Int) < (m.funcs.length : Nat) := by omega
    simp only [k12_a, WK, vop, evAll, evOpt, evParts, vbuiltin, vun, vextract, Nat.reduceLT, Nat.reduceEqDiff, ↓reduceIte, reduceCtorEq, Nat.reduceAdd, Int.reduceLT, Int.reduceNeg, valloc_std, noSB, vhot, h43, j42, hnl']
    exact ⟨0, rfl, k1.trans hkb, .inl ⟨rfl, hhead, hTy, fun j hj => hF j hj (by omega)⟩⟩
  obtain ⟨q, σ', h1, z, rfl, h2⟩ := key
  exact ⟨z, σ', h1, h2⟩
end Go.Proofs.Ytplhelapcpcncaa.Q

/- A module that is handed in; what is more than is played. -/
set_option linter.unusedVariables false
set_option linter.unusedSimpArgs false
set_option maxRecDepth 100000
namespace Go.Proofs.Ytplhelapcpcncaa.Q
open Go Go.RowKit Go.Proofs
structure MIn (m : Mdl) (B : Nat) : Prop where
  cw : weights m.consts ≤ B
  fl : m.funcs.length ≤ B
  fi : ∀ f ∈ m.funcs, InI64 f.params ∧ InI64 f.locals ∧ InI64 f.zero ∧ InI64 f.stack ∧ f.code.length ≤ B ∧ ∀ i ∈ f.code, InI64 i.op ∧ InI64 i.a
theorem rows_rel {α : Type} {R : Nat → α → Prop} : ∀ (len : Nat), (∀ i, i < len → ∃ x, R i x) → ∃ l : List α, l.length = len ∧ ∀ (i : Nat) (h : i < l.length), R i l[i] := by
  intro len h
  refine ⟨List.ofFn fun i : Fin len => Classical.choose (h i i.2), by simp, fun i hi => ?_⟩
  rw [List.getElem_ofFn]
  exact Classical.choose_spec (h i (by simpa using hi))
theorem vals_rows : ∀ (len : Nat) (vs : List V), vs.length = len * 4 → (∀ i, i < len → ∃ v, ValC v ((vs.drop (i * 4)).take 4)) → ∃ l, l.length = len ∧ ValsC l vs ∧ weights l ≤ vbulks vs
  | 0, vs, hv, _ => by
    have h0 : vs = [] := List.length_eq_zero_iff.1 (by simpa using hv)
    subst h0
    exact ⟨[], rfl, .nil, by simp [weights]⟩
  | len + 1, vs, hv, hi => by
    obtain ⟨v, hv0⟩ := hi 0 (by omega)
    rw [Nat.zero_mul, List.drop_zero] at hv0
    obtain ⟨l, hl, hlC, hw⟩ := vals_rows len (vs.drop 4) (by rw [List.length_drop, hv]; omega) fun i hlt => by
      have := hi (i + 1) (by omega)
      rwa [show (i + 1) * 4 = 4 + i * 4 by omega, ← List.drop_drop] at this
    have h2 := ValsC.cons hv0 hlC
    have hb := vbulks_append (vs.take 4) (vs.drop 4)
    have hb1 := hv0.bulk _ (Nat.le_refl _)
    rw [List.take_append_drop] at h2 hb
    exact ⟨v :: l, by simp [hl], h2, by rw [weights]; omega⟩
theorem vals_VT {k : Nat} {cs : List V} (h : VT Try.prog k 22 cs) : ∃ w l, cs = [w] ∧ ValsW l w ∧ weights l ≤ vbulks cs := by
  obtain ⟨k', hc⟩ := VT_slice VT22 h
  rcases hc with rfl | ⟨vs, len, rfl, h1, h2, h3⟩
  · exact ⟨.nils, [], rfl, .nil, by simp [weights]⟩
  · rw [CO24] at h1 h3 ⊢
    obtain ⟨l, hl, hC, hw⟩ := vals_rows len vs h1 fun i hi => val_VT k' (h3 i hi)
    subst hl
    exact ⟨_, l, rfl, .row hC, by simp only [vbulks, vbulk]; omega⟩
theorem COM : Try.prog.cellsOf 25 = 2 := by kernel_rfl
theorem COF : Try.prog.cellsOf 37 = 5 := by kernel_rfl
theorem CON : Try.prog.cellsOf 39 = 2 := by kernel_rfl
theorem COFs : Try.prog.cellsOf 23 = 1 := by kernel_rfl
theorem CONs : Try.prog.cellsOf 35 = 1 := by kernel_rfl
theorem FOM : fieldsOf Try.prog 25 = [(22, 0), (23, 1)] := by kernel_rfl
theorem FOF : fieldsOf Try.prog 37 = [(3, 0), (3, 1), (3, 2), (3, 3), (35, 4)] := by kernel_rfl
theorem FON : fieldsOf Try.prog 39 = [(3, 0), (3, 1)] := by kernel_rfl
theorem list_ext5 {cs : List V} {a b c d e : V} (hl : cs.length = 5) (h0 : cs[0]? = some a) (h1 : cs[1]? = some b) (h2 : cs[2]? = some c) (h3 : cs[3]? = some d) (h4 : cs[4]? = some e) : cs = [a, b, c, d, e] := by
  match cs, hl with
  | [x0, x1, x2, x3, x4], _ => simp at h0 h1 h2 h3 h4; simp [h0, h1, h2, h3, h4]
theorem list_ext2 {cs : List V} {a b : V} (hl : cs.length = 2) (h0 : cs[0]? = some a) (h1 : cs[1]? = some b) : cs = [a, b] := by
  match cs, hl with
  | [x0, x1], _ => simp at h0 h1; simp [h0, h1]
theorem ins_VT {k : Nat} {cs : List V} (h : VT Try.prog k 39 cs) : ∃ i : Ins, cs = insC i ∧ (InI64 i.op ∧ InI64 i.a) := by
  obtain ⟨k', hl, hf⟩ := VT_struct FON h
  rw [CON] at hl
  simp only [List.mem_cons, List.not_mem_nil, or_false, forall_eq_or_imp, forall_eq, CO3] at hf
  obtain ⟨f0, f1⟩ := hf
  obtain ⟨a, h0, w0⟩ := VT_int T3 f0
  obtain ⟨b, h1, w1⟩ := VT_int T3 f1
  exact ⟨⟨a, b⟩, list_ext2 hl (one_of h0) (one_of h1), InI64_of w0, InI64_of w1⟩
theorem code_VT {k : Nat} {cs : List V} (h : VT Try.prog k 35 cs) : ∃ w l, cs = [w] ∧ (∀ σ, CodeS σ w l) ∧ (∀ i ∈ l, InI64 i.op ∧ InI64 i.a) ∧ l.length ≤ vbulks cs := by
  obtain ⟨k', hc⟩ := VT_slice NT h
  rcases hc with rfl | ⟨vs, len, rfl, h1, h2, h3⟩
  · exact ⟨.nils, [], rfl, fun σ => .inl (RowV.nil 2), by simp, by simp⟩
  · rw [CON] at h1 h3 ⊢
    obtain ⟨l, rfl, hl, hR⟩ := rows_of (f := insC) (R := fun i => InI64 i.op ∧ InI64 i.a) len vs h1 fun i hi => ins_VT (h3 i hi)
    subst hl
    refine ⟨_, l, rfl, fun σ => .inl ⟨flat_len insC_len l, .inr ⟨.ro, rfl⟩⟩, hR, ?_⟩
    have := bulk_len insC_len (by omega) l
    simp only [vbulks, vbulk]
    omega
theorem fun_VT {k : Nat} {cs : List V} (h : VT Try.prog k 37 cs) : ∃ f : Fun, (∀ σ, FunS σ f cs) ∧ InI64 f.params ∧ InI64 f.locals ∧ InI64 f.zero ∧ InI64 f.stack ∧ f.code.length ≤ vbulks cs ∧ ∀ i ∈ f.code, InI64 i.op ∧ InI64 i.a := by
  obtain ⟨k', hl, hf⟩ := VT_struct FOF h
  rw [COF] at hl
  simp only [List.mem_cons, List.not_mem_nil, or_false, forall_eq_or_imp, forall_eq, CO3, CONs] at hf
  obtain ⟨f0, f1, f2, f3, f4⟩ := hf
  obtain ⟨a0, h0, w0⟩ := VT_int T3 f0
  obtain ⟨a1, h1, w1⟩ := VT_int T3 f1
  obtain ⟨a2, h2, w2⟩ := VT_int T3 f2
  obtain ⟨a3, h3, w3⟩ := VT_int T3 f3
  obtain ⟨w, l, h4, hC, hI, hn⟩ := code_VT f4
  have hcs : cs = [.int .i64 a0, .int .i64 a1, .int .i64 a2, .int .i64 a3, w] := list_ext5 hl (one_of h0) (one_of h1) (one_of h2) (one_of h3) (one_of h4)
  subst hcs
  refine ⟨⟨a0, a1, a2, a3, l⟩, fun σ => ⟨w, rfl, hC σ⟩, InI64_of w0, InI64_of w1, InI64_of w2, InI64_of w3, ?_, hI⟩
  rw [h4] at hn
  simp only [vbulks, vbulk] at hn ⊢
  omega
theorem vbulks_part (vs : List V) (i n : Nat) : vbulks ((vs.drop i).take n) ≤ vbulks vs := by
  have h1 := vbulks_append (vs.take i) (vs.drop i)
  have h2 := vbulks_append ((vs.drop i).take n) ((vs.drop i).drop n)
  rw [List.take_append_drop] at h1 h2
  omega
theorem funs_VT {k : Nat} {cs : List V} (h : VT Try.prog k 23 cs) : ∃ w l, cs = [w] ∧ (∀ σ, FunsS σ w l) ∧ l.length ≤ vbulks cs ∧ ∀ f ∈ l, InI64 f.params ∧ InI64 f.locals ∧ InI64 f.zero ∧ InI64 f.stack ∧ f.code.length ≤ vbulks cs ∧ ∀ i ∈ f.code, InI64 i.op ∧ InI64 i.a := by
  obtain ⟨k', hc⟩ := VT_slice FT h
  rcases hc with rfl | ⟨vs, len, rfl, h1, h2, h3⟩
  · exact ⟨.nils, [], rfl, fun σ => ⟨[], .inl (RowV.nil 5), fun i hi => by simp at hi⟩, by simp, by simp⟩
  · rw [COF] at h1 h3 ⊢
    obtain ⟨l, hl, hR⟩ := rows_rel (R := fun i (f : Fun) => (∀ σ, FunS σ f ((vs.drop (i * 5)).take 5)) ∧ InI64 f.params ∧ InI64 f.locals ∧ InI64 f.zero ∧ InI64 f.stack ∧ f.code.length ≤ vbulks ((vs.drop (i * 5)).take 5) ∧ ∀ i ∈ f.code, InI64 i.op ∧ InI64 i.a) len fun i hi => fun_VT (h3 i hi)
    subst hl
    have hvl := vbulks_len vs
    refine ⟨_, l, rfl, fun σ => ⟨vs, .inl ⟨h1, .inr ⟨.ro, rfl⟩⟩, fun i hi => (hR i hi).1 σ⟩, by simp only [vbulks, vbulk]; omega, fun f hf => ?_⟩
    obtain ⟨i, hi, rfl⟩ := List.getElem_of_mem hf
    obtain ⟨_, g1, g2, g3, g4, g5, g6⟩ := hR i hi
    have := vbulks_part vs (i * 5) 5
    exact ⟨g1, g2, g3, g4, by simp only [vbulks, vbulk]; omega, g6⟩
theorem mdl_arg {x : V} (h : ArgT Try.prog 25 x) : ∃ m c, x = .agg c ∧ (∀ σ, MdlS σ m c) ∧ MIn m (vbulk x) := by
  obtain ⟨k, cs, rfl, h0⟩ := ArgT_struct FOM h
  obtain ⟨k', hl, hf⟩ := VT_struct FOM h0
  rw [COM] at hl
  simp only [List.mem_cons, List.not_mem_nil, or_false, forall_eq_or_imp, forall_eq, CO22, COFs] at hf
  obtain ⟨f0, f1⟩ := hf
  obtain ⟨w1, l1, h1, hv, hw⟩ := vals_VT f0
  obtain ⟨w2, l2, h2, hF, hn, hI⟩ := funs_VT f1
  have hcs : cs = [w1, w2] := list_ext2 hl (one_of h1) (one_of h2)
  subst hcs
  rw [h1] at hw
  rw [h2] at hn hI
  refine ⟨⟨l1, l2⟩, _, rfl, fun σ => ⟨w1, w2, rfl, hv, hF σ⟩, ?_, ?_, fun f hf => ?_⟩
  · simp only [vbulks, vbulk] at hw ⊢; omega
  · simp only [vbulks, vbulk] at hn ⊢; omega
  · obtain ⟨g1, g2, g3, g4, g5, g6⟩ := hI f hf
    exact ⟨g1, g2, g3, g4, by simp only [vbulks, vbulk] at g5 ⊢; omega, g6⟩
end Go.Proofs.Ytplhelapcpcncaa.Q

/- What is more than is played; the module of the examples. -/
set_option linter.unusedVariables false
set_option linter.unusedSimpArgs false
set_option maxRecDepth 100000
namespace Go.Proofs.Ytplhelapcpcncaa.Q
open Go Go.RowKit Go.Proofs
theorem large_does {σ : St} {m : Mdl} {c : List V} {B : Nat} (hm : MdlS σ m c) (hM : MIn m B) (hB : B ≤ 4294967296) :
    ∃ b σ', Does Try.prog prims 9 [.agg c] σ (.ret (.bool b)) σ' ∧ Keep σ σ' := by
  have key : ∃ q σ', Does Try.prog prims 9 [.agg c] σ q σ' ∧ ∃ b, q = .ret (.bool b) ∧ Keep σ σ' := by
    apply k9_is.does (by simp)
    have hm0 := hm
    obtain ⟨w1, w2, hc, hv, hf⟩ := hm
    obtain ⟨s1, hs1⟩ : ∃ s1 : St, s1 = ⟨σ.objs ++ [Ob.cells c], σ.toks⟩ := ⟨_, rfl⟩
    have k1 : Keep σ s1 := by rw [hs1]; exact (Keep.refl σ).push _
    have o1 : s1.objs[σ.objs.length]? = some (.cells c) := by rw [hs1]; exact push_new _ _
    have L : ∀ s', Keep s1 s' → vload Try.prog s'.objs 22 (.optr σ.objs.length 0) = some w1 ∧ vload Try.prog s'.objs 23 (.optr σ.objs.length 1) = some w2 := by
      intro s' hk
      have e1 := hk.1 _ _ o1
      exact ⟨by rw [vload_obj e1 VsG, hc]; rfl, by rw [vload_obj e1 FsG, hc]; rfl⟩
    have lf : vlen Try.prog 23 w2 = some (.int .i64 (m.funcs.length : Nat)) := by obtain ⟨cs, hr, _⟩ := hf; exact hr.len FT
    have lv := hv.len
    have hfl := hM.fl
    have hcl : m.consts.length ≤ B := Nat.le_trans (weights_len _) hM.cw
    simp only [k9_a, WK, vop, evAll, evOpt, evParts, vbuiltin, vun, vextract, Nat.reduceLT, Nat.reduceEqDiff, ↓reduceIte, reduceCtorEq, Nat.reduceAdd, Int.reduceLT, Int.reduceNeg, valloc_std, noSB, vhot, List.getD_cons_zero, vbox, vcells, ← hs1, MF1, (L s1 (Keep.refl _)).2, lf]
    refine Ev.loopF (fun (i : Nat) e σ' => e 13 = .int .i64 (i : Nat) ∧ i ≤ m.funcs.length ∧ (∃ n : Int, e 3 = .int .i64 n ∧ 0 ≤ n ∧ n ≤ 4096) ∧ Keep s1 σ') (fun i => m.funcs.length - i) 0 ⟨by simp [upd_some], Nat.zero_le _, ⟨0, by simp [upd_some], by omega, by omega⟩, Keep.refl _⟩ ?_
    rintro i e σ' ⟨h13, hi, ⟨n, h3, hn0, hn1⟩, hk⟩ hfr
    have g1 : e 1 = .optr σ.objs.length 0 := (hfr 1 (by decide)).trans (by simp [upd_some])
    have g11 : e 11 = w2 := (hfr 11 (by decide)).trans (by simp [upd_some])
    have g12 : e 12 = .int .i64 (m.funcs.length : Nat) := (hfr 12 (by decide)).trans (by simp [upd_some])
    clear hfr
    by_cases hlt : i < m.funcs.length
    · have hlt' : (i : Int) < (m.funcs.length : Nat) := by omega
      have hwi : IntKind.i64.wrap ((i : Int) + 1) = ((i + 1 : Nat) : Int) := by rw [show ((i : Int) + 1) = ((i + 1 : Nat) : Int) from by omega]; exact wrap_nat (by omega)
      obtain ⟨p, cf, hp, hFS, hpl⟩ := fun_load hf hlt
      obtain ⟨s2, s3, wc, hs2, st3, k3, o3, hcode, hl3⟩ := funmade σ' hFS (k1.trans hk)
      obtain ⟨f, hfe⟩ : ∃ f, f = m.funcs[i] := ⟨_, rfl⟩
      have hfb : f.code.length ≤ B := by rw [hfe]; exact (hM.fi _ (List.getElem_mem hlt)).2.2.2.2.1
      rw [← hfe] at hFS o3 hcode
      have lc : vlen Try.prog 35 wc = some (.int .i64 (f.code.length : Nat)) := RowS.len hcode NT
      have ldc : vload Try.prog s3.objs 35 (.optr σ'.objs.length 4) = some wc := by rw [vload_obj o3 NsG]; rfl
      have hw1 : IntKind.i64.wrap (1 + (f.code.length : Int)) = 1 + (f.code.length : Int) := wrap_i64 (by omega) (by omega)
      have hw2 : IntKind.i64.wrap (n + (1 + (f.code.length : Int))) = n + (1 + (f.code.length : Int)) := wrap_i64 (by omega) (by omega)
      by_cases hbig : (4096 : Int) < n + (1 + (f.code.length : Int))
      · simp only [k9_a, WK, vop, evAll, evOpt, evParts, vbuiltin, vun, vextract, Nat.reduceLT, Nat.reduceEqDiff, ↓reduceIte, reduceCtorEq, Nat.reduceAdd, Int.reduceLT, Int.reduceNeg, valloc_std, noSB, vhot, h3, h13, g11, g12, hlt', hp, hpl σ' (k1.trans hk), FZ, vbox, vcells, ← hs2, st3, FF4', ldc, lc, hw1, hw2, hbig]
        exact ⟨_, rfl, (k1.trans hk).trans k3⟩
      · simp only [k9_a, WK, vop, evAll, evOpt, evParts, vbuiltin, vun, vextract, Nat.reduceLT, Nat.reduceEqDiff, ↓reduceIte, reduceCtorEq, Nat.reduceAdd, Int.reduceLT, Int.reduceNeg, valloc_std, noSB, vhot, h3, h13, g11, g12, hlt', hp, hpl σ' (k1.trans hk), FZ, vbox, vcells, ← hs2, st3, FF4', ldc, lc, hw1, hw2, hbig, hwi]
        exact ⟨i + 1, ⟨by simp [upd_some], by omega, ⟨_, by simp [upd_some]; rfl, by omega, by omega⟩, hk.trans k3⟩, by omega⟩
    have hlt' : ¬ (i : Int) < (m.funcs.length : Nat) := by omega
    simp only [k9_a, WK, vop, evAll, evOpt, evParts, vbuiltin, vun, vextract, Nat.reduceLT, Nat.reduceEqDiff, ↓reduceIte, reduceCtorEq, Nat.reduceAdd, Int.reduceLT, Int.reduceNeg, valloc_std, noSB, vhot, h13, g1, g12, hlt', MF0, (L σ' hk).1, lv]
    refine Ev.loopF (fun (j : Nat) e σ' => e 29 = .int .i64 (j : Nat) ∧ j ≤ m.consts.length ∧ (∃ n : Int, e 3 = .int .i64 n ∧ 0 ≤ n ∧ n ≤ 8192) ∧ Keep s1 σ') (fun j => m.consts.length - j) 0 ⟨by simp [upd_some], Nat.zero_le _, ⟨n, by simp [upd_some, h3], by omega, by omega⟩, hk⟩ ?_
    rintro j e2 sb ⟨h29, hj, ⟨n2, h3', hm0', hm1⟩, hkb⟩ hfr
    have j27 : e2 27 = w1 := (hfr 27 (by decide)).trans (by simp [upd_some])
    have j28 : e2 28 = .int .i64 (m.consts.length : Nat) := (hfr 28 (by decide)).trans (by simp [upd_some])
    clear hfr
    by_cases hjl : j < m.consts.length
    · have hjl' : (j : Int) < (m.consts.length : Nat) := by omega
      have hwj : IntKind.i64.wrap ((j : Int) + 1) = ((j + 1 : Nat) : Int) := by rw [show ((j : Int) + 1) = ((j + 1 : Nat) : Int) from by omega]; exact wrap_nat (by omega)
      obtain ⟨ccs, cv, hva, hvl', hvc⟩ := hv.get hjl
      have hwt := Nat.le_trans (weights_mem (List.getElem_mem hjl)) hM.cw
      obtain ⟨s2, hs2⟩ : ∃ s2 : St, s2 = ⟨(sb.objs ++ [Ob.cells val0C]).set sb.objs.length (Ob.cells cv), sb.toks⟩ := ⟨_, rfl⟩
      have q2 : IsV s2 sb.objs.length cv := by rw [hs2]; exact IsV.made
      have k2 : Keep sb s2 := by rw [hs2]; exact (Keep.refl sb).madeV _ _
      have st2 := IsV.new (σ := sb) (o := val0C) hvc.len rfl hvc.one
      rw [← hs2] at st2
      obtain ⟨k, v, t, l, w, hve, rfl, hl, _⟩ := hvc.inv
      rw [hve, weight] at hwt
      have hll := weights_len l
      have hw1 : IntKind.i64.wrap (1 + (t.length : Int)) = 1 + (t.length : Int) := wrap_i64 (by omega) (by omega)
      have hw2 : IntKind.i64.wrap (1 + (t.length : Int) + (l.length : Int)) = 1 + (t.length : Int) + (l.length : Int) := wrap_i64 (by omega) (by omega)
      have hw3 : IntKind.i64.wrap (n2 + (1 + (t.length : Int) + (l.length : Int))) = n2 + (1 + (t.length : Int) + (l.length : Int)) := wrap_i64 (by omega) (by omega)
      by_cases hbig : (8192 : Int) < n2 + (1 + (t.length : Int) + (l.length : Int))
      · simp only [k9_a, WK, vop, evAll, evOpt, evParts, vbuiltin, vun, vextract, Nat.reduceLT, Nat.reduceEqDiff, ↓reduceIte, reduceCtorEq, Nat.reduceAdd, Int.reduceLT, Int.reduceNeg, valloc_std, noSB, vhot, h29, h3', j27, j28, hjl', hva, hvl', VZ24, vbox, vcells, st2, FV2, FV3, q2.text, q2.list, vlen_str T9, hl.len, hw1, hw2, hw3, hbig]
        exact ⟨_, rfl, ((k1.trans hkb).trans k2)⟩
      · simp only [k9_a, WK, vop, evAll, evOpt, evParts, vbuiltin, vun, vextract, Nat.reduceLT, Nat.reduceEqDiff, ↓reduceIte, reduceCtorEq, Nat.reduceAdd, Int.reduceLT, Int.reduceNeg, valloc_std, noSB, vhot, h29, h3', j27, j28, hjl', hva, hvl', VZ24, vbox, vcells, st2, FV2, FV3, q2.text, q2.list, vlen_str T9, hl.len, hw1, hw2, hw3, hbig]
        refine Ev.loopF (fun (z : Nat) e σ' => e 48 = .int .i64 (z : Nat) ∧ z ≤ l.length ∧ Keep s2 σ') (fun z => l.length - z) 0 ⟨by simp [upd_some], Nat.zero_le _, Keep.refl _⟩ ?_
        rintro z e3 sc ⟨h48, hz, hkc⟩ hfr
        have l3 : e3 3 = .int .i64 (n2 + (1 + (t.length : Int) + (l.length : Int))) := (hfr 3 (by decide)).trans (by simp [upd_some])
        have l29 : e3 29 = .int .i64 (j : Nat) := (hfr 29 (by decide)).trans (by simp [upd_some, h29])
        have l46 : e3 46 = w := (hfr 46 (by decide)).trans (by simp [upd_some])
        have l47 : e3 47 = .int .i64 (l.length : Nat) := (hfr 47 (by decide)).trans (by simp [upd_some])
        clear hfr
        by_cases hzl : z < l.length
        · have hzl' : (z : Int) < (l.length : Nat) := by omega
          have hwz : IntKind.i64.wrap ((z : Int) + 1) = ((z + 1 : Nat) : Int) := by rw [show ((z : Int) + 1) = ((z + 1 : Nat) : Int) from by omega]; exact wrap_nat (by omega)
          obtain ⟨ccs', cv', hva', hvl'', hvc'⟩ := hl.get hzl
          obtain ⟨s4, hs4⟩ : ∃ s4 : St, s4 = ⟨(sc.objs ++ [Ob.cells val0C]).set sc.objs.length (Ob.cells cv'), sc.toks⟩ := ⟨_, rfl⟩
          have q4 : IsV s4 sc.objs.length cv' := by rw [hs4]; exact IsV.made
          have k4 : Keep sc s4 := by rw [hs4]; exact (Keep.refl sc).madeV _ _
          have st4 := IsV.new (σ := sc) (o := val0C) hvc'.len rfl hvc'.one
          rw [← hs4] at st4
          obtain ⟨k', v', t', l', w', _, rfl, hl', _⟩ := hvc'.inv
          by_cases hp : (0 : Int) < (l'.length : Nat)
          · simp only [k9_a, WK, vop, evAll, evOpt, evParts, vbuiltin, vun, vextract, Nat.reduceLT, Nat.reduceEqDiff, ↓reduceIte, reduceCtorEq, Nat.reduceAdd, Int.reduceLT, Int.reduceNeg, valloc_std, noSB, vhot, h48, l46, l47, hzl', hva', hvl'', VZ24, vbox, vcells, st4, FV3, q4.list, hl'.len, hp]
            exact ⟨_, rfl, (((k1.trans hkb).trans k2).trans hkc).trans k4⟩
          · simp only [k9_a, WK, vop, evAll, evOpt, evParts, vbuiltin, vun, vextract, Nat.reduceLT, Nat.reduceEqDiff, ↓reduceIte, reduceCtorEq, Nat.reduceAdd, Int.reduceLT, Int.reduceNeg, valloc_std, noSB, vhot, h48, l46, l47, hzl', hva', hvl'', VZ24, vbox, vcells, st4, FV3, q4.list, hl'.len, hp, hwz]
            exact ⟨z + 1, ⟨by simp [upd_some], by omega, hkc.trans k4⟩, by omega⟩
        have hzl' : ¬ (z : Int) < (l.length : Nat) := by omega
        simp only [k9_a, WK, vop, evAll, evOpt, evParts, vbuiltin, vun, vextract, Nat.reduceLT, Nat.reduceEqDiff, ↓reduceIte, reduceCtorEq, Nat.reduceAdd, Int.reduceLT, Int.reduceNeg, valloc_std, noSB, vhot, h48, l29, l47, hzl', hwj]
        exact ⟨j + 1, ⟨by simp [upd_some], by omega, ⟨_, l3, by omega, by omega⟩, (hkb.trans k2).trans hkc⟩, by omega⟩
    have hjl' : ¬ (j : Int) < (m.consts.length : Nat) := by omega
    simp only [k9_a, WK, vop, evAll, evOpt, evParts, vbuiltin, vun, vextract, Nat.reduceLT, Nat.reduceEqDiff, ↓reduceIte, reduceCtorEq, Nat.reduceAdd, Int.reduceLT, Int.reduceNeg, valloc_std, noSB, vhot, h29, j28, hjl']
    exact ⟨_, rfl, k1.trans hkb⟩
  obtain ⟨q, σ', h1, b, rfl, h2⟩ := key
  exact ⟨b, σ', h1, h2⟩
end Go.Proofs.Ytplhelapcpcncaa.Q

/- A module's bytes. -/
set_option linter.unusedVariables false
set_option linter.unusedSimpArgs false
set_option maxRecDepth 100000
namespace Go.Proofs.Ytplhelapcpcncaa.Q
open Go Go.RowKit Go.Proofs
def kindV : Val → Int
  | .mk k _ _ _ => k
def cB (v : Val) : List UInt8 := putN (kindV v).toNat ++ putV v
def insB (i : Ins) : List UInt8 := putS [i.op, i.a]
def headF (f : Fun) : List Int := [f.params, f.locals, f.zero, f.stack, ((f.code.length : Nat) : Int)]
def funB (f : Fun) : List UInt8 := putS (headF f) ++ f.code.flatMap insB
def headM (m : Mdl) : List Int := [((m.consts.length : Nat) : Int), ((m.funcs.length : Nat) : Int)]
def encM (m : Mdl) : List UInt8 := putS (headM m) ++ m.consts.flatMap cB ++ m.funcs.flatMap funB
theorem typeC_fits {v : Val} (h : typeC v ≠ []) : fitsS (typeC v) v = true ∧ (typeC v).length ≤ 100 ∧ listV v = [] := by
  unfold typeC at h ⊢
  by_cases hl : listV v = []
  · rw [if_pos hl] at h ⊢
    cases hf : typesL.find? (fun s => fitsS s v) with
    | none => rw [hf] at h; exact absurd rfl h
    | some s =>
      have h1 := List.find?_some hf
      have h2 := List.mem_of_find?_eq_some hf
      refine ⟨h1, ?_, hl⟩
      simp only [Option.getD_some]
      simp only [typesL, List.mem_cons, List.not_mem_nil, or_false] at h2
      rcases h2 with rfl | rfl | rfl | rfl | rfl <;> simp
  · rw [if_neg hl] at h; exact absurd rfl h
theorem ValsW.all' {l : List Val} {w : V} (h : ValsW l w) : ∀ x ∈ l, ∃ c, ValC x c := by
  intro x hx
  obtain ⟨i, hi, rfl⟩ := List.getElem_of_mem hx
  obtain ⟨_, c, _, _, hc⟩ := h.get hi
  exact ⟨c, hc⟩
theorem cB_len {v : Val} {c : List V} (hw : weight v ≤ 4294967296) (hc : ValC v c) : (cB v).length ≤ 27 * weight v := by
  unfold cB
  obtain ⟨k, n, t, l, w, rfl, _, _, hk, _⟩ := hc.inv
  rw [List.length_append]
  have h1 := putV_len _ (Nat.le_refl _) hw hc
  have h2 := putN_len k.toNat 8 (by unfold InI64 at hk; omega)
  have h3 := weight_pos (.mk k n t l)
  simp only [kindV]
  omega
theorem constsB_len : ∀ {l : List Val}, weights l ≤ 4294967296 → (∀ x ∈ l, ∃ c, ValC x c) → (l.flatMap cB).length ≤ 27 * weights l
  | [], _, _ => by simp
  | v :: l, hw, h => by
    rw [weights] at hw ⊢
    obtain ⟨c, hc⟩ := h v (by simp)
    have h1 := cB_len (by omega) hc
    have h2 := constsB_len (l := l) (by omega) fun x hx => h x (by simp [hx])
    rw [List.flatMap_cons, List.length_append]
    omega
theorem insB_len {i : Ins} (h : InI64 i.op ∧ InI64 i.a) : (insB i).length ≤ 18 := putS_len (xs := [i.op, i.a]) (by simp [h.1, h.2])
theorem codeB_len : ∀ {l : List Ins}, (∀ i ∈ l, InI64 i.op ∧ InI64 i.a) → (l.flatMap insB).length ≤ l.length * 18
  | [], _ => by simp
  | i :: l, h => by
    have h1 := insB_len (h i (by simp))
    have h2 := codeB_len (l := l) fun x hx => h x (by simp [hx])
    rw [List.flatMap_cons, List.length_append, List.length_cons]
    omega
def FunIn (f : Fun) : Prop := InI64 f.params ∧ InI64 f.locals ∧ InI64 f.zero ∧ InI64 f.stack ∧ ∀ i ∈ f.code, InI64 i.op ∧ InI64 i.a
theorem headF_in {f : Fun} (h : FunIn f) (hc : f.code.length ≤ 16384) : ∀ x ∈ headF f, InI64 x := by
  unfold headF
  obtain ⟨h1, h2, h3, h4, _⟩ := h
  simp [h1, h2, h3, h4]
  unfold InI64; omega
theorem funB_len {f : Fun} (h : FunIn f) (hc : f.code.length ≤ 16384) : (funB f).length ≤ 294957 := by
  unfold funB
  have h1 := putS_len (headF_in h hc)
  have h2 := codeB_len h.2.2.2.2
  rw [List.length_append]
  simp only [headF, List.length_cons, List.length_nil] at h1 h2 ⊢
  omega
theorem funsB_len : ∀ {l : List Fun}, (∀ f ∈ l, FunIn f ∧ f.code.length ≤ 16384) → (l.flatMap funB).length ≤ l.length * 294957
  | [], _ => by simp
  | f :: l, h => by
    have h1 := funB_len (h f (by simp)).1 (h f (by simp)).2
    have h2 := funsB_len (l := l) fun x hx => h x (by simp [hx])
    rw [List.flatMap_cons, List.length_append, List.length_cons]
    omega
theorem MIn.fin {m : Mdl} {B : Nat} (h : MIn m B) : ∀ f ∈ m.funcs, FunIn f := fun f hf => let ⟨h1, h2, h3, h4, _, h5⟩ := h.fi f hf; ⟨h1, h2, h3, h4, h5⟩
theorem MdlOk.code {m : Mdl} {st : Int} (h : MdlOk m st) : ∀ f ∈ m.funcs, f.code.length ≤ 16384 := by
  intro f hf
  obtain ⟨n, hn, rfl⟩ := List.getElem_of_mem hf
  have := (h.2.2 n hn).1
  unfold FunBad at this
  omega
theorem MdlOk.fl {m : Mdl} {st : Int} (h : MdlOk m st) : m.funcs.length ≤ 32 := by
  have := h.1
  unfold HeadBad at this
  omega
theorem flat_take_succ {α : Type} {g : α → List UInt8} {l : List α} {i : Nat} (h : i < l.length) : (l.take (i + 1)).flatMap g = (l.take i).flatMap g ++ g l[i] := by
  rw [List.take_succ_eq_append_getElem h, List.flatMap_append]
  simp
theorem nb5 (a b c d e : Int) : vbuildSlice Try.prog 70 5 [(0, .int .i64 a), (1, .int .i64 b), (2, .int .i64 c), (3, .int .i64 d), (4, .int .i64 e)] = some (.slice .exact 1 [.int .i64 a, .int .i64 b, .int .i64 c, .int .i64 d, .int .i64 e] 5) := by kernel_rfl
theorem numbers_does {v w : V} {bs : List UInt8} {xs : List Int} (hv : BtsV v bs) (hw : IntsV w xs) (hlen : bs.length + 9 * xs.length ≤ 140737488300000) (σ : St) :
    ∃ r σ', Does Try.prog prims 28 [v, w] σ (.ret r) σ' ∧ Keep σ σ' ∧ OwnV 5 σ.toks.length σ' r (bs ++ putS xs) := by
  obtain ⟨r, σ', hd, hk, ho⟩ := put_does hv hw hlen σ
  refine ⟨r, σ', ?_, hk, ho⟩
  apply k28_is.ret (by simp)
  simp only [k28_a, WK, vop, evAll, evOpt, evParts, vbuiltin, vun, vextract, Nat.reduceLT, Nat.reduceEqDiff, ↓reduceIte, reduceCtorEq, Nat.reduceAdd, Int.reduceLT, Int.reduceNeg, valloc_std, noSB, vhot, ofVal_nil, List.getD_cons_zero, List.getD_cons_succ]
  refine KD.ret hd ?_
  simp only [k28_a, WK, vop, evAll, evOpt, evParts, vbuiltin, vun, vextract, Nat.reduceLT, Nat.reduceEqDiff, ↓reduceIte, reduceCtorEq, Nat.reduceAdd, Int.reduceLT, Int.reduceNeg, valloc_std, noSB, vhot]
theorem cencode_does {σ : St} {m : Mdl} {c : List V} {B : Nat} (hm : MdlS σ m c) (hM : MIn m B) (hB : B ≤ 1000000000) (st : Int) :
    ∃ r z σ', Does Try.prog prims 15 [.agg c, .int .i64 st] σ (.ret (.tuple [r, .int .i64 z])) σ' ∧ Keep σ σ' ∧ ((z = 0 ∧ MdlOk m st ∧ BtsV r (encM m)) ∨ (z = 40 ∧ ¬ MdlOk m st ∧ r = .nils)) := by
  have key : ∃ q σ', Does Try.prog prims 15 [.agg c, .int .i64 st] σ q σ' ∧ ∃ r z, q = .ret (.tuple [r, .int .i64 z]) ∧ Keep σ σ' ∧ ((z = 0 ∧ MdlOk m st ∧ BtsV r (encM m)) ∨ (z = 40 ∧ ¬ MdlOk m st ∧ r = .nils)) := by
    apply k15_is.does (by simp)
    have hw : ∀ v ∈ m.consts, weight v ≤ 4294967296 := fun v hv => by have := weights_mem hv; have := hM.cw; omega
    have hm0 := hm
    obtain ⟨w1, w2, hc, hv, hf⟩ := hm
    obtain ⟨s1, hs1⟩ : ∃ s1 : St, s1 = ⟨σ.objs ++ [Ob.cells c], σ.toks⟩ := ⟨_, rfl⟩
    have k1 : Keep σ s1 := by rw [hs1]; exact (Keep.refl σ).push _
    have o1 : s1.objs[σ.objs.length]? = some (.cells c) := by rw [hs1]; exact push_new _ _
    have L : ∀ s', Keep s1 s' → vload Try.prog s'.objs 25 (.optr σ.objs.length 0) = some (.agg c) ∧ vload Try.prog s'.objs 22 (.optr σ.objs.length 0) = some w1 ∧ vload Try.prog s'.objs 23 (.optr σ.objs.length 1) = some w2 := by
      intro s' hk
      have e1 := hk.1 _ _ o1
      exact ⟨vload_agg e1 MG (by rw [hm0.len]; exact MS), by rw [vload_obj e1 VsG, hc]; rfl, by rw [vload_obj e1 FsG, hc]; rfl⟩
    have lf : vlen Try.prog 23 w2 = some (.int .i64 (m.funcs.length : Nat)) := by obtain ⟨cs, hr, _⟩ := hf; exact hr.len FT
    have lv := hv.len
    obtain ⟨z, s2, d2, k2, hz⟩ := cverify_does (hm0.keep k1) st hw
    simp only [k15_a, WK, vop, evAll, evOpt, evParts, vbuiltin, vun, vextract, Nat.reduceLT, Nat.reduceEqDiff, ↓reduceIte, reduceCtorEq, Nat.reduceAdd, Int.reduceLT, Int.reduceNeg, valloc_std, noSB, vhot, List.getD_cons_zero, List.getD_cons_succ, vbox, vcells, ← hs1, ofVal_nil, (L s1 (Keep.refl _)).1]
    refine KD.ret d2 ?_
    rcases hz with ⟨rfl, hok⟩ | ⟨rfl, hno⟩
    case inr =>
      simp only [k15_a, WK, vop, evAll, evOpt, evParts, vbuiltin, vun, vextract, Nat.reduceLT, Nat.reduceEqDiff, ↓reduceIte, reduceCtorEq, Nat.reduceAdd, Int.reduceLT, Int.reduceNeg, valloc_std, noSB, vhot, ofVal_nil, (show ((40 : Int) = 0) = False from by simp)]
      exact ⟨.nils, 40, rfl, k1.trans k2, .inr ⟨rfl, hno, rfl⟩⟩
    have hcode := hok.code
    have hfin := hM.fin
    have hfl := hok.fl
    have hcl : m.consts.length ≤ 1000000000 := by have := weights_len m.consts; have := hM.cw; omega
    have hall := hv.all'
    have hcB : ∀ i, ((m.consts.take i).flatMap cB).length ≤ 27000000000 := fun i => by
      have h1 := weights_take_le m.consts i
      have h2 := hM.cw
      have := constsB_len (l := m.consts.take i) (by omega) fun x hx => hall x (List.mem_of_mem_take hx)
      omega
    have hfB : ∀ i, ((m.funcs.take i).flatMap funB).length ≤ 10000000 := fun i => by
      have := funsB_len (l := m.funcs.take i) fun f hf => ⟨hfin f (List.mem_of_mem_take hf), hcode f (List.mem_of_mem_take hf)⟩
      rw [List.length_take] at this
      omega
    have hhM : ∀ x ∈ headM m, InI64 x := by unfold headM; simp; unfold InI64; omega
    have hhl : (putS (headM m)).length ≤ 9 * 2 := putS_len hhM
    obtain ⟨b0, s3, d3, k3, O3⟩ := numbers_does (v := .nils) (bs := []) (w := .slice .exact 1 [.int .i64 (m.consts.length : Nat), .int .i64 (m.funcs.length : Nat)] 2) (xs := headM m) BtsV.nil ⟨.inr ⟨_, rfl⟩, hhM⟩ (by simp [headM]) s2
    rw [List.nil_append] at O3
    simp only [k15_a, WK, vop, evAll, evOpt, evParts, vbuiltin, vun, vextract, Nat.reduceLT, Nat.reduceEqDiff, ↓reduceIte, reduceCtorEq, Nat.reduceAdd, Int.reduceLT, Int.reduceNeg, valloc_std, noSB, vhot, ofVal_nil, (L s2 k2).2.1, (L s2 k2).2.2, MF0, MF1, lf, lv, nb2]
    refine KD.ret d3 ?_
    have k23 := k2.trans k3
    simp only [k15_a, WK, vop, evAll, evOpt, evParts, vbuiltin, vun, vextract, Nat.reduceLT, Nat.reduceEqDiff, ↓reduceIte, reduceCtorEq, Nat.reduceAdd, Int.reduceLT, Int.reduceNeg, valloc_std, noSB, vhot, (L s3 k23).2.1, MF0, lv]
    refine Ev.loopF (fun (i : Nat) e σ' => e 33 = .int .i64 (i : Nat) ∧ i ≤ m.consts.length ∧ Keep s1 σ' ∧ BtsV (e 7) (putS (headM m) ++ (m.consts.take i).flatMap cB)) (fun i => m.consts.length - i) 0 ⟨by simp [upd_some], Nat.zero_le _, k23, by simpa [upd_some] using O3.bts⟩ ?_
    rintro i e σ' ⟨h33, hi, hk, hT⟩ hfr
    have g2 : e 2 = .optr σ.objs.length 0 := (hfr 2 (by decide)).trans (by simp [upd_some])
    have g31 : e 31 = w1 := (hfr 31 (by decide)).trans (by simp [upd_some])
    have g32 : e 32 = .int .i64 (m.consts.length : Nat) := (hfr 32 (by decide)).trans (by simp [upd_some])
    clear hfr
    by_cases hlt : i < m.consts.length
    · have hlt' : (i : Int) < (m.consts.length : Nat) := by omega
      have hwi : IntKind.i64.wrap ((i : Int) + 1) = ((i + 1 : Nat) : Int) := by rw [show ((i : Int) + 1) = ((i + 1 : Nat) : Int) from by omega]; exact wrap_nat (by omega)
      obtain ⟨ccs, cv, hva, hvl', hvc⟩ := hv.get hlt
      have hmem := List.getElem_mem hlt
      have hwv := hw _ hmem
      obtain ⟨ht1, ht2, ht3⟩ := typeC_fits (hok.2.1 _ hmem)
      obtain ⟨s4, hs4⟩ : ∃ s4 : St, s4 = ⟨(σ'.objs ++ [Ob.cells val0C]).set σ'.objs.length (Ob.cells cv), σ'.toks⟩ := ⟨_, rfl⟩
      have q4 : IsV s4 σ'.objs.length cv := by rw [hs4]; exact IsV.made
      have k4 : Keep σ' s4 := by rw [hs4]; exact (Keep.refl σ').madeV _ _
      have st4 := IsV.new (σ := σ') (o := val0C) hvc.len rfl hvc.one
      rw [← hs4] at st4
      obtain ⟨s5, d5, k5⟩ := ctype_does (σ := s4) hwv hvc
      have q5 := k5.atV q4
      obtain ⟨x6, s6, d6, k6, B6⟩ := encode_does (s := typeC m.consts[i]) (by omega) s5 hwv hvc
      rw [encS, if_pos ht1] at d6 B6
      have q6 := k6.atV q5
      obtain ⟨k, n, t, l, w, hve, hce, hl, hk64, _⟩ := hvc.inv
      have hkv : kindV m.consts[i] = k := by rw [hve]; rfl
      have ldk : vload Try.prog s6.objs 3 (.optr σ'.objs.length 0) = some (.int .i64 k) := by rw [hce] at q6; exact q6.kind
      have hcb := hcB i
      have hcb1 := hcB (i + 1)
      rw [flat_take_succ hlt, List.length_append] at hcb1
      obtain ⟨b7, s7, d7, k7, O7⟩ := numbers_does (w := .slice .exact 1 [.int .i64 k] 1) (xs := [k]) hT ⟨.inr ⟨_, rfl⟩, by simpa using hk64⟩ (by simp only [List.length_append, List.length_cons, List.length_nil]; omega) s6
      have hl7 : (putS (headM m) ++ (m.consts.take i).flatMap cB ++ putS [k]).length + (putV m.consts[i]).length ≤ 140737488355328 := by
        simp only [List.length_append]
        rw [cB, List.length_append, hkv] at hcb1
        have : putS [k] = putN k.toNat := by simp [putS]
        rw [this]
        omega
      obtain ⟨b8, s8, ap8, O8, k8⟩ := O7.append BT rfl k7 T22 B6 hl7
      simp only [k15_a, WK, vop, evAll, evOpt, evParts, vbuiltin, vun, vextract, Nat.reduceLT, Nat.reduceEqDiff, ↓reduceIte, reduceCtorEq, Nat.reduceAdd, Int.reduceLT, Int.reduceNeg, valloc_std, noSB, vhot, h33, g31, g32, hlt', hva, hvl', VZ24, vbox, vcells, st4, q4.load hvc.len]
      refine KD.ret d5 ?_
      simp only [k15_a, WK, vop, evAll, evOpt, evParts, vbuiltin, vun, vextract, Nat.reduceLT, Nat.reduceEqDiff, ↓reduceIte, reduceCtorEq, Nat.reduceAdd, Int.reduceLT, Int.reduceNeg, valloc_std, noSB, vhot, q4.load hvc.len, q5.load hvc.len]
      refine KD.ret d6 ?_
      simp only [k15_a, WK, vop, evAll, evOpt, evParts, vbuiltin, vun, vextract, Nat.reduceLT, Nat.reduceEqDiff, ↓reduceIte, reduceCtorEq, Nat.reduceAdd, Int.reduceLT, Int.reduceNeg, valloc_std, noSB, vhot, q4.load hvc.len, q5.load hvc.len, q6.load hvc.len, FV0, ldk, nb1]
      refine KD.ret d7 ?_
      simp only [k15_a, WK, vop, evAll, evOpt, evParts, vbuiltin, vun, vextract, Nat.reduceLT, Nat.reduceEqDiff, ↓reduceIte, reduceCtorEq, Nat.reduceAdd, Int.reduceLT, Int.reduceNeg, valloc_std, noSB, vhot, ap8, h33, hwi]
      refine ⟨i + 1, ⟨by simp [upd_some], by omega, ((((hk.trans k4).trans k5).trans k6).trans k8), ?_⟩, by omega⟩
      have hb := O8.bts
      rw [flat_take_succ hlt, cB, hkv]
      have e : putS [k] = putN k.toNat := by simp [putS]
      rw [e] at hb
      simpa [List.append_assoc] using hb
    have hlt' : ¬ (i : Int) < (m.consts.length : Nat) := by omega
    rw [List.take_of_length_le (by omega)] at hT
    have hcb := hcB m.consts.length
    rw [List.take_of_length_le (Nat.le_refl _)] at hcb
    simp only [k15_a, WK, vop, evAll, evOpt, evParts, vbuiltin, vun, vextract, Nat.reduceLT, Nat.reduceEqDiff, ↓reduceIte, reduceCtorEq, Nat.reduceAdd, Int.reduceLT, Int.reduceNeg, valloc_std, noSB, vhot, h33, g2, g32, hlt', MF1, (L σ' hk).2.2, lf]
    refine Ev.loopF (fun (n : Nat) e σ' => e 55 = .int .i64 (n : Nat) ∧ n ≤ m.funcs.length ∧ Keep s1 σ' ∧ BtsV (e 7) (putS (headM m) ++ m.consts.flatMap cB ++ (m.funcs.take n).flatMap funB)) (fun n => m.funcs.length - n) 0 ⟨by simp [upd_some], Nat.zero_le _, hk, by simpa [upd_some] using hT⟩ ?_
    rintro n e2 sb ⟨h55, hn, hkb, hT2⟩ hfr
    have j53 : e2 53 = w2 := (hfr 53 (by decide)).trans (by simp [upd_some])
    have j54 : e2 54 = .int .i64 (m.funcs.length : Nat) := (hfr 54 (by decide)).trans (by simp [upd_some])
    clear hfr
    by_cases hnl : n < m.funcs.length
    · have hnl' : (n : Int) < (m.funcs.length : Nat) := by omega
      have hwn : IntKind.i64.wrap ((n : Int) + 1) = ((n + 1 : Nat) : Int) := by rw [show ((n : Int) + 1) = ((n + 1 : Nat) : Int) from by omega]; exact wrap_nat (by omega)
      obtain ⟨p, cf, hp, hFS, hpl⟩ := fun_load hf hnl
      obtain ⟨s2', s3', wc, hs2', st3', k3', o3, hcodeS, hl3⟩ := funmade sb hFS (k1.trans hkb)
      obtain ⟨f, hfe⟩ : ∃ f, f = m.funcs[n] := ⟨_, rfl⟩
      have hfI : FunIn f := by rw [hfe]; exact hfin _ (List.getElem_mem hnl)
      have hfc : f.code.length ≤ 16384 := by rw [hfe]; exact hcode _ (List.getElem_mem hnl)
      rw [← hfe] at hFS o3 hcodeS
      have lc : vlen Try.prog 35 wc = some (.int .i64 (f.code.length : Nat)) := RowS.len hcodeS NT
      have hk3 := hkb.trans k3'
      have L3 : ∀ s', Keep s3' s' → vload Try.prog s'.objs 3 (.optr sb.objs.length 0) = some (.int .i64 f.params) ∧ vload Try.prog s'.objs 3 (.optr sb.objs.length 1) = some (.int .i64 f.locals) ∧ vload Try.prog s'.objs 3 (.optr sb.objs.length 2) = some (.int .i64 f.zero) ∧ vload Try.prog s'.objs 3 (.optr sb.objs.length 3) = some (.int .i64 f.stack) ∧ vload Try.prog s'.objs 35 (.optr sb.objs.length 4) = some wc := by
        intro s' hk
        have e3 := hk.1 _ _ o3
        exact ⟨by rw [vload_obj e3 G3]; rfl, by rw [vload_obj e3 G3]; rfl, by rw [vload_obj e3 G3]; rfl, by rw [vload_obj e3 G3]; rfl, by rw [vload_obj e3 NsG]; rfl⟩
      obtain ⟨f0, f1, f2, f3, f4⟩ := L3 s3' (Keep.refl _)
      have hfb := hfB n
      have hin := headF_in hfI hfc
      have hhf : (putS (headF f)).length ≤ 9 * 5 := putS_len hin
      have hhfl : (headF f).length = 5 := rfl
      obtain ⟨b4, s4, d4, k4, O4⟩ := numbers_does (w := .slice .exact 1 [.int .i64 f.params, .int .i64 f.locals, .int .i64 f.zero, .int .i64 f.stack, .int .i64 (f.code.length : Nat)] 5) (xs := headF f) hT2 ⟨.inr ⟨_, rfl⟩, hin⟩ (by rw [hhfl]; simp only [List.length_append]; omega) s3'
      have f4' := (L3 s4 k4).2.2.2.2
      simp only [k15_a, WK, vop, evAll, evOpt, evParts, vbuiltin, vun, vextract, Nat.reduceLT, Nat.reduceEqDiff, ↓reduceIte, reduceCtorEq, Nat.reduceAdd, Int.reduceLT, Int.reduceNeg, valloc_std, noSB, vhot, h55, j53, j54, hnl', hp, hpl sb (k1.trans hkb), FZ, vbox, vcells, ← hs2', st3', FFp, FF1', FF2', FF3', FF4', f0, f1, f2, f3, f4, lc, nb5]
      refine KD.ret d4 ?_
      simp only [k15_a, WK, vop, evAll, evOpt, evParts, vbuiltin, vun, vextract, Nat.reduceLT, Nat.reduceEqDiff, ↓reduceIte, reduceCtorEq, Nat.reduceAdd, Int.reduceLT, Int.reduceNeg, valloc_std, noSB, vhot, FF4', f4', lc]
      refine Ev.loopF (fun (q : Nat) e σ' => e 76 = .int .i64 (q : Nat) ∧ q ≤ f.code.length ∧ Keep s3' σ' ∧ BtsV (e 7) (putS (headM m) ++ m.consts.flatMap cB ++ (m.funcs.take n).flatMap funB ++ putS (headF f) ++ (f.code.take q).flatMap insB)) (fun q => f.code.length - q) 0 ⟨by simp [upd_some], Nat.zero_le _, k4, by simpa [upd_some] using O4.bts⟩ ?_
      rintro q e3 sc ⟨h76, hq, hkc, hT3⟩ hfr
      have l55 : e3 55 = .int .i64 (n : Nat) := (hfr 55 (by decide)).trans (by simp [upd_some, h55])
      have l74 : e3 74 = wc := (hfr 74 (by decide)).trans (by simp [upd_some])
      have l75 : e3 75 = .int .i64 (f.code.length : Nat) := (hfr 75 (by decide)).trans (by simp [upd_some])
      clear hfr
      by_cases hql : q < f.code.length
      · have hql' : (q : Int) < (f.code.length : Nat) := by omega
        have hwq : IntKind.i64.wrap ((q : Int) + 1) = ((q + 1 : Nat) : Int) := by rw [show ((q : Int) + 1) = ((q + 1 : Nat) : Int) from by omega]; exact wrap_nat (by omega)
        obtain ⟨pc, hpc, hlc⟩ := code_load hcodeS hql
        obtain ⟨ins, hine⟩ : ∃ ins, ins = f.code[q] := ⟨_, rfl⟩
        obtain ⟨s6, s7, hs6, st7, k7, o7, l7'⟩ := insmade sc ins
        have ldop : vload Try.prog s7.objs 3 (.optr sc.objs.length 0) = some (.int .i64 ins.op) := by rw [vload_obj o7 G3]; rfl
        have lda : vload Try.prog s7.objs 3 (.optr sc.objs.length 1) = some (.int .i64 ins.a) := by rw [vload_obj o7 G3]; rfl
        have hlcb := hlc sc ((k1.trans hk3).trans hkc)
        rw [← hine] at hlcb
        have hii := hfI.2.2.2.2 ins (by rw [hine]; exact List.getElem_mem _)
        have hcb2 := codeB_len (l := f.code.take q) fun x hx => hfI.2.2.2.2 x (List.mem_of_mem_take hx)
        rw [List.length_take] at hcb2
        obtain ⟨b8, s8, d8, k8, O8⟩ := numbers_does (w := .slice .exact 1 [.int .i64 ins.op, .int .i64 ins.a] 2) (xs := [ins.op, ins.a]) hT3 ⟨.inr ⟨_, rfl⟩, by simp [hii.1, hii.2]⟩ (by simp only [List.length_append, List.length_cons, List.length_nil]; omega) s7
        simp only [k15_a, WK, vop, evAll, evOpt, evParts, vbuiltin, vun, vextract, Nat.reduceLT, Nat.reduceEqDiff, ↓reduceIte, reduceCtorEq, Nat.reduceAdd, Int.reduceLT, Int.reduceNeg, valloc_std, noSB, vhot, h76, l74, l75, hql', hpc, hlcb, NZ, vbox, vcells, ← hs6, st7, NF0, NF1, ldop, lda, nb2]
        refine KD.ret d8 ?_
        simp only [k15_a, WK, vop, evAll, evOpt, evParts, vbuiltin, vun, vextract, Nat.reduceLT, Nat.reduceEqDiff, ↓reduceIte, reduceCtorEq, Nat.reduceAdd, Int.reduceLT, Int.reduceNeg, valloc_std, noSB, vhot, h76, hwq]
        refine ⟨q + 1, ⟨by simp [upd_some], by omega, (hkc.trans k7).trans k8, ?_⟩, by omega⟩
        have hb := O8.bts
        rw [flat_take_succ hql, ← hine, insB]
        simpa [List.append_assoc] using hb
      have hql' : ¬ (q : Int) < (f.code.length : Nat) := by omega
      rw [List.take_of_length_le (l := f.code) (i := q) (by omega)] at hT3
      simp only [k15_a, WK, vop, evAll, evOpt, evParts, vbuiltin, vun, vextract, Nat.reduceLT, Nat.reduceEqDiff, ↓reduceIte, reduceCtorEq, Nat.reduceAdd, Int.reduceLT, Int.reduceNeg, valloc_std, noSB, vhot, h76, l55, l75, hql', hwn]
      refine ⟨n + 1, ⟨by simp [upd_some], by omega, hk3.trans hkc, ?_⟩, by omega⟩
      rw [flat_take_succ hnl, ← hfe, funB]
      simpa [List.append_assoc] using hT3
    have hnl' : ¬ (n : Int) < (m.funcs.length : Nat) := by omega
    rw [List.take_of_length_le (by omega)] at hT2
    simp only [k15_a, WK, vop, evAll, evOpt, evParts, vbuiltin, vun, vextract, Nat.reduceLT, Nat.reduceEqDiff, ↓reduceIte, reduceCtorEq, Nat.reduceAdd, Int.reduceLT, Int.reduceNeg, valloc_std, noSB, vhot, h55, j54, hnl']
    exact ⟨_, 0, rfl, k1.trans hkb, .inl ⟨rfl, hok, hT2⟩⟩
  obtain ⟨q, σ', h1, r, z, rfl, h2⟩ := key
  exact ⟨r, z, σ', h1, h2⟩
end Go.Proofs.Ytplhelapcpcncaa.Q

/- A module is the same as itself, wherever it lies. -/
set_option linter.unusedVariables false
set_option linter.unusedSimpArgs false
set_option maxRecDepth 100000
namespace Go.Proofs.Ytplhelapcpcncaa.Q
open Go Go.RowKit Go.Proofs
theorem sameall_does {l : List Val} {w1 w2 : V} (h1 : ValsW l w1) (h2 : ValsW l w2) (hw : weights l ≤ 4294967296) (σ : St) : ∃ σ', Does Try.prog prims 38 [w1, w2] σ (.ret (.bool true)) σ' ∧ Keep σ σ' := by
  have key : ∃ q σ', Does Try.prog prims 38 [w1, w2] σ q σ' ∧ q = .ret (.bool true) ∧ Keep σ σ' := by
    apply k38_is.does (by simp)
    have hll := weights_len l
    simp only [k38_a, WK, vop, evAll, evOpt, evParts, vbuiltin, vun, vextract, Nat.reduceLT, Nat.reduceEqDiff, ↓reduceIte, reduceCtorEq, Nat.reduceAdd, Int.reduceLT, Int.reduceNeg, valloc_std, noSB, vhot, List.getD_cons_zero, List.getD_cons_succ, h1.len, h2.len, eq_self, decide_true, Bool.not_true]
    refine Ev.loopF (fun (i : Nat) e σ' => e 13 = .int .i64 (i : Nat) ∧ i ≤ l.length ∧ Keep σ σ') (fun i => l.length - i) 0 ⟨by simp [upd_some], Nat.zero_le _, Keep.refl _⟩ ?_
    rintro i e σ' ⟨h13, hi, hk⟩ hfr
    have g0 : e 0 = w1 := (hfr 0 (by decide)).trans (by simp [upd_some])
    have g1 : e 1 = w2 := (hfr 1 (by decide)).trans (by simp [upd_some])
    have g12 : e 12 = .int .i64 (l.length : Nat) := (hfr 12 (by decide)).trans (by simp [upd_some])
    clear hfr
    by_cases hlt : i < l.length
    · have hlt' : (i : Int) < (l.length : Nat) := by omega
      have hwi : IntKind.i64.wrap ((i : Int) + 1) = ((i + 1 : Nat) : Int) := by rw [show ((i : Int) + 1) = ((i + 1 : Nat) : Int) from by omega]; exact wrap_nat (by omega)
      obtain ⟨c1, v1, a1, l1, p1⟩ := h1.get hlt
      obtain ⟨c2, v2, a2, l2, p2⟩ := h2.get hlt
      obtain ⟨s2, d2, k2⟩ := same_does (σ := σ') (Nat.le_trans (weights_mem (List.getElem_mem hlt)) hw) p1 p2
      rw [cmpV_refl] at d2
      simp only [decide_true] at d2
      simp only [k38_a, WK, vop, evAll, evOpt, evParts, vbuiltin, vun, vextract, Nat.reduceLT, Nat.reduceEqDiff, ↓reduceIte, reduceCtorEq, Nat.reduceAdd, Int.reduceLT, Int.reduceNeg, valloc_std, noSB, vhot, h13, g0, g1, g12, hlt', a1, a2, l1, l2]
      refine KD.ret d2 ?_
      simp only [k38_a, WK, vop, evAll, evOpt, evParts, vbuiltin, vun, vextract, Nat.reduceLT, Nat.reduceEqDiff, ↓reduceIte, reduceCtorEq, Nat.reduceAdd, Int.reduceLT, Int.reduceNeg, valloc_std, noSB, vhot, h13, g0, g1, g12, hlt', a1, a2, l1, l2, hwi]
      exact ⟨i + 1, ⟨by simp [upd_some], by omega, hk.trans k2⟩, by omega⟩
    · have hlt' : ¬ (i : Int) < (l.length : Nat) := by omega
      simp only [k38_a, WK, vop, evAll, evOpt, evParts, vbuiltin, vun, vextract, Nat.reduceLT, Nat.reduceEqDiff, ↓reduceIte, reduceCtorEq, Nat.reduceAdd, Int.reduceLT, Int.reduceNeg, valloc_std, noSB, vhot, h13, g12, hlt']
      exact hk
  obtain ⟨q, σ', h1, rfl, h3⟩ := key
  exact ⟨σ', h1, h3⟩
theorem EGN : Try.prog.eqGuardType Try.prog.depth 39 = false := by kernel_rfl
theorem ins_eq (x : Ins) : aggEq Try.prog 10000 39 (.agg (insC x)) (.agg (insC x)) = some true := by
  have h3 := fun (a b : Int) => aggEq_int (P := Try.prog) (d := 9998) (a := a) (b := b) T3
  rw [aggEq_fields FON]
  simp [allEq, vpart_one G3, insC, h3]
theorem ins_neq {xo yo : Operand} (x : Ins) : vbin Try.prog .neq 39 xo yo (.agg (insC x)) (.agg (insC x)) = some (.bool false) := vbin_aggneq EGN (ins_eq x)
theorem csame_does {σ : St} {m : Mdl} {c1 c2 : List V} {B : Nat} (hm1 : MdlS σ m c1) (hm2 : MdlS σ m c2) (hM : MIn m B) (hB : B ≤ 1000000000) :
    ∃ σ', Does Try.prog prims 19 [.agg c1, .agg c2] σ (.ret (.bool true)) σ' ∧ Keep σ σ' := by
  have key : ∃ q σ', Does Try.prog prims 19 [.agg c1, .agg c2] σ q σ' ∧ q = .ret (.bool true) ∧ Keep σ σ' := by
    apply k19_is.does (by simp)
    obtain ⟨u1, u2, hc1, hv1, hf1⟩ := hm1
    obtain ⟨w1, w2, hc2, hv2, hf2⟩ := hm2
    obtain ⟨s1, hs1⟩ : ∃ s1 : St, s1 = ⟨(σ.objs ++ [Ob.cells c1]) ++ [Ob.cells c2], σ.toks⟩ := ⟨_, rfl⟩
    have k1 : Keep σ s1 := by rw [hs1]; exact ((Keep.refl σ).push _).push _
    have o1 : s1.objs[σ.objs.length]? = some (.cells [u1, u2]) := by rw [hs1, ← hc1]; simp
    have o2 : s1.objs[σ.objs.length + 1]? = some (.cells [w1, w2]) := by rw [hs1, ← hc2]; simp
    have hlen : (σ.objs ++ [Ob.cells c1]).length = σ.objs.length + 1 := by simp
    have L : ∀ s', Keep s1 s' → vload Try.prog s'.objs 22 (.optr σ.objs.length 0) = some u1 ∧ vload Try.prog s'.objs 23 (.optr σ.objs.length 1) = some u2 ∧ vload Try.prog s'.objs 22 (.optr (σ.objs.length + 1) 0) = some w1 ∧ vload Try.prog s'.objs 23 (.optr (σ.objs.length + 1) 1) = some w2 := by
      intro s' hk
      have e1 := hk.1 _ _ o1
      have e2 := hk.1 _ _ o2
      exact ⟨by rw [vload_obj e1 VsG]; rfl, by rw [vload_obj e1 FsG]; rfl, by rw [vload_obj e2 VsG]; rfl, by rw [vload_obj e2 FsG]; rfl⟩
    have lf1 : vlen Try.prog 23 u2 = some (.int .i64 (m.funcs.length : Nat)) := by obtain ⟨cs, hr, _⟩ := hf1; exact hr.len FT
    have lf2 : vlen Try.prog 23 w2 = some (.int .i64 (m.funcs.length : Nat)) := by obtain ⟨cs, hr, _⟩ := hf2; exact hr.len FT
    have hcw := hM.cw
    have hfl := hM.fl
    obtain ⟨s2, d2, k2⟩ := sameall_does hv1 hv2 (by omega) s1
    obtain ⟨_, L1, L2, L3⟩ := L s1 (Keep.refl _)
    obtain ⟨_, M1, M2, M3⟩ := L s2 k2
    simp only [k19_a, WK, vop, evAll, evOpt, evParts, vbuiltin, vun, vextract, Nat.reduceLT, Nat.reduceEqDiff, ↓reduceIte, reduceCtorEq, Nat.reduceAdd, Int.reduceLT, Int.reduceNeg, valloc_std, noSB, vhot, vbox, vcells, hlen, ← hs1, MF0, MF1, (L s1 (Keep.refl _)).1, L2]
    refine KD.ret d2 ?_
    simp only [k19_a, WK, vop, evAll, evOpt, evParts, vbuiltin, vun, vextract, Nat.reduceLT, Nat.reduceEqDiff, ↓reduceIte, reduceCtorEq, Nat.reduceAdd, Int.reduceLT, Int.reduceNeg, valloc_std, noSB, vhot, MF0, MF1, M1, M3, lf1, lf2, eq_self, decide_true, Bool.not_true]
    refine Ev.loopF (fun (i : Nat) e σ' => e 27 = .int .i64 (i : Nat) ∧ i ≤ m.funcs.length ∧ Keep s1 σ') (fun i => m.funcs.length - i) 0 ⟨by simp [upd_some], Nat.zero_le _, k2⟩ ?_
    rintro i e sb ⟨h27, hi, hk⟩ hfr
    have g2 : e 2 = .optr σ.objs.length 0 := (hfr 2 (by decide)).trans (by simp [upd_some])
    have g3 : e 3 = .optr (σ.objs.length + 1) 0 := (hfr 3 (by decide)).trans (by simp [upd_some])
    have g26 : e 26 = .int .i64 (m.funcs.length : Nat) := (hfr 26 (by decide)).trans (by simp [upd_some])
    clear hfr
    by_cases hlt : i < m.funcs.length
    · have hlt' : (i : Int) < (m.funcs.length : Nat) := by omega
      have hwi : IntKind.i64.wrap ((i : Int) + 1) = ((i + 1 : Nat) : Int) := by rw [show ((i : Int) + 1) = ((i + 1 : Nat) : Int) from by omega]; exact wrap_nat (by omega)
      obtain ⟨p1, cf1, hp1, hF1, hl1⟩ := fun_load hf1 hlt
      obtain ⟨p2, cf2, hp2, hF2, hl2⟩ := fun_load hf2 hlt
      obtain ⟨f, hfe⟩ : ∃ f, f = m.funcs[i] := ⟨_, rfl⟩
      have hfb : f.code.length ≤ B := by rw [hfe]; exact (hM.fi _ (List.getElem_mem hlt)).2.2.2.2.1
      rw [← hfe] at hF1 hF2
      obtain ⟨x1, hx1, hC1⟩ := hF1
      obtain ⟨x2, hx2, hC2⟩ := hF2
      obtain ⟨a1, ha1⟩ : ∃ s : St, s = ⟨sb.objs ++ [Ob.cells [.int .i64 0, .int .i64 0, .int .i64 0, .int .i64 0, .nils]], sb.toks⟩ := ⟨_, rfl⟩
      obtain ⟨a2, ha2⟩ : ∃ s : St, s = ⟨a1.objs ++ [Ob.cells [.int .i64 0, .int .i64 0, .int .i64 0, .int .i64 0, .nils]], a1.toks⟩ := ⟨_, rfl⟩
      have hl1a : a1.objs.length = sb.objs.length + 1 := by rw [ha1]; simp
      have ka1 : Keep sb a1 := by rw [ha1]; exact (Keep.refl sb).push _
      have ka2 : Keep sb a2 := by rw [ha2]; exact ka1.push _
      have q1 : a2.objs[sb.objs.length]? = some (.cells [.int .i64 0, .int .i64 0, .int .i64 0, .int .i64 0, .nils]) := by rw [ha2, ha1]; simp
      have q2 : a2.objs[a1.objs.length]? = some (.cells [.int .i64 0, .int .i64 0, .int .i64 0, .int .i64 0, .nils]) := by rw [ha2]; exact push_new _ _
      obtain ⟨a3, ha3⟩ : ∃ s : St, s = ⟨a2.objs.set sb.objs.length (.cells cf1), a2.toks⟩ := ⟨_, rfl⟩
      obtain ⟨kx3, q3⟩ := KeepX.set_eq q1 ha3
      have ka3 : Keep sb a3 := ka2.overX2 kx3 (Nat.le_refl _)
      have q3b := kx3.1 _ _ (by omega) q2
      obtain ⟨a4, ha4⟩ : ∃ s : St, s = ⟨a3.objs.set a1.objs.length (.cells cf2), a3.toks⟩ := ⟨_, rfl⟩
      obtain ⟨kx4, q4⟩ := KeepX.set_eq q3b ha4
      have ka4 : Keep sb a4 := ka3.overX2 kx4 (by omega)
      have q4a := kx4.1 _ _ (by omega) q3
      have st3 : vstore Try.prog a2 37 (.optr sb.objs.length 0) (.agg cf1) = some a3 := by
        rw [vstore_agg (cs' := cf1) q1 (by rw [hx1]; exact FS) (by rw [hx1]; rfl) (by rw [hx1]; simp only [List.all_cons, List.all_nil, RowS.one hC1]; rfl), ha3]
      have st4 : vstore Try.prog a3 37 (.optr a1.objs.length 0) (.agg cf2) = some a4 := by
        rw [vstore_agg (cs' := cf2) q3b (by rw [hx2]; exact FS) (by rw [hx2]; rfl) (by rw [hx2]; simp only [List.all_cons, List.all_nil, RowS.one hC2]; rfl), ha4]
      have N : ∀ s', Keep a4 s' → (vload Try.prog s'.objs 3 (.optr sb.objs.length 0) = some (.int .i64 f.params) ∧ vload Try.prog s'.objs 3 (.optr sb.objs.length 1) = some (.int .i64 f.locals) ∧ vload Try.prog s'.objs 3 (.optr sb.objs.length 2) = some (.int .i64 f.zero) ∧ vload Try.prog s'.objs 3 (.optr sb.objs.length 3) = some (.int .i64 f.stack) ∧ vload Try.prog s'.objs 35 (.optr sb.objs.length 4) = some x1) ∧
          vload Try.prog s'.objs 3 (.optr a1.objs.length 0) = some (.int .i64 f.params) ∧ vload Try.prog s'.objs 3 (.optr a1.objs.length 1) = some (.int .i64 f.locals) ∧ vload Try.prog s'.objs 3 (.optr a1.objs.length 2) = some (.int .i64 f.zero) ∧ vload Try.prog s'.objs 3 (.optr a1.objs.length 3) = some (.int .i64 f.stack) ∧ vload Try.prog s'.objs 35 (.optr a1.objs.length 4) = some x2 := by
        intro s' hk
        have e3 := hk.1 _ _ q4a
        have e4 := hk.1 _ _ q4
        rw [hx1] at e3
        rw [hx2] at e4
        exact ⟨⟨by rw [vload_obj e3 G3]; rfl, by rw [vload_obj e3 G3]; rfl, by rw [vload_obj e3 G3]; rfl, by rw [vload_obj e3 G3]; rfl, by rw [vload_obj e3 NsG]; rfl⟩, by rw [vload_obj e4 G3]; rfl, by rw [vload_obj e4 G3]; rfl, by rw [vload_obj e4 G3]; rfl, by rw [vload_obj e4 G3]; rfl, by rw [vload_obj e4 NsG]; rfl⟩
      have lc1 : vlen Try.prog 35 x1 = some (.int .i64 (f.code.length : Nat)) := RowS.len hC1 NT
      have lc2 : vlen Try.prog 35 x2 = some (.int .i64 (f.code.length : Nat)) := RowS.len hC2 NT
      obtain ⟨⟨n0, n1, n2, n3, n4⟩, m0, m1, m2, m3, m4⟩ := N a4 (Keep.refl _)
      obtain ⟨_, b1, _, b2⟩ := L sb hk
      obtain ⟨_, b3, _, b4⟩ := L a1 (hk.trans ka1)
      obtain ⟨_, b5, _, b6⟩ := L a2 (hk.trans ka2)
      obtain ⟨_, b7, _, b8⟩ := L a3 (hk.trans ka3)
      have kk := k1.trans hk
      simp only [k19_a, WK, vop, evAll, evOpt, evParts, vbuiltin, vun, vextract, Nat.reduceLT, Nat.reduceEqDiff, ↓reduceIte, reduceCtorEq, Nat.reduceAdd, Int.reduceLT, Int.reduceNeg, valloc_std, noSB, vhot, h27, g2, g3, g26, hlt', MF1, b1, b2, b3, b4, b5, b6, b7, b8, hp1, hp2, hl1 sb kk, hl2 sb kk, hl1 a1 (kk.trans ka1), hl2 a1 (kk.trans ka1), hl1 a2 (kk.trans ka2), hl2 a2 (kk.trans ka2), hl1 a3 (kk.trans ka3), hl2 a3 (kk.trans ka3), FZ, vbox, vcells, ← ha1, ← ha2, st3, st4, FFp, FF1', FF2', FF3', FF4', n0, n1, n2, n3, n4, m0, m1, m2, m3, m4, lc1, lc2, eq_self, decide_true, Bool.not_true]
      refine Ev.loopF (fun (j : Nat) e σ' => e 78 = .int .i64 (j : Nat) ∧ j ≤ f.code.length ∧ σ' = a4) (fun j => f.code.length - j) 0 ⟨by simp [upd_some], Nat.zero_le _, rfl⟩ ?_
      rintro j e2 sc ⟨h78, hj, rfl⟩ hfr
      have j6 : e2 6 = .optr sb.objs.length 0 := (hfr 6 (by decide)).trans (by simp [upd_some])
      have j7 : e2 7 = .optr a1.objs.length 0 := (hfr 7 (by decide)).trans (by simp [upd_some])
      have j27 : e2 27 = .int .i64 (i : Nat) := (hfr 27 (by decide)).trans (by simp [upd_some, h27])
      have j77 : e2 77 = .int .i64 (f.code.length : Nat) := (hfr 77 (by decide)).trans (by simp [upd_some])
      clear hfr
      by_cases hjl : j < f.code.length
      · have hjl' : (j : Int) < (f.code.length : Nat) := by omega
        have hwj : IntKind.i64.wrap ((j : Int) + 1) = ((j + 1 : Nat) : Int) := by rw [show ((j : Int) + 1) = ((j + 1 : Nat) : Int) from by omega]; exact wrap_nat (by omega)
        obtain ⟨pc1, hpc1, hlc1⟩ := code_load hC1 hjl
        obtain ⟨pc2, hpc2, hlc2⟩ := code_load hC2 hjl
        simp only [k19_a, WK, vop, evAll, evOpt, evParts, vbuiltin, vun, vextract, Nat.reduceLT, Nat.reduceEqDiff, ↓reduceIte, reduceCtorEq, Nat.reduceAdd, Int.reduceLT, Int.reduceNeg, valloc_std, noSB, vhot, h78, j6, j7, j77, hjl', FF4', n4, m4, hpc1, hpc2, hlc1 sc (kk.trans ka4), hlc2 sc (kk.trans ka4), ins_neq, hwj]
        refine ⟨j + 1, ?_, by omega⟩
        first | exact ⟨by simp [upd_some], by omega, rfl⟩ | (simp; omega)
      · have hjl' : ¬ (j : Int) < (f.code.length : Nat) := by omega
        simp only [k19_a, WK, vop, evAll, evOpt, evParts, vbuiltin, vun, vextract, Nat.reduceLT, Nat.reduceEqDiff, ↓reduceIte, reduceCtorEq, Nat.reduceAdd, Int.reduceLT, Int.reduceNeg, valloc_std, noSB, vhot, h78, j27, j77, hjl', hwi]
        exact ⟨i + 1, ⟨by simp [upd_some], by omega, hk.trans ka4⟩, by omega⟩
    · have hlt' : ¬ (i : Int) < (m.funcs.length : Nat) := by omega
      simp only [k19_a, WK, vop, evAll, evOpt, evParts, vbuiltin, vun, vextract, Nat.reduceLT, Nat.reduceEqDiff, ↓reduceIte, reduceCtorEq, Nat.reduceAdd, Int.reduceLT, Int.reduceNeg, valloc_std, noSB, vhot, h27, g26, hlt']
      exact k1.trans hk
  obtain ⟨q, σ', h1, rfl, h3⟩ := key
  exact ⟨σ', h1, h3⟩
end Go.Proofs.Ytplhelapcpcncaa.Q

/- A module's bytes, the document's. -/
set_option linter.unusedVariables false
set_option linter.unusedSimpArgs false
set_option maxRecDepth 100000
namespace Go.Proofs.Ytplhelapcpcncaa.Q
open Go Go.RowKit Go.Proofs
end Go.Proofs.Ytplhelapcpcncaa.Q

set_option linter.unusedVariables false
set_option linter.unusedSimpArgs false
set_option maxRecDepth 100000
namespace Go.Proofs.Ytplhelapcpcncaa.Q
open Go Go.RowKit Go.Proofs
def I13a (v : V) (σ : St) (bs : List UInt8) : Nat → (Nat → V) → St → Prop := fun i e σ' => σ' = σ ∧ e 0 = v ∧ e 4 = .int .i64 i ∧ i ≤ runN bs
def I13b (v : V) (σ : St) (bs : List UInt8) : Nat → (Nat → V) → St → Prop := fun j e σ' => σ' = σ ∧ e 0 = v ∧ e 4 = .int .i64 (runN bs : Nat) ∧ e 6 = .int .i64 ((j : Int) - 1) ∧ e 5 = .int .i64 (valN ((bs.take (runN bs + 1)).drop j) : Nat) ∧ j ≤ runN bs + 1
end Go.Proofs.Ytplhelapcpcncaa.Q

set_option linter.unusedVariables false
set_option linter.unusedSimpArgs false
set_option maxRecDepth 100000
namespace Go.Proofs.Ytplhelapcpcncaa.Q
open Go Go.RowKit Go.Proofs
theorem toNat_ofNat_lt {n : Nat} (h : n < 256) : (UInt8.ofNat n).toNat = n := by rw [UInt8.toNat_ofNat']; omega
theorem putN_big {x : Nat} (h : 127 < x) : putN x = UInt8.ofNat (x % 128 + 128) :: putN (x / 128) := by rw [putN, dif_pos h]
theorem putN_small {x : Nat} (h : ¬ 127 < x) : putN x = [UInt8.ofNat x] := by rw [putN, dif_neg h]
theorem putN_pos (x : Nat) : 0 < (putN x).length := by
  by_cases h : 127 < x
  · rw [putN_big h]; simp
  · rw [putN_small h]; simp
theorem putN_zero (x : Nat) (h : 0 < x) : ((putN x).getD ((putN x).length - 1) 0).toNat ≠ 0 := by
  induction x using Nat.strongRecOn with
  | _ x ih =>
    by_cases hx : 127 < x
    · have h1 := ih (x / 128) (by omega) (by omega)
      have h2 := putN_pos (x / 128)
      rw [putN_big hx]
      obtain ⟨k, hk⟩ : ∃ k, (putN (x / 128)).length = k + 1 := ⟨(putN (x / 128)).length - 1, by omega⟩
      rw [hk] at h1
      simp only [List.length_cons, hk, Nat.add_sub_cancel, List.getD_cons_succ] at h1 ⊢
      exact h1
    · rw [putN_small hx]
      simp only [List.length_singleton, Nat.sub_self, List.getD_cons_zero]
      rw [toNat_ofNat_lt (by omega)]
      omega
theorem valN_putN (x : Nat) : valN (putN x) = x := by
  induction x using Nat.strongRecOn with
  | _ x ih =>
    by_cases hx : 127 < x
    · rw [putN_big hx]
      simp only [valN]
      rw [ih (x / 128) (by omega), toNat_ofNat_lt (by omega)]
      omega
    · rw [putN_small hx]
      simp only [valN]
      rw [toNat_ofNat_lt (by omega)]
      omega
theorem runN_putN (x : Nat) (l : List UInt8) : runN (putN x ++ l) + 1 = (putN x).length := by
  induction x using Nat.strongRecOn with
  | _ x ih =>
    by_cases hx : 127 < x
    · rw [putN_big hx]
      simp only [List.cons_append, runN, List.length_cons]
      rw [toNat_ofNat_lt (by omega), if_pos (by omega), ih (x / 128) (by omega)]
    · rw [putN_small hx]
      simp only [List.cons_append, runN, List.length_cons, List.nil_append]
      rw [toNat_ofNat_lt (by omega), if_neg (by omega)]
      simp
theorem takeS_putN {x : Nat} (hx : x < 2 ^ 63) (l : List UInt8) : takeS (putN x ++ l) = (x, (putN x).length) := by
  have h1 := runN_putN x l
  have h2 := putN_len x 8 (by omega)
  have h3 : (putN x ++ l).take (runN (putN x ++ l) + 1) = putN x := by rw [h1]; simp
  unfold takeS
  rw [if_neg, h3, valN_putN, h1]
  simp only [not_or, Nat.not_le, not_and]
  refine ⟨by rw [List.length_append]; omega, by omega, fun h0 hz => ?_⟩
  have hx0 : 0 < x := by
    rcases Nat.eq_zero_or_pos x with e | e
    · subst e
      have h9 : (putN 0).length = 1 := by rw [putN_small (x := 0) (by omega)]; rfl
      omega
    · exact e
  have hlt : runN (putN x ++ l) < (putN x).length := by omega
  have hg : (putN x ++ l).getD (runN (putN x ++ l)) 0 = (putN x).getD ((putN x).length - 1) 0 := by
    rw [List.getD_eq_getElem?_getD, List.getElem?_append_left hlt, List.getD_eq_getElem?_getD, show (putN x).length - 1 = runN (putN x ++ l) from by omega]
  exact putN_zero x hx0 (by rw [← hg]; exact hz)
/-- What is taken are the very bytes that Put makes. -/
theorem putN_valN : ∀ (l : List UInt8), runN l < l.length → (0 < runN l → (l.getD (runN l) 0).toNat ≠ 0) → putN (valN (l.take (runN l + 1))) = l.take (runN l + 1)
  | [], h, _ => by simp at h
  | b :: l, h, hz => by
    by_cases hb : 127 < b.toNat
    · simp only [runN, hb, if_true] at h hz ⊢
      simp only [List.length_cons] at h
      have hlast : (l.getD (runN l) 0).toNat ≠ 0 := by simpa using hz (by omega)
      have ih := putN_valN l (by omega) (fun _ => hlast)
      have hlt := runN_at (bs := l) (by omega)
      simp only [List.take_succ_cons, valN]
      have hpos : 0 < valN (l.take (runN l + 1)) := by
        rw [valN_take_succ (by omega)]
        have hp : 0 < 128 ^ runN l := Nat.pow_pos (by omega)
        have hg : l.getD (runN l) 0 = l[runN l]'(by omega) := by
          rw [List.getD_eq_getElem?_getD, List.getElem?_eq_getElem (by omega)]
          rfl
        rw [hg] at hlast
        have : 0 < (l[runN l]'(by omega)).toNat % 128 := by omega
        have := Nat.mul_pos hp this
        omega
      have hbl := b.toNat_lt
      rw [putN_big (by omega)]
      have e1 : (b.toNat % 128 + 128 * valN (l.take (runN l + 1))) / 128 = valN (l.take (runN l + 1)) := by omega
      have e2 : UInt8.ofNat ((b.toNat % 128 + 128 * valN (l.take (runN l + 1))) % 128 + 128) = b := by
        apply UInt8.toNat_inj.1
        rw [toNat_ofNat_lt (by omega)]
        omega
      rw [e1, e2, ih]
    · simp only [runN, hb, if_false] at h hz ⊢
      simp only [Nat.zero_add, List.take_succ_cons, List.take_zero, valN]
      have hbl := b.toNat_lt
      rw [putN_small (by omega)]
      congr 1
      apply UInt8.toNat_inj.1
      rw [toNat_ofNat_lt (by omega)]
      omega
theorem takeS_back {l : List UInt8} (h : (takeS l).2 ≠ 0) : putN (takeS l).1 = l.take (takeS l).2 := by
  unfold takeS at h ⊢
  split at h
  · simp at h
  · rename_i hc
    rw [if_neg hc]
    simp only [not_or, Nat.not_le, not_and] at hc
    exact putN_valN l hc.1 hc.2.2
end Go.Proofs.Ytplhelapcpcncaa.Q

set_option linter.unusedVariables false
set_option linter.unusedSimpArgs false
set_option maxRecDepth 100000
namespace Go.Proofs.Ytplhelapcpcncaa.Q
open Go Go.RowKit Go.Proofs
/-- Object r is a reader that has these bytes left. -/
def Rdr (σ : St) (r : Nat) (bs : List UInt8) (bad : Bool) : Prop := ∃ v, σ.objs[r]? = some (.cells [v, .bool bad]) ∧ BtsV v bs
theorem Rdr.keep {σ σ' : St} {r q : Nat} {bs : List UInt8} {bad : Bool} (h : Rdr σ r bs bad) (hk : KeepX q σ σ') (hne : r ≠ q) : Rdr σ' r bs bad := by
  obtain ⟨v, h1, h2⟩ := h
  exact ⟨v, hk.1 r _ hne h1, h2⟩
theorem Rdr.keep' {σ σ' : St} {r : Nat} {bs : List UInt8} {bad : Bool} (h : Rdr σ r bs bad) (hk : Keep σ σ') : Rdr σ' r bs bad := by
  obtain ⟨v, h1, h2⟩ := h
  exact ⟨v, hk.1 r _ h1, h2⟩
theorem PT : Try.prog.underlying 57 = some (.pointer 81) := by kernel_rfl
theorem FA0 (r : Nat) : vfieldAddr Try.prog 81 (.optr r 0) 0 = some (.optr r 0) := by kernel_rfl
theorem FA1 (r : Nat) : vfieldAddr Try.prog 81 (.optr r 0) 1 = some (.optr r 1) := by kernel_rfl
theorem BU (v : V) (h : one v = true) : vbuild Try.prog 81 [(0, v)] = some (.agg [v, .bool false]) := by
  cases v <;> first | (cases h; done) | kernel_rfl
/-- New. -/
theorem new_does {v : V} {bs : List UInt8} (hv : BtsV v bs) (hlen : bs.length ≤ 140737488300000) (σ : St) : ∃ r σ', Does Try.prog prims 31 [v] σ (.ret (.optr r 0)) σ' ∧ Keep σ σ' ∧ r = σ.objs.length ∧ Rdr σ' r bs false := by
  have key : ∃ r σ', Does Try.prog prims 31 [v] σ r σ' ∧ r = .ret (.optr σ.objs.length 0) ∧ Keep σ σ' ∧ Rdr σ' σ.objs.length bs false := by
    apply k31_is.does (by simp)
    have ho1 : OwnV 5 σ.toks.length σ (.slice .exact 1 [] 0) [] := .inr ⟨_, rfl, .inl rfl⟩
    obtain ⟨v', σ', ha, ho, hk, hob⟩ := ho1.append' BT rfl (Keep.refl σ) T22 hv (by simp; omega)
    rw [List.nil_append] at ho
    simp only [k31_a, WK, vop, evAll, evOpt, evParts, vbuiltin, vun, vextract, Nat.reduceLT, Nat.reduceEqDiff, ↓reduceIte, reduceCtorEq, Nat.reduceAdd, Int.reduceLT, Int.reduceNeg, valloc_std, noSB, vhot, List.getD_cons_zero, build0 BT, ha, BU v' ho.bts.one, vbox, vcells, hob]
    refine ⟨⟨fun r o h => ?_, hk.2⟩, v', ?_, ho.bts⟩
    · simp only
      rw [List.getElem?_append_left (List.getElem?_eq_some_iff.1 h).1]
      exact h
    · simp
  obtain ⟨r, σ', h1, rfl, h2, h3⟩ := key
  exact ⟨_, σ', h1, h2, rfl, h3⟩
/-- What a number's reading leaves. -/
def numS (bs : List UInt8) (bad : Bool) : Nat × List UInt8 × Bool :=
  if bad then (0, bs, true) else ((takeS bs).1, bs.drop (takeS bs).2, (takeS bs).2 == 0)
theorem number_does {σ : St} {r : Nat} {bs : List UInt8} {bad : Bool} (h : Rdr σ r bs bad) (hml : bs.length ≤ maxLen) :
    ∃ σ', Does Try.prog prims 32 [.optr r 0] σ (.ret (.int .i64 ((numS bs bad).1 : Nat))) σ' ∧ KeepX r σ σ' ∧ Rdr σ' r (numS bs bad).2.1 (numS bs bad).2.2 := by
  obtain ⟨v, hv, hb⟩ := h
  have key : ∃ q σ', Does Try.prog prims 32 [.optr r 0] σ q σ' ∧ q = .ret (.int .i64 ((numS bs bad).1 : Nat)) ∧ KeepX r σ σ' ∧ Rdr σ' r (numS bs bad).2.1 (numS bs bad).2.2 := by
    apply k32_is.does (by simp)
    cases bad with
    | true =>
      simp only [k32_a, WK, vop, evAll, evOpt, evParts, vbuiltin, vun, vextract, Nat.reduceLT, Nat.reduceEqDiff, ↓reduceIte, reduceCtorEq, Nat.reduceAdd, Int.reduceLT, Int.reduceNeg, valloc_std, noSB, vhot, List.getD_cons_zero, eql_optr PT, FA1, vload_obj hv G4, numS]
      exact ⟨rfl, KeepX.refl _ _, v, hv, hb⟩
    | false =>
      obtain ⟨ht1, ht2, ht3⟩ := takeS_lt bs
      have hst : ∀ x, one x = true → vstore Try.prog σ 4 (.optr r 1) x = some ⟨σ.objs.set r (.cells [v, x]), σ.toks⟩ := fun x hx => by
        rw [vstore_obj hv S4 hx (by simp)]; rfl
      have hd : decide (((takeS bs).2 : Int) = 0) = ((takeS bs).2 == 0) := by
        rw [Bool.eq_iff_iff]; simp
      have hv2 : (σ.objs.set r (.cells [v, .bool ((takeS bs).2 == 0)]))[r]? = some (.cells [v, .bool ((takeS bs).2 == 0)]) := obj_set hv
      obtain ⟨sl, hsl, htl⟩ := hb.slice T22 S5 (lo := some (.int .i64 ((takeS bs).2 : Nat))) (hi := none) (vbounds_lo (by omega) (by omega)) (by omega) (by omega)
      have hst2 : vstore Try.prog ⟨σ.objs.set r (.cells [v, .bool ((takeS bs).2 == 0)]), σ.toks⟩ 41 (.optr r 0) sl = some ⟨(σ.objs.set r (.cells [v, .bool ((takeS bs).2 == 0)])).set r (.cells [sl, .bool ((takeS bs).2 == 0)]), σ.toks⟩ := by
        rw [vstore_obj hv2 S22 htl.one (by simp)]; rfl
      simp only [k32_a, WK, vop, evAll, evOpt, evParts, vbuiltin, vun, vextract, Nat.reduceLT, Nat.reduceEqDiff, ↓reduceIte, reduceCtorEq, Nat.reduceAdd, Int.reduceLT, Int.reduceNeg, valloc_std, noSB, vhot, List.getD_cons_zero, eql_optr PT, FA1, FA0, vload_obj hv G4, vload_obj hv G22, numS]
      refine KD.ret (take_does hb hml _) ?_
      simp only [k32_a, WK, vop, evAll, evOpt, evParts, vbuiltin, vun, vextract, Nat.reduceLT, Nat.reduceEqDiff, ↓reduceIte, reduceCtorEq, Nat.reduceAdd, Int.reduceLT, Int.reduceNeg, valloc_std, noSB, vhot, List.getD_cons_zero, FA1, FA0, vload_obj hv2 G22, hd, hst (.bool ((takeS bs).2 == 0)) rfl, T22, hsl, hst2]
      refine ⟨(KeepX.set r _ σ).trans (KeepX.set r _ _), sl, obj_set hv2, ?_⟩
      rw [List.take_of_length_le (by rw [List.length_drop]; omega)] at htl
      rw [Int.toNat_natCast] at htl
      exact htl
  obtain ⟨q, σ', h1, rfl, h2, h3⟩ := key
  exact ⟨σ', h1, h2, h3⟩
end Go.Proofs.Ytplhelapcpcncaa.Q

set_option linter.unusedVariables false
set_option linter.unusedSimpArgs false
set_option maxRecDepth 100000
namespace Go.Proofs.Ytplhelapcpcncaa.Q
open Go Go.RowKit Go.Proofs
/-- Whether n bytes can be read. -/
def canS (bs : List UInt8) (bad : Bool) (n : Int) : Bool := !bad && decide (0 ≤ n) && decide (n ≤ bs.length)
/-- What a reading of n bytes leaves. -/
def bytS (bs : List UInt8) (bad : Bool) (n : Int) : List UInt8 × List UInt8 × Bool := if canS bs bad n = true then (bs.take n.toNat, bs.drop n.toNat, false) else ([], bs, true)
theorem bytes_does {σ : St} {r : Nat} {bs : List UInt8} {bad : Bool} (h : Rdr σ r bs bad) (hlen : bs.length ≤ 140737488300000) (n : Int) :
    ∃ v σ', Does Try.prog prims 54 [.optr r 0, .int .i64 n] σ (.ret v) σ' ∧ KeepX r σ σ' ∧ Rdr σ' r (bytS bs bad n).2.1 (bytS bs bad n).2.2 ∧ BtsV v (bytS bs bad n).1 := by
  obtain ⟨v, hv, hb⟩ := h
  have key : ∃ q σ', Does Try.prog prims 54 [.optr r 0, .int .i64 n] σ q σ' ∧ ∃ w, q = .ret w ∧ KeepX r σ σ' ∧ Rdr σ' r (bytS bs bad n).2.1 (bytS bs bad n).2.2 ∧ BtsV w (bytS bs bad n).1 := by
    apply k54_is.does (by simp)
    cases bad with
    | true =>
      have hc : bytS bs true n = ([], bs, true) := by simp [bytS, canS]
      simp only [k54_a, WK, vop, evAll, evOpt, evParts, vbuiltin, vun, vextract, Nat.reduceLT, Nat.reduceEqDiff, ↓reduceIte, reduceCtorEq, Nat.reduceAdd, Int.reduceLT, Int.reduceNeg, valloc_std, noSB, vhot, List.getD_cons_zero, List.getD_cons_succ, eql_optr PT, FA1, vload_obj hv G4, hc]
      exact ⟨_, rfl, KeepX.refl _ _, ⟨v, hv, hb⟩, BtsV.nil⟩
    | false =>
      have hst : vstore Try.prog σ 4 (.optr r 1) (.bool true) = some ⟨σ.objs.set r (.cells [v, .bool true]), σ.toks⟩ := by
        rw [vstore_obj hv S4 rfl (by simp)]; rfl
      by_cases hn : n < 0
      · have hc : bytS bs false n = ([], bs, true) := by
          have : ¬ 0 ≤ n := by omega
          simp [bytS, canS, this]
        simp only [k54_a, WK, vop, evAll, evOpt, evParts, vbuiltin, vun, vextract, Nat.reduceLT, Nat.reduceEqDiff, ↓reduceIte, reduceCtorEq, Nat.reduceAdd, Int.reduceLT, Int.reduceNeg, valloc_std, noSB, vhot, List.getD_cons_zero, List.getD_cons_succ, eql_optr PT, FA1, FA0, vload_obj hv G4, vload_obj hv G22, hb.len T22, hc, hn, hst]
        exact ⟨_, rfl, KeepX.set r _ σ, ⟨v, obj_set hv, hb⟩, BtsV.nil⟩
      · by_cases hg : (bs.length : Int) < n
        · have hc : bytS bs false n = ([], bs, true) := by
            have : ¬ n ≤ bs.length := by omega
            simp [bytS, canS, this]
          simp only [k54_a, WK, vop, evAll, evOpt, evParts, vbuiltin, vun, vextract, Nat.reduceLT, Nat.reduceEqDiff, ↓reduceIte, reduceCtorEq, Nat.reduceAdd, Int.reduceLT, Int.reduceNeg, valloc_std, noSB, vhot, List.getD_cons_zero, List.getD_cons_succ, eql_optr PT, FA1, FA0, vload_obj hv G4, vload_obj hv G22, hb.len T22, hc, hn, hg, hst]
          exact ⟨_, rfl, KeepX.set r _ σ, ⟨v, obj_set hv, hb⟩, BtsV.nil⟩
        · have hc : bytS bs false n = (bs.take n.toNat, bs.drop n.toNat, false) := by
            have h1 : 0 ≤ n := by omega
            have h2 : n ≤ bs.length := by omega
            simp [bytS, canS, h1, h2]
          obtain ⟨s1, hs1, ht1⟩ := hb.slice T22 S5 (lo := none) (hi := some (.int .i64 n)) (vbounds_hi (by omega) (by omega)) (by omega) (by omega)
          obtain ⟨s2, hs2, ht2⟩ := hb.slice T22 S5 (lo := some (.int .i64 n)) (hi := none) (vbounds_lo (by omega) (by omega)) (by omega) (by omega)
          rw [List.drop_zero, Nat.sub_zero] at ht1
          rw [List.take_of_length_le (by rw [List.length_drop]; omega)] at ht2
          have ho1 : OwnV 5 σ.toks.length σ (.slice .exact 1 [] 0) [] := .inr ⟨_, rfl, .inl rfl⟩
          obtain ⟨v', σ', ha, ho, hk, hob⟩ := ho1.append' BT rfl (Keep.refl σ) T22 ht1 (by rw [List.length_take]; simp; omega)
          rw [List.nil_append] at ho
          have hv' : σ'.objs[r]? = some (.cells [v, .bool false]) := by rw [hob]; exact hv
          have hst2 : vstore Try.prog σ' 41 (.optr r 0) s2 = some ⟨σ'.objs.set r (.cells [s2, .bool false]), σ'.toks⟩ := by
            rw [vstore_obj hv' S22 ht2.one (by simp)]; rfl
          simp only [k54_a, WK, vop, evAll, evOpt, evParts, vbuiltin, vun, vextract, Nat.reduceLT, Nat.reduceEqDiff, ↓reduceIte, reduceCtorEq, Nat.reduceAdd, Int.reduceLT, Int.reduceNeg, valloc_std, noSB, vhot, List.getD_cons_zero, List.getD_cons_succ, eql_optr PT, FA1, FA0, vload_obj hv G4, vload_obj hv G22, vload_obj hv' G22, hb.len T22, hc, hn, hg, T22, hs1, hs2, build0 BT, ha, hst2]
          exact ⟨_, rfl, (hk.x r).trans (KeepX.set r _ σ'), ⟨s2, obj_set hv', ht2⟩, ho.bts⟩
  obtain ⟨q, σ', h1, w, rfl, h2⟩ := key
  exact ⟨w, σ', h1, h2⟩
theorem bad_does {σ : St} {r : Nat} {bs : List UInt8} {bad : Bool} (h : Rdr σ r bs bad) : Does Try.prog prims 33 [.optr r 0] σ (.ret (.bool bad)) σ := by
  obtain ⟨v, hv, hb⟩ := h
  apply k33_is.ret (by simp)
  simp only [k33_a, WK, vop, evAll, evOpt, evParts, vbuiltin, vun, vextract, Nat.reduceLT, Nat.reduceEqDiff, ↓reduceIte, reduceCtorEq, Nat.reduceAdd, Int.reduceLT, Int.reduceNeg, valloc_std, noSB, vhot, List.getD_cons_zero, neq_optr PT, FA1, FA0, vload_obj hv G4]
theorem end_does {σ : St} {r : Nat} {bs : List UInt8} {bad : Bool} (h : Rdr σ r bs bad) : Does Try.prog prims 35 [.optr r 0] σ (.ret (.bool (!bad && decide ((bs.length : Int) = 0)))) σ := by
  obtain ⟨v, hv, hb⟩ := h
  apply k35_is.ret (by simp)
  cases bad with
  | true => simp only [k35_a, WK, vop, evAll, evOpt, evParts, vbuiltin, vun, vextract, Nat.reduceLT, Nat.reduceEqDiff, ↓reduceIte, reduceCtorEq, Nat.reduceAdd, Int.reduceLT, Int.reduceNeg, valloc_std, noSB, vhot, List.getD_cons_zero, neq_optr PT, FA1, FA0, vload_obj hv G4]; rfl
  | false => simp only [k35_a, WK, vop, evAll, evOpt, evParts, vbuiltin, vun, vextract, Nat.reduceLT, Nat.reduceEqDiff, ↓reduceIte, reduceCtorEq, Nat.reduceAdd, Int.reduceLT, Int.reduceNeg, valloc_std, noSB, vhot, List.getD_cons_zero, neq_optr PT, FA1, FA0, vload_obj hv G4, vload_obj hv G22, hb.len T22]; rfl
end Go.Proofs.Ytplhelapcpcncaa.Q

set_option linter.unusedVariables false
set_option linter.unusedSimpArgs false
set_option maxRecDepth 100000
namespace Go.Proofs.Ytplhelapcpcncaa.Q
open Go Go.RowKit Go.Proofs
/-! ### No reader -/
end Go.Proofs.Ytplhelapcpcncaa.Q

set_option linter.unusedVariables false
set_option linter.unusedSimpArgs false
namespace Go.Proofs.Ytplhelapcpcncaa.Q
open Go Go.RowKit Go.Proofs
/-! ### Numbers and bytes that are read -/
theorem numS_len (bs : List UInt8) (bad : Bool) : (numS bs bad).2.1.length ≤ bs.length := by
  unfold numS; split <;> simp
theorem bytS_len (bs : List UInt8) (bad : Bool) (n : Int) : (bytS bs bad n).2.1.length ≤ bs.length := by
  unfold bytS; split <;> simp
theorem bytS_len2 (bs : List UInt8) (bad : Bool) (n : Int) : (bytS bs bad n).1.length + (bytS bs bad n).2.1.length ≤ bs.length := by
  unfold bytS; split
  · simp; omega
  · simp
theorem numS_ok {bs : List UInt8} {bad : Bool} (h : (numS bs bad).2.2 = false) : bad = false ∧ bs = putN (numS bs bad).1 ++ (numS bs bad).2.1 ∧ (numS bs bad).1 < 2 ^ 63 := by
  unfold numS at h ⊢
  cases bad with
  | true => simp at h
  | false =>
    simp at h ⊢
    refine ⟨?_, (takeS_lt bs).1⟩
    rw [takeS_back h, List.take_append_drop]
theorem numS_in (bs : List UInt8) (bad : Bool) : (numS bs bad).1 < 2 ^ 63 := by
  unfold numS
  cases bad with
  | true => simp
  | false => exact (takeS_lt bs).1
theorem numS_put {x : Nat} (hx : x < 2 ^ 63) (l : List UInt8) : numS (putN x ++ l) false = (x, l, false) := by
  unfold numS
  have h := putN_pos x
  simp [takeS_putN hx]
  exact fun h0 => by rw [h0] at h; simp at h
/-! ### A value that is read -/
abbrev RS := List UInt8 × Bool
def rdN (g : RS → List Val × RS) : Nat → RS → List Val × RS
  | 0, s => ([], s)
  | n + 1, s => if (rdN g n s).2.2 = true then rdN g n s else ((rdN g n s).1 ++ (g (rdN g n s).2).1, (g (rdN g n s).2).2)
def one1 (f : RS → Val × RS) (s : RS) : List Val × RS := ([(f s).1], (f s).2)
def two2 (f g : RS → Val × RS) (s : RS) : List Val × RS := ([(f s).1, (g (f s).2).1], (g (f s).2).2)
def rdRow (st : Bool) (k : Int) (g : RS → List Val × RS) (s : RS) : Val × RS :=
  let a := numS s.1 s.2
  let p := rdN g (min a.1 65) (a.2.1, a.2.2 || (st && decide (64 < a.1)))
  (.mk k 0 [] p.1, p.2)
def rdInt (st : Bool) (s : RS) : Val × RS :=
  let a := numS s.1 s.2
  let b := numS a.2.1 a.2.2
  (.mk 1 (if a.1 = 1 then -(b.1 : Int) - 1 else (b.1 : Int)) [] [], (b.2.1, b.2.2 || (st && decide (1 < a.1))))
def rdBool (st : Bool) (s : RS) : Val × RS :=
  let a := numS s.1 s.2
  (.mk 2 (a.1 : Int) [] [], (a.2.1, a.2.2 || (st && decide (1 < a.1))))
def rdText (st : Bool) (s : RS) : Val × RS :=
  let a := numS s.1 s.2
  let c := bytS a.2.1 (a.2.2 || (st && decide (256 < a.1))) (a.1 : Int)
  (.mk 3 0 c.1 [], c.2)
/-- st: as the document tells it, strict. -/
def rdS (st : Bool) : Ty → RS → Val × RS
  | .int => rdInt st
  | .bool => rdBool st
  | .text => rdText st
  | .list e => rdRow st 4 (one1 (rdS st e))
  | .mapI e => rdRow st 5 (two2 (rdInt st) (rdS st e))
  | .mapT e => rdRow st 5 (two2 (rdText st) (rdS st e))
/-! ### How much is read -/
def wB : Ty → Nat
  | .int => 1 | .bool => 1 | .text => 1
  | .list e => 1 + 65 * wB e
  | .mapI e => 1 + 65 * (1 + wB e)
  | .mapT e => 1 + 65 * (1 + wB e)
def WOkG (g : RS → List Val × RS) (B : Nat) : Prop := ∀ s, weights (g s).1 + (g s).2.1.length ≤ s.1.length + B
/-! ### What was put is read -/
theorem putS_one (x : Int) : putS [x] = putN x.toNat := by simp [putS]
theorem putS_two (x y : Int) : putS [x, y] = putN x.toNat ++ putN y.toNat := by simp [putS]
/-- It reads what was put of these. -/
def BackG (f : RS → Val × RS) (P : Val → Bool) : Prop := ∀ v rest, P v = true → (∃ c, ValC v c) → f (putV v ++ rest, false) = (v, (rest, false))
theorem ValsW.all {l : List Val} {w : V} (h : ValsW l w) : ∀ x ∈ l, ∃ c, ValC x c := by
  intro x hx
  obtain ⟨i, hi, rfl⟩ := List.mem_iff_getElem.1 hx
  obtain ⟨_, c, _, _, hc⟩ := h.get hi
  exact ⟨c, hc⟩
/-! ### What is read strictly is what was put -/
def CanG (f : RS → Val × RS) : Prop := ∀ s, (f s).2.2 = false → s.2 = false ∧ putV (f s).1 ++ (f s).2.1 = s.1
end Go.Proofs.Ytplhelapcpcncaa.Q

/- A module that is read; a constant. -/
set_option linter.unusedVariables false
set_option linter.unusedSimpArgs false
set_option maxRecDepth 100000
namespace Go.Proofs.Ytplhelapcpcncaa.Q
open Go Go.RowKit Go.Proofs
/-! ### What is read -/
def rdA {α : Type} (g : RS → α × RS) : Nat → RS → List α × RS
  | 0, s => ([], s)
  | n + 1, s => if (rdA g n s).2.2 = true then rdA g n s else ((rdA g n s).1 ++ [(g (rdA g n s).2).1], (g (rdA g n s).2).2)
def rdConst (s : RS) : Val × RS :=
  let k := numS s.1 s.2
  let a := numS k.2.1 k.2.2
  if k.1 = 1 then
    let b := numS a.2.1 a.2.2
    (.mk 1 (if a.1 = 1 then -(b.1 : Int) - 1 else (b.1 : Int)) [] [], b.2)
  else if k.1 = 3 then
    let t := bytS a.2.1 a.2.2 (a.1 : Int)
    (.mk 3 0 t.1 [], t.2)
  else (.mk k.1 a.1 [] [], a.2)
def rdIns (s : RS) : Ins × RS :=
  let a := numS s.1 s.2
  let b := numS a.2.1 a.2.2
  (⟨a.1, b.1⟩, b.2)
def rdFun (s : RS) : Fun × RS :=
  let a := numS s.1 s.2
  let b := numS a.2.1 a.2.2
  let c := numS b.2.1 b.2.2
  let d := numS c.2.1 c.2.2
  let n := numS d.2.1 d.2.2
  let p := rdA rdIns n.1 n.2
  (⟨a.1, b.1, c.1, d.1, p.1⟩, p.2)
def rdMdl (bs : List UInt8) : Mdl × RS :=
  let c := numS bs false
  let f := numS c.2.1 c.2.2
  let p := rdA rdConst c.1 f.2
  let q := rdA rdFun f.1 p.2
  (⟨p.1, q.1⟩, q.2)
open Classical in
noncomputable def decM (bs : List UInt8) (st : Int) : Mdl × Int :=
  if (rdMdl bs).2.2 = false ∧ (rdMdl bs).2.1 = [] then
    if MdlOk (rdMdl bs).1 st then if encM (rdMdl bs).1 = bs then ((rdMdl bs).1, 0) else (⟨[], []⟩, 11) else (⟨[], []⟩, 40)
  else (⟨[], []⟩, 11)
theorem rdA_step {α : Type} {g : RS → α × RS} {s : RS} {i : Nat} (h : (rdA g i s).2.2 = false) : rdA g (i + 1) s = ((rdA g i s).1 ++ [(g (rdA g i s).2).1], (g (rdA g i s).2).2) := by
  rw [rdA, if_neg (by rw [h]; decide)]
theorem rdA_stay {α : Type} {g : RS → α × RS} {s : RS} {i : Nat} (h : (rdA g i s).2.2 = true) : ∀ n, i ≤ n → rdA g n s = rdA g i s
  | 0, hn => by rw [Nat.le_zero.1 hn]
  | n + 1, hn => by
    rcases Nat.lt_or_ge i (n + 1) with h1 | h1
    · rw [rdA, rdA_stay h n (by omega), if_pos h]
    · rw [show i = n + 1 by omega]
/-- Each reading takes something, or it is the last one. -/
def Eats {α : Type} (g : RS → α × RS) : Prop := ∀ s : RS, s.2 = false → ((g s).2.2 = false → (g s).2.1.length < s.1.length) ∧ (g s).2.1.length ≤ s.1.length
theorem numS_eats (bs : List UInt8) : ((numS bs false).2.2 = false → (numS bs false).2.1.length < bs.length) ∧ (numS bs false).2.1.length ≤ bs.length := by
  refine ⟨fun h => ?_, numS_len _ _⟩
  obtain ⟨_, h2, _⟩ := numS_ok h
  have := putN_pos (numS bs false).1
  have h3 := congrArg List.length h2
  rw [List.length_append] at h3
  omega
theorem rdA_eats {α : Type} {g : RS → α × RS} (H : Eats g) (s : RS) : ∀ n, (rdA g n s).2.1.length ≤ s.1.length ∧ (s.2 = false → (rdA g n s).1.length + (rdA g n s).2.1.length ≤ s.1.length + 1 ∧ ((rdA g n s).2.2 = false → (rdA g n s).1.length + (rdA g n s).2.1.length ≤ s.1.length))
  | 0 => by simp [rdA]
  | n + 1 => by
    obtain ⟨h1, h2⟩ := rdA_eats H s n
    rw [rdA]
    by_cases hb : (rdA g n s).2.2 = true
    · rw [if_pos hb]
      exact ⟨h1, fun hs => ⟨(h2 hs).1, fun h => by rw [hb] at h; cases h⟩⟩
    · rw [if_neg hb]
      have hb' : (rdA g n s).2.2 = false := by simpa using hb
      obtain ⟨h3, h4⟩ := H (rdA g n s).2 hb'
      refine ⟨Nat.le_trans h4 h1, fun hs => ?_⟩
      obtain ⟨h5, h6⟩ := h2 hs
      have h7 := h6 hb'
      simp only [List.length_append, List.length_cons, List.length_nil]
      refine ⟨by omega, fun h => ?_⟩
      have := h3 h
      omega
theorem rdA_bad {α : Type} {g : RS → α × RS} {s : RS} (h : s.2 = true) (n : Nat) : rdA g n s = ([], s) := by
  have := rdA_stay (g := g) (s := s) (i := 0) (by exact h) n (Nat.zero_le _)
  rw [this]; rfl
theorem numS_stay {bs : List UInt8} {bad : Bool} (h : (numS bs bad).2.2 = false) : bad = false := (numS_ok h).1
theorem rdIns_eats : Eats rdIns := by
  intro s hs
  unfold rdIns
  simp only
  have h1 := numS_eats s.1
  rw [hs]
  have h2 := numS_len (numS s.1 false).2.1 (numS s.1 false).2.2
  refine ⟨fun h => ?_, by omega⟩
  have h3 := numS_stay h
  have := h1.1 h3
  omega
theorem rdConst_eats : Eats rdConst := by
  intro s hs
  unfold rdConst
  simp only
  have h1 := numS_eats s.1
  rw [hs]
  have h2 := numS_len (numS s.1 false).2.1 (numS s.1 false).2.2
  generalize numS s.1 false = k at *
  have h3 := numS_len (numS k.2.1 k.2.2).2.1 (numS k.2.1 k.2.2).2.2
  have h4 := bytS_len (numS k.2.1 k.2.2).2.1 (numS k.2.1 k.2.2).2.2 ((numS k.2.1 k.2.2).1 : Int)
  have e1 : (numS k.2.1 k.2.2).2.2 = false → k.2.2 = false := numS_stay
  split
  · refine ⟨fun h => ?_, by simp only; omega⟩
    have := h1.1 (e1 (numS_stay h))
    simp only at h ⊢
    omega
  · split
    · refine ⟨fun h => ?_, by simp only; omega⟩
      simp only at h ⊢
      have e2 : (numS k.2.1 k.2.2).2.2 = false := by
        cases e : (numS k.2.1 k.2.2).2.2 with
        | false => rfl
        | true => rw [e] at h; simp [bytS, canS] at h
      have := h1.1 (e1 e2)
      omega
    · refine ⟨fun h => ?_, by simp only; omega⟩
      have := h1.1 (e1 h)
      simp only at h ⊢
      omega
theorem rdFun_eats : Eats rdFun := by
  intro s hs
  unfold rdFun
  simp only
  have h1 := numS_eats s.1
  rw [hs]
  generalize numS s.1 false = a at *
  have l2 := numS_len a.2.1 a.2.2
  have s2 : (numS a.2.1 a.2.2).2.2 = false → a.2.2 = false := numS_stay
  generalize numS a.2.1 a.2.2 = b at *
  have l3 := numS_len b.2.1 b.2.2
  have s3 : (numS b.2.1 b.2.2).2.2 = false → b.2.2 = false := numS_stay
  generalize numS b.2.1 b.2.2 = c at *
  have l4 := numS_len c.2.1 c.2.2
  have s4 : (numS c.2.1 c.2.2).2.2 = false → c.2.2 = false := numS_stay
  generalize numS c.2.1 c.2.2 = d at *
  have l5 := numS_len d.2.1 d.2.2
  have s5 : (numS d.2.1 d.2.2).2.2 = false → d.2.2 = false := numS_stay
  generalize numS d.2.1 d.2.2 = n at *
  have l6 := (rdA_eats rdIns_eats n.2 n.1).1
  refine ⟨fun h => ?_, by omega⟩
  have s6 : n.2.2 = false := by
    cases e : n.2.2 with
    | false => rfl
    | true => rw [rdA_bad e] at h; rw [e] at h; cases h
  have := h1.1 (s2 (s3 (s4 (s5 s6))))
  omega
theorem num_in (bs : List UInt8) (bad : Bool) : InI64 ((numS bs bad).1 : Int) := by have := numS_in bs bad; unfold InI64; omega
/-! ### Cells of one's own -/
theorem cell_set {σ : St} {o j : Nat} {c : List V} (h : IsV σ o c) (hj : j < c.length) {t : TypeId} (ht : sizeT Try.prog t = some 1) {v : V} (hv : one v = true) : ∃ σ', vstore Try.prog σ t (.optr o j) v = some σ' ∧ IsV σ' o (c.set j v) ∧ KeepX o σ σ' ∧ σ'.objs.length = σ.objs.length := by
  obtain ⟨σ', hs⟩ : ∃ σ' : St, σ' = ⟨σ.objs.set o (.cells (c.set j v)), σ.toks⟩ := ⟨_, rfl⟩
  obtain ⟨k, hk⟩ := KeepX.set_eq h hs
  exact ⟨σ', by rw [vstore_obj h ht hv hj, hs], hk, k, by rw [hs]; simp⟩
theorem cell_all {σ : St} {o : Nat} {c c' : List V} (h : IsV σ o c) {t : TypeId} (ht : sizeT Try.prog t = some c'.length) (hl : c'.length = c.length) (h1 : c'.all one = true) : ∃ σ', vstore Try.prog σ t (.optr o 0) (.agg c') = some σ' ∧ IsV σ' o c' ∧ KeepX o σ σ' ∧ σ'.objs.length = σ.objs.length := by
  obtain ⟨σ', hs⟩ : ∃ σ' : St, σ' = ⟨σ.objs.set o (.cells c'), σ.toks⟩ := ⟨_, rfl⟩
  obtain ⟨k, hk⟩ := KeepX.set_eq h hs
  exact ⟨σ', by rw [vstore_agg (cs' := c') h ht hl h1, hs], hk, k, by rw [hs]; simp⟩
theorem cell_new (σ : St) (z : List V) : ∃ σ', σ' = (⟨σ.objs ++ [Ob.cells z], σ.toks⟩ : St) ∧ IsV σ' σ.objs.length z ∧ Keep σ σ' ∧ σ'.objs.length = σ.objs.length + 1 := by
  refine ⟨_, rfl, push_new _ _, (Keep.refl σ).push _, by simp⟩
theorem IsV.x {σ σ' : St} {o q : Nat} {c : List V} (h : IsV σ o c) (hk : KeepX q σ σ') (hne : o ≠ q) : IsV σ' o c := hk.1 _ _ hne h
theorem KeepX.over' {σ σ1 σ2 : St} {r q : Nat} (h : KeepX r σ σ1) (h2 : KeepX q σ1 σ2) (hq : q = r ∨ σ.objs.length ≤ q) : KeepX r σ σ2 := by
  refine ⟨fun p o hp ho => h2.1 p o ?_ (h.1 p o hp ho), Nat.le_trans h.2.1 h2.2.1, fun k hk => h2.2.2 k (h.2.2 k hk)⟩
  have := (List.getElem?_eq_some_iff.1 ho).1
  rcases hq with hq | hq <;> omega
theorem KeepX.len' {r : Nat} {σ σ' : St} (hk : KeepX r σ σ') (hr : r < σ'.objs.length) : σ.objs.length ≤ σ'.objs.length := by
  apply Nat.le_of_not_lt
  intro hlt
  have h1 := hk.1 σ'.objs.length _ (by omega) (List.getElem?_eq_getElem hlt)
  have := (List.getElem?_eq_some_iff.1 h1).1
  omega
theorem Rdr.lt {σ : St} {r : Nat} {bs : List UInt8} {bad : Bool} (h : Rdr σ r bs bad) : r < σ.objs.length := by
  obtain ⟨v, hv, _⟩ := h
  exact (List.getElem?_eq_some_iff.1 hv).1
theorem IsV.lt {σ : St} {o : Nat} {c : List V} (h : IsV σ o c) : o < σ.objs.length := (List.getElem?_eq_some_iff.1 h).1
theorem CU27 : isU8 Try.prog 5 = true := by kernel_rfl
theorem CBk (k : Int) : vbuild Try.prog 29 [(0, .int .i64 k)] = some (.agg [.int .i64 k, .int .i64 0, .str [], .nils]) := by kernel_rfl
theorem constant_does {σ : St} {r : Nat} {s : RS} (h : Rdr σ r s.1 s.2) (hl : s.1.length ≤ 140737488300000) :
    ∃ c σ', Does Try.prog prims 34 [.optr r 0] σ (.ret (.agg c)) σ' ∧ KeepX r σ σ' ∧ Rdr σ' r (rdConst s).2.1 (rdConst s).2.2 ∧ ValC (rdConst s).1 c := by
  have key : ∃ q σ', Does Try.prog prims 34 [.optr r 0] σ q σ' ∧ ∃ c, q = .ret (.agg c) ∧ KeepX r σ σ' ∧ Rdr σ' r (rdConst s).2.1 (rdConst s).2.2 ∧ ValC (rdConst s).1 c := by
    apply k34_is.does (by simp)
    have hml : maxLen = 9223372036854775807 := by simp [maxLen, IntKind.max, IntKind.bits]
    have hrl := h.lt
    obtain ⟨s0, hs0, i0, k0, l0⟩ := cell_new σ val0C
    obtain ⟨s1, d1, k1, r1⟩ := number_does (h.keep' k0) (by omega)
    have hn1 := numS_len s.1 s.2
    have in1 := num_in s.1 s.2
    obtain ⟨k, hk⟩ : ∃ k, k = numS s.1 s.2 := ⟨_, rfl⟩
    rw [← hk] at d1 r1 hn1 in1
    have i1 := i0.x k1 (by omega)
    have hl1 := k1.len' r1.lt
    obtain ⟨s2, hs2, i2, k2, l2⟩ := cell_new s1 val0C
    obtain ⟨s3, st3, i3, kx3, l3⟩ := cell_all i2 (t := 29) (c' := [.int .i64 (k.1 : Nat), .int .i64 0, .str [], .nils]) VS24 rfl rfl
    have ld3 : vload Try.prog s3.objs 3 (.optr s1.objs.length 0) = some (.int .i64 (k.1 : Nat)) := i3.kind
    have r3 := (r1.keep' k2).keep kx3 (by have := r1.lt; omega)
    have i13 := (k2.atV i1).x kx3 (by omega)
    have kk3 : KeepX r σ s3 := (((k0.x r).trans k1).over' (k2.x r) (.inl rfl)).over' kx3 (.inr (by omega))
    simp only [k34_a, WK, vop, evAll, evOpt, evParts, vbuiltin, vun, vextract, Nat.reduceLT, Nat.reduceEqDiff, ↓reduceIte, reduceCtorEq, Nat.reduceAdd, Int.reduceLT, Int.reduceNeg, valloc_std, noSB, vhot, List.getD_cons_zero, VZ24, vbox, vcells, ← hs0]
    refine KD.ret d1 ?_
    simp only [k34_a, WK, vop, evAll, evOpt, evParts, vbuiltin, vun, vextract, Nat.reduceLT, Nat.reduceEqDiff, ↓reduceIte, reduceCtorEq, Nat.reduceAdd, Int.reduceLT, Int.reduceNeg, valloc_std, noSB, vhot, CBk, VZ24, vbox, vcells, ← hs2, st3, FV0, ld3]
    by_cases hk1 : k.1 = 1
    · have e1 : ((k.1 : Nat) : Int) = 1 := by omega
      obtain ⟨s4, d4, k4, r4⟩ := number_does r3 (by omega)
      obtain ⟨a, ha⟩ : ∃ a, a = numS k.2.1 k.2.2 := ⟨_, rfl⟩
      have hn2 := numS_len k.2.1 k.2.2
      have in2 := num_in k.2.1 k.2.2
      rw [← ha] at d4 r4 hn2 in2
      obtain ⟨s5, d5, k5, r5⟩ := number_does r4 (by omega)
      obtain ⟨b, hb⟩ : ∃ b, b = numS a.2.1 a.2.2 := ⟨_, rfl⟩
      have in3 := num_in a.2.1 a.2.2
      rw [← hb] at d5 r5 in3
      have i5 := (i3.x k4 (by have := r1.lt; omega)).x k5 (by have := r1.lt; omega)
      have i15 := (i13.x k4 (by omega)).x k5 (by omega)
      obtain ⟨s6, st6, i6, k6, l6⟩ := cell_set i5 (j := 1) (by simp) (t := 3) S3 (v := .int .i64 (b.1 : Nat)) rfl
      have r6 := r5.keep k6 (by have := r1.lt; omega)
      have i16 := i15.x k6 (by omega)
      have kk6 : KeepX r σ s6 := ((kk3.trans k4).trans k5).over' k6 (.inr (by omega))
      have hrd : rdConst s = (.mk 1 (if a.1 = 1 then -(b.1 : Int) - 1 else (b.1 : Int)) [] [], b.2) := by
        unfold rdConst
        simp only [← hk, ← ha, ← hb, hk1, if_true]
      rw [hrd]
      by_cases hneg : a.1 = 1
      · have e2 : ((a.1 : Nat) : Int) = 1 := by omega
        have w1 : IntKind.i64.wrap (0 - ((b.1 : Nat) : Int)) = -((b.1 : Nat) : Int) := by unfold InI64 at in3; rw [wrap_i64 (by omega) (by omega)]; omega
        have w2 : IntKind.i64.wrap (-((b.1 : Nat) : Int) - 1) = -((b.1 : Nat) : Int) - 1 := by unfold InI64 at in3; exact wrap_i64 (by omega) (by omega)
        obtain ⟨s7, st7, i7, k7, l7⟩ := cell_set i6 (j := 1) (by simp) (t := 3) S3 (v := .int .i64 (-((b.1 : Nat) : Int) - 1)) rfl
        have r7 := r6.keep k7 (by have := r1.lt; omega)
        have i17 := i16.x k7 (by omega)
        have ld7 := i7.load (by simp)
        obtain ⟨s8, st8, i8, k8, l8⟩ := cell_all i17 (t := 29) (c' := [.int .i64 (k.1 : Nat), .int .i64 (-((b.1 : Nat) : Int) - 1), .str [], .nils]) VS24 rfl rfl
        have r8 := r7.keep k8 (by omega)
        simp only [e1] at ld7 st8 i8
        simp only [List.set_cons_succ, List.set_cons_zero] at ld7
        simp only [k34_a, WK, vop, evAll, evOpt, evParts, vbuiltin, vun, vextract, Nat.reduceLT, Nat.reduceEqDiff, ↓reduceIte, reduceCtorEq, Nat.reduceAdd, Int.reduceLT, Int.reduceNeg, valloc_std, noSB, vhot, e1]
        refine KD.ret d4 ?_
        simp only [k34_a, WK, vop, evAll, evOpt, evParts, vbuiltin, vun, vextract, Nat.reduceLT, Nat.reduceEqDiff, ↓reduceIte, reduceCtorEq, Nat.reduceAdd, Int.reduceLT, Int.reduceNeg, valloc_std, noSB, vhot]
        refine KD.ret d5 ?_
        simp only [k34_a, WK, vop, evAll, evOpt, evParts, vbuiltin, vun, vextract, Nat.reduceLT, Nat.reduceEqDiff, ↓reduceIte, reduceCtorEq, Nat.reduceAdd, Int.reduceLT, Int.reduceNeg, valloc_std, noSB, vhot, FV1, st6, e2, w1, w2, st7, ld7, st8, i8.load (show [V.int .i64 1, V.int .i64 (-((b.1 : Nat) : Int) - 1), V.str [], V.nils].length = 4 from rfl)]
        refine ⟨_, rfl, (kk6.over' k7 (.inr (by omega))).over' k8 (.inr (by omega)), r8, ?_⟩
        rw [if_pos hneg]
        exact .mk (by unfold InI64; omega) (by unfold InI64 at in3 ⊢; omega) .nil
      · have e2 : (((a.1 : Nat) : Int) = 1) = False := eq_false (by omega)
        have ld6 := i6.load (by simp)
        obtain ⟨s8, st8, i8, k8, l8⟩ := cell_all i16 (t := 29) (c' := [.int .i64 (k.1 : Nat), .int .i64 ((b.1 : Nat) : Int), .str [], .nils]) VS24 rfl rfl
        have r8 := r6.keep k8 (by omega)
        simp only [e1] at ld6 st8 i8
        simp only [List.set_cons_succ, List.set_cons_zero] at ld6
        simp only [k34_a, WK, vop, evAll, evOpt, evParts, vbuiltin, vun, vextract, Nat.reduceLT, Nat.reduceEqDiff, ↓reduceIte, reduceCtorEq, Nat.reduceAdd, Int.reduceLT, Int.reduceNeg, valloc_std, noSB, vhot, e1]
        refine KD.ret d4 ?_
        simp only [k34_a, WK, vop, evAll, evOpt, evParts, vbuiltin, vun, vextract, Nat.reduceLT, Nat.reduceEqDiff, ↓reduceIte, reduceCtorEq, Nat.reduceAdd, Int.reduceLT, Int.reduceNeg, valloc_std, noSB, vhot]
        refine KD.ret d5 ?_
        simp only [k34_a, WK, vop, evAll, evOpt, evParts, vbuiltin, vun, vextract, Nat.reduceLT, Nat.reduceEqDiff, ↓reduceIte, reduceCtorEq, Nat.reduceAdd, Int.reduceLT, Int.reduceNeg, valloc_std, noSB, vhot, FV1, st6, e2, ld6, st8, i8.load (show [V.int .i64 1, V.int .i64 ((b.1 : Nat) : Int), V.str [], V.nils].length = 4 from rfl)]
        refine ⟨_, rfl, kk6.over' k8 (.inr (by omega)), r8, ?_⟩
        rw [if_neg hneg]
        exact .mk (by unfold InI64; omega) in3 .nil
    have e1 : (((k.1 : Nat) : Int) = 1) = False := eq_false (by omega)
    by_cases hk3 : k.1 = 3
    · have e3 : ((k.1 : Nat) : Int) = 3 := by omega
      obtain ⟨s4, d4, k4, r4⟩ := number_does r3 (by omega)
      obtain ⟨a, ha⟩ : ∃ a, a = numS k.2.1 k.2.2 := ⟨_, rfl⟩
      have hn2 := numS_len k.2.1 k.2.2
      rw [← ha] at d4 r4 hn2
      obtain ⟨tv, s5, d5, k5, r5, b5⟩ := bytes_does r4 (by omega) ((a.1 : Nat) : Int)
      obtain ⟨t, ht⟩ : ∃ t, t = bytS a.2.1 a.2.2 ((a.1 : Nat) : Int) := ⟨_, rfl⟩
      rw [← ht] at r5 b5
      have i5 := (i3.x k4 (by have := r1.lt; omega)).x k5 (by have := r1.lt; omega)
      have i15 := (i13.x k4 (by omega)).x k5 (by omega)
      obtain ⟨s6, st6, i6, k6, l6⟩ := cell_set i5 (j := 2) (by simp) (t := 9) S9 (v := .str t.1) rfl
      have r6 := r5.keep k6 (by have := r1.lt; omega)
      have i16 := i15.x k6 (by omega)
      have kk6 : KeepX r σ s6 := ((kk3.trans k4).trans k5).over' k6 (.inr (by omega))
      have hrd : rdConst s = (.mk 3 0 t.1 [], t.2) := by
        unfold rdConst
        simp only [← hk, ← ha, ← ht, hk1, hk3, if_false, if_true]
        rw [if_neg (by omega)]
      rw [hrd]
      have ld6 := i6.load (by simp)
      obtain ⟨s8, st8, i8, k8, l8⟩ := cell_all i16 (t := 29) (c' := [.int .i64 (k.1 : Nat), .int .i64 0, .str t.1, .nils]) VS24 rfl rfl
      have r8 := r6.keep k8 (by omega)
      simp only [e3] at ld6 st8 i8
      simp only [List.set_cons_succ, List.set_cons_zero] at ld6
      simp only [k34_a, WK, vop, evAll, evOpt, evParts, vbuiltin, vun, vextract, Nat.reduceLT, Nat.reduceEqDiff, ↓reduceIte, reduceCtorEq, Nat.reduceAdd, Int.reduceLT, Int.reduceNeg, valloc_std, noSB, vhot, e3, (show ((3 : Int) = 1) = False from by simp)]
      refine KD.ret d4 ?_
      simp only [k34_a, WK, vop, evAll, evOpt, evParts, vbuiltin, vun, vextract, Nat.reduceLT, Nat.reduceEqDiff, ↓reduceIte, reduceCtorEq, Nat.reduceAdd, Int.reduceLT, Int.reduceNeg, valloc_std, noSB, vhot]
      refine KD.ret d5 ?_
      simp only [k34_a, WK, vop, evAll, evOpt, evParts, vbuiltin, vun, vextract, Nat.reduceLT, Nat.reduceEqDiff, ↓reduceIte, reduceCtorEq, Nat.reduceAdd, Int.reduceLT, Int.reduceNeg, valloc_std, noSB, vhot, FV2, b5.str T22 CU27 T9, st6, ld6, st8, i8.load (show [V.int .i64 3, V.int .i64 0, V.str t.1, V.nils].length = 4 from rfl)]
      exact ⟨_, rfl, kk6.over' k8 (.inr (by omega)), r8, .mk (by unfold InI64; omega) (by unfold InI64; omega) .nil⟩
    have e3 : (((k.1 : Nat) : Int) = 3) = False := eq_false (by omega)
    obtain ⟨s4, d4, k4, r4⟩ := number_does r3 (by omega)
    obtain ⟨a, ha⟩ : ∃ a, a = numS k.2.1 k.2.2 := ⟨_, rfl⟩
    have in2 := num_in k.2.1 k.2.2
    rw [← ha] at d4 r4 in2
    have i4 := i3.x k4 (by have := r1.lt; omega)
    have i14 := i13.x k4 (by omega)
    obtain ⟨s6, st6, i6, k6, l6⟩ := cell_set i4 (j := 1) (by simp) (t := 3) S3 (v := .int .i64 (a.1 : Nat)) rfl
    have r6 := r4.keep k6 (by have := r1.lt; omega)
    have i16 := i14.x k6 (by omega)
    have kk6 : KeepX r σ s6 := (kk3.trans k4).over' k6 (.inr (by omega))
    have hrd : rdConst s = (.mk k.1 a.1 [] [], a.2) := by
      unfold rdConst
      simp only [← hk, ← ha, hk1, hk3, if_false]
    rw [hrd]
    have ld6 := i6.load (by simp)
    obtain ⟨s8, st8, i8, k8, l8⟩ := cell_all i16 (t := 29) (c' := [.int .i64 (k.1 : Nat), .int .i64 (a.1 : Nat), .str [], .nils]) VS24 rfl rfl
    have r8 := r6.keep k8 (by omega)
    simp only [List.set_cons_succ, List.set_cons_zero] at ld6
    simp only [k34_a, WK, vop, evAll, evOpt, evParts, vbuiltin, vun, vextract, Nat.reduceLT, Nat.reduceEqDiff, ↓reduceIte, reduceCtorEq, Nat.reduceAdd, Int.reduceLT, Int.reduceNeg, valloc_std, noSB, vhot, e1, e3]
    refine KD.ret d4 ?_
    simp only [k34_a, WK, vop, evAll, evOpt, evParts, vbuiltin, vun, vextract, Nat.reduceLT, Nat.reduceEqDiff, ↓reduceIte, reduceCtorEq, Nat.reduceAdd, Int.reduceLT, Int.reduceNeg, valloc_std, noSB, vhot, FV1, st6, ld6, st8, i8.load (show [V.int .i64 (k.1 : Nat), V.int .i64 (a.1 : Nat), V.str [], V.nils].length = 4 from rfl)]
    exact ⟨_, rfl, kk6.over' k8 (.inr (by omega)), r8, .mk in1 in2 .nil⟩
  obtain ⟨q, σ', h1, c, rfl, h2⟩ := key
  exact ⟨c, σ', h1, h2⟩
end Go.Proofs.Ytplhelapcpcncaa.Q

/- Decode, the program's. -/
set_option linter.unusedVariables false
set_option linter.unusedSimpArgs false
set_option maxRecDepth 100000
namespace Go.Proofs.Ytplhelapcpcncaa.Q
open Go Go.RowKit Go.Proofs
theorem CVRT : RowT Try.prog 22 29 4 56 := ⟨VT22, VS24, ⟨_, VZ24, rfl⟩, by kernel_rfl, by omega⟩
theorem NRT : RowT Try.prog 35 39 2 16 := ⟨NT, NS, ⟨_, NZ, rfl⟩, by kernel_rfl, by omega⟩
theorem FRT : RowT Try.prog 23 37 5 56 := ⟨FT, FS, ⟨_, FZ, rfl⟩, by kernel_rfl, by omega⟩
theorem MZ' : zeroT Try.prog 25 = some (.agg [.nils, .nils]) := by kernel_rfl
theorem MB0 : vbuild Try.prog 25 [] = some (.agg [.nils, .nils]) := by kernel_rfl
theorem VsS : sizeT Try.prog 22 = some 1 := by kernel_rfl
theorem FsS : sizeT Try.prog 23 = some 1 := by kernel_rfl
theorem NsS : sizeT Try.prog 35 = some 1 := by kernel_rfl
theorem build1N (a b : Int) : vbuildSlice Try.prog 35 1 [(0, .agg [.int .i64 a, .int .i64 b])] = some (.slice .exact 2 [.int .i64 a, .int .i64 b] 1) := by kernel_rfl
theorem build1F (a b c d w : V) : vbuildSlice Try.prog 23 1 [(0, .agg [a, b, c, d, w])] = some (.slice .exact 5 [a, b, c, d, w] 1) := by kernel_rfl
theorem buildN2 (a b : Int) : vbuild Try.prog 39 [(0, .int .i64 a), (1, .int .i64 b)] = some (.agg [.int .i64 a, .int .i64 b]) := by kernel_rfl
theorem buildF4 (a b c d : Int) : vbuild Try.prog 37 [(0, .int .i64 a), (1, .int .i64 b), (2, .int .i64 c), (3, .int .i64 d)] = some (.agg [.int .i64 a, .int .i64 b, .int .i64 c, .int .i64 d, .nils]) := by kernel_rfl
theorem cbuild1V {c : List V} (hc : c.length = 4) : vbuildSlice Try.prog 22 1 [(0, .agg c)] = some (.slice .exact 4 c 1) := by
  obtain ⟨a, b, d, e, rfl⟩ : ∃ a b d e, c = [a, b, d, e] := by
    match c, hc with
    | [a, b, d, e], _ => exact ⟨a, b, d, e, rfl⟩
  kernel_rfl
theorem ValsC.snoc' : ∀ {l : List Val} {cs : List V} {v : Val} {c : List V}, ValsC l cs → ValC v c → ValsC (l ++ [v]) (cs ++ c)
  | [], _, v, c, .nil, h => by have := ValsC.cons h .nil; simpa using this
  | a :: l, _, v, c, .cons (c := c1) (cs := cs1) h1 h2, h => by
    rw [List.append_assoc]
    exact .cons h1 (ValsC.snoc' h2 h)
theorem OwnR.vals' {m : Nat} {σ : St} {w : V} {cs : List V} {l : List Val} (h : OwnR 29 4 m σ w cs l.length) (hc : ValsC l cs) : ValsW l w := by
  rcases h.2 with ⟨rfl, h0⟩ | ⟨p, rfl, _⟩
  · have : l = [] := List.length_eq_zero_iff.1 h0
    subst this
    exact .nil
  · exact .row hc
theorem OwnR.one' {e k m n : Nat} {σ : St} {v : V} {cs : List V} (h : OwnR e k m σ v cs n) : one v = true := h.row.one
def FunsC (l : List Fun) (cs : List V) : Prop := cs.length = l.length * 5 ∧ ∀ (i : Nat) (h : i < l.length) (τ : St), FunS τ l[i] ((cs.drop (i * 5)).take 5)
theorem FunsC.snoc {l : List Fun} {cs : List V} {f : Fun} {c : List V} (h : FunsC l cs) (hf : ∀ τ, FunS τ f c) (hc : c.length = 5) : FunsC (l ++ [f]) (cs ++ c) := by
  obtain ⟨h1, h2⟩ := h
  refine ⟨by simp [h1, hc]; omega, fun i hi τ => ?_⟩
  simp only [List.length_append, List.length_cons, List.length_nil] at hi
  rcases Nat.lt_or_ge i l.length with hlt | hge
  · rw [List.getElem_append_left hlt, List.drop_append_of_le_length (by omega), List.take_append_of_le_length (by rw [List.length_drop]; omega)]
    exact h2 i hlt τ
  · have : i = l.length := by omega
    subst this
    rw [List.getElem_append_right (Nat.le_refl _), ← h1, List.drop_left, ← hc, List.take_length]
    simpa using hf τ
theorem FunsC.row {l : List Fun} {cs : List V} {w : V} {e m : Nat} {σ : St} (h : FunsC l cs) (ho : OwnR e 5 m σ w cs l.length) (τ : St) : FunsS τ w l := ⟨cs, .inl ho.row, fun i hi => h.2 i hi τ⟩
/-! ### What is read is small -/
theorem rdA_mem {α : Type} {g : RS → α × RS} (H : Eats g) (s : RS) : ∀ n, ∀ x ∈ (rdA g n s).1, ∃ s' : RS, s'.2 = false ∧ s'.1.length ≤ s.1.length ∧ x = (g s').1
  | 0, x, hx => by simp [rdA] at hx
  | n + 1, x, hx => by
    rw [rdA] at hx
    by_cases hb : (rdA g n s).2.2 = true
    · rw [if_pos hb] at hx; exact rdA_mem H s n x hx
    · rw [if_neg hb, List.mem_append, List.mem_singleton] at hx
      rcases hx with hx | rfl
      · exact rdA_mem H s n x hx
      · exact ⟨_, by simpa using hb, (rdA_eats H s n).1, rfl⟩
theorem rdConst_weight (s : RS) : weight (rdConst s).1 + (rdConst s).2.1.length ≤ s.1.length + 1 := by
  unfold rdConst
  simp only
  have h1 := numS_len s.1 s.2
  generalize numS s.1 s.2 = k at *
  have h2 := numS_len k.2.1 k.2.2
  generalize numS k.2.1 k.2.2 = a at *
  have h3 := numS_len a.2.1 a.2.2
  have h4 := bytS_len2 a.2.1 a.2.2 (a.1 : Int)
  split
  · simp only [weight, weights, List.length_nil]; omega
  · split
    · simp only [weight, weights]; omega
    · simp only [weight, weights, List.length_nil]; omega
theorem rdA_weight (s : RS) : ∀ n, weights (rdA rdConst n s).1 + (rdA rdConst n s).2.1.length ≤ s.1.length + (rdA rdConst n s).1.length
  | 0 => by simp [rdA, weights]
  | n + 1 => by
    have ih := rdA_weight s n
    rw [rdA]
    split
    · exact ih
    · have := rdConst_weight (rdA rdConst n s).2
      rw [weights_append, List.length_append]
      simp only [weights, List.length_cons, List.length_nil]
      omega
theorem rdA_count {α : Type} {g : RS → α × RS} (H : Eats g) (s : RS) (n : Nat) : (rdA g n s).1.length ≤ s.1.length + 1 := by
  cases hs : s.2 with
  | true => rw [rdA_bad hs]; simp
  | false => have := ((rdA_eats H s n).2 hs).1; omega
theorem rdIns_in (s : RS) : InI64 (rdIns s).1.op ∧ InI64 (rdIns s).1.a := ⟨num_in _ _, num_in _ _⟩
theorem rdFun_in (s : RS) : InI64 (rdFun s).1.params ∧ InI64 (rdFun s).1.locals ∧ InI64 (rdFun s).1.zero ∧ InI64 (rdFun s).1.stack ∧ (rdFun s).1.code.length ≤ s.1.length + 1 ∧ ∀ i ∈ (rdFun s).1.code, InI64 i.op ∧ InI64 i.a := by
  unfold rdFun
  simp only
  have h1 := numS_len s.1 s.2
  generalize ha : numS s.1 s.2 = a at *
  have h2 := numS_len a.2.1 a.2.2
  generalize hb : numS a.2.1 a.2.2 = b at *
  have h3 := numS_len b.2.1 b.2.2
  generalize hc : numS b.2.1 b.2.2 = c at *
  have h4 := numS_len c.2.1 c.2.2
  generalize hd : numS c.2.1 c.2.2 = d at *
  have h5 := numS_len d.2.1 d.2.2
  generalize hn : numS d.2.1 d.2.2 = n at *
  refine ⟨by rw [← ha]; exact num_in _ _, by rw [← hb]; exact num_in _ _, by rw [← hc]; exact num_in _ _, by rw [← hd]; exact num_in _ _, ?_, fun i hi => ?_⟩
  · have := rdA_count rdIns_eats n.2 n.1
    omega
  · obtain ⟨s', _, _, rfl⟩ := rdA_mem rdIns_eats n.2 n.1 i hi
    exact rdIns_in s'
theorem rdMdl_in (bs : List UInt8) : MIn (rdMdl bs).1 (2 * bs.length + 2) := by
  unfold rdMdl
  simp only
  have h1 := numS_len bs false
  generalize numS bs false = c at *
  have h2 := numS_len c.2.1 c.2.2
  generalize numS c.2.1 c.2.2 = f at *
  have h3 := rdA_weight f.2 c.1
  have h4 := rdA_count rdConst_eats f.2 c.1
  have h5 := (rdA_eats rdConst_eats f.2 c.1).1
  generalize rdA rdConst c.1 f.2 = p at *
  have h6 := rdA_count rdFun_eats p.2 f.1
  refine ⟨by simp only; omega, by simp only; omega, fun x hx => ?_⟩
  obtain ⟨s', _, h7, rfl⟩ := rdA_mem rdFun_eats p.2 f.1 x hx
  obtain ⟨g1, g2, g3, g4, g5, g6⟩ := rdFun_in s'
  exact ⟨g1, g2, g3, g4, by omega, g6⟩
theorem decM_bad {bs : List UInt8} (st : Int) (h : ¬ ((rdMdl bs).2.2 = false ∧ (rdMdl bs).2.1 = [])) : decM bs st = (⟨[], []⟩, 11) := by unfold decM; rw [if_neg h]
theorem decM_no {bs : List UInt8} {st : Int} (h : (rdMdl bs).2.2 = false ∧ (rdMdl bs).2.1 = []) (h2 : ¬ MdlOk (rdMdl bs).1 st) : decM bs st = (⟨[], []⟩, 40) := by unfold decM; rw [if_pos h, if_neg h2]
theorem decM_other {bs : List UInt8} {st : Int} (h : (rdMdl bs).2.2 = false ∧ (rdMdl bs).2.1 = []) (h2 : MdlOk (rdMdl bs).1 st) (h3 : ¬ encM (rdMdl bs).1 = bs) : decM bs st = (⟨[], []⟩, 11) := by unfold decM; rw [if_pos h, if_pos h2, if_neg h3]
theorem decM_ok {bs : List UInt8} {st : Int} (h : (rdMdl bs).2.2 = false ∧ (rdMdl bs).2.1 = []) (h2 : MdlOk (rdMdl bs).1 st) (h3 : encM (rdMdl bs).1 = bs) : decM bs st = ((rdMdl bs).1, 0) := by unfold decM; rw [if_pos h, if_pos h2, if_pos h3]
theorem mdl_none (τ : St) : MdlS τ ⟨[], []⟩ [.nils, .nils] := ⟨.nils, .nils, rfl, .nil, [], .inl (RowV.nil 5), fun i hi => by simp at hi⟩
end Go.Proofs.Ytplhelapcpcncaa.Q

