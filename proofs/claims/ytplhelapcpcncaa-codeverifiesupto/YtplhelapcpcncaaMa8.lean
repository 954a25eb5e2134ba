/- CodeVerifies: whatever the input of bulk at most 1048576: the law answers true, and the input reads as it did. -/
import Derived.Test.YtplhelapcpcncaaMa7
import Derived.Test.YtplhelapcpcncaaMa5
import Derived.Test.YtplhelapcpcncaaMa3
/- The document's walk: the same heights. -/
set_option linter.unusedVariables false
set_option linter.unusedSimpArgs false
set_option maxRecDepth 100000
namespace Go.Proofs.Ytplhelapcpcncaa.Q
open Go Go.RowKit Go.Proofs

def gb (bs : List Bool) (p : Nat) : Bool := bs.getD p false
theorem gb_get {bs : List Bool} {p : Nat} (h : p < bs.length) : gb bs p = bs[p] := by
  unfold gb; rw [List.getD_eq_getElem?_getD, List.getElem?_eq_getElem h]; rfl
theorem gb_set {bs : List Bool} {q : Nat} {x : Bool} (hq : q < bs.length) (p : Nat) : gb (bs.set q x) p = if p = q then x else gb bs p := by
  unfold gb
  rw [List.getD_eq_getElem?_getD, List.getD_eq_getElem?_getD, List.getElem?_set]
  by_cases h : q = p
  · subst h; simp [hq]
  · rw [if_neg h, if_neg (fun e => h e.symm)]
/-- What holds of the places known, and of those that were seen. -/
structure WInv (m : Mdl) (f : Fun) (xs : List Int) (bs : List Bool) (b : Option Nat) : Prop where
  h : ∃ ws, HInv m f xs ws b ∧ ∀ w ∈ ws, gb bs w.toNat = false
  s : ∀ p, gb bs p = true → 0 ≤ gx xs p
def uns (bs : List Bool) : Nat := (bs.filter fun x => !x).length
theorem uns_set : ∀ {bs : List Bool} {q : Nat}, gb bs q = false → q < bs.length → uns (bs.set q true) + 1 = uns bs
  | [], q, _, h => by simp at h
  | x :: xs, 0, h, _ => by
    have hx : x = false := by simpa [gb] using h
    simp [uns, hx]
  | x :: xs, q + 1, h, hl => by
    have ih := uns_set (bs := xs) (q := q) (by simpa [gb] using h) (by simpa using hl)
    unfold uns at ih ⊢
    rw [List.set_cons_succ, List.filter_cons, List.filter_cons]
    split <;> (try simp only [List.length_cons]) <;> omega
/-- A place is seen. -/
theorem WInv.see {m : Mdl} {f : Fun} {xs : List Int} {bs : List Bool} (H : WInv m f xs bs none) {q : Nat} (hq : q < bs.length) (hx : 0 ≤ gx xs q) (hs : gb bs q = false) : WInv m f xs (bs.set q true) (some q) := by
  obtain ⟨ws, hI, hw⟩ := H.h
  refine ⟨⟨ws.filter fun w => w.toNat ≠ q, ⟨hI.len, hI.zero, hI.lo, fun w hw' => hI.wk w (List.mem_filter.1 hw').1, fun p hp => ?_, hI.ok⟩, fun w hw' => ?_⟩, fun p hp => ?_⟩
  · rcases hI.dn p hp with h | h | h
    · cases h
    · by_cases e : p = q
      · exact .inl (by rw [e])
      · exact .inr (.inl (List.mem_filter.2 ⟨h, by simpa using e⟩))
    · exact .inr (.inr h)
  · obtain ⟨h1, h2⟩ := List.mem_filter.1 hw'
    rw [gb_set hq, if_neg (by simpa using h2)]
    exact hw w h1
  · rw [gb_set hq] at hp
    by_cases e : p = q
    · rw [e]; exact hx
    · rw [if_neg e] at hp; exact H.s p hp
theorem WInv.more {m : Mdl} {f : Fun} {xs : List Int} {bs : List Bool} {b : Nat} (H : WInv m f xs bs (some b)) (hb : 0 ≤ gx xs b) {q : Int} {y : Int} (hy : 0 ≤ y) (h0 : 0 ≤ q) (h1 : q < f.code.length) (hq : gx xs q.toNat < 0) (hok : ∀ h, GoodH m f h → h q.toNat = some y) :
    WInv m f (xs.set q.toNat y) bs (some b) ∧ (∀ p, 0 ≤ gx xs p → gx (xs.set q.toNat y) p = gx xs p) ∧ gx (xs.set q.toNat y) q.toNat = y := by
  obtain ⟨ws, hI, hw⟩ := H.h
  obtain ⟨g1, g2, g3⟩ := hI.more hb hy h0 h1 hq hok
  refine ⟨⟨⟨_, g1, fun w hw' => ?_⟩, fun p hp => by rw [g2 p (H.s p hp)]; exact H.s p hp⟩, g2, g3⟩
  rcases List.mem_append.1 hw' with h | h
  · exact hw w h
  · rw [List.mem_singleton] at h
    subst h
    cases e : gb bs w.toNat with
    | false => rfl
    | true => have := H.s _ e; omega
theorem WInv.close {m : Mdl} {f : Fun} {xs : List Int} {bs : List Bool} {b : Nat} (H : WInv m f xs bs (some b)) (hd : DoneH m f xs b) : WInv m f xs bs none :=
  let ⟨ws, hI, hw⟩ := H.h; ⟨⟨ws, hI.close hd, hw⟩, H.s⟩
theorem WInv.len {m : Mdl} {f : Fun} {xs : List Int} {bs : List Bool} {b : Option Nat} (H : WInv m f xs bs b) : xs.length = f.code.length := let ⟨_, h, _⟩ := H.h; h.len
theorem WInv.lo {m : Mdl} {f : Fun} {xs : List Int} {bs : List Bool} {b : Option Nat} (H : WInv m f xs bs b) (p : Nat) : -1 ≤ gx xs p := let ⟨_, h, _⟩ := H.h; h.lo p
theorem WInv.ok {m : Mdl} {f : Fun} {xs : List Int} {bs : List Bool} {b : Option Nat} (H : WInv m f xs bs b) : ∀ h, GoodH m f h → ∀ p, 0 ≤ gx xs p → h p = some (gx xs p) := let ⟨_, h, _⟩ := H.h; h.ok
theorem WInv.good {m : Mdl} {f : Fun} {xs : List Int} {bs : List Bool} (H : WInv m f xs bs none) (ha : ∀ p, 0 ≤ gx xs p → gb bs p = true) : ∃ h, GoodH m f h := by
  obtain ⟨ws, hI, hw⟩ := H.h
  have : ws = [] := by
    cases ws with
    | nil => rfl
    | cons w ws =>
      have h1 := hw w (by simp)
      rw [ha _ (hI.wk w (by simp)).2.2] at h1
      cases h1
  subst this
  exact hI.good

theorem CIR : RowT Try.prog 70 3 1 8 := ⟨IT.u, by kernel_rfl, ⟨_, (by kernel_rfl : zeroT Try.prog 3 = some (.int .i64 0)), rfl⟩, by kernel_rfl, by omega⟩
theorem intsApp {σ0 σ : St} {v : V} {xs : List Int} (h : OwnR 3 1 σ0.toks.length σ v (xs.map i64V) xs.length) (hk : Keep σ0 σ) (x : Int) (hl : xs.length ≤ 1000) :
    ∃ v' σ', vappend Try.prog σ 70 70 v (.slice .exact 1 [.int .i64 x] 1) = some (v', σ') ∧ OwnR 3 1 σ0.toks.length σ' v' ((xs ++ [x]).map i64V) (xs ++ [x]).length ∧ Keep σ0 σ' ∧ σ'.objs = σ.objs := by
  obtain ⟨v', σ', h1, h2, h3, h4⟩ := h.append (n := xs.length) (l := 1) CIR (t2 := 70) (y := .slice .exact 1 [.int .i64 x] 1) (ys := [.int .i64 x]) rfl hk (by simp [vnews, IU]) rfl rfl (by omega) (by omega)
  refine ⟨v', σ', h1, ?_, h3, h4⟩
  rw [List.length_append, List.map_append]
  exact h2
theorem OwnR.ints {e : TypeId} {m : Nat} {σ : St} {v : V} {xs : List Int} (h : OwnR e 1 m σ v (xs.map i64V) xs.length) (hi : ∀ x ∈ xs, InI64 x) : IntsV v xs := by
  refine ⟨?_, hi⟩
  rcases h.2 with ⟨h1, h2⟩ | ⟨p, h1, _⟩
  · exact .inl ⟨h1, List.length_eq_zero_iff.1 h2⟩
  · exact .inr ⟨p, h1⟩

theorem walk_inner {m : Mdl} {f : Fun} {s8 : St} {rk q fr : Nat} {v6 nv wc : V} {xs nx : List Int} {bs : List Bool} {y : Int}
    (hI : WInv m f xs bs (some q)) (hq0 : 0 ≤ gx xs q) (hy0 : 0 ≤ y) (hy1 : y ≤ 256) (hnx : IntsV nv nx) (hnl : nx.length ≤ 2) (hn0 : ∀ r ∈ nx, 0 ≤ r) (hok : ∀ h, GoodH m f h → ∀ r ∈ nx, h r.toNat = some y)
    (L : ∀ s', KeepX rk s8 s' → vload Try.prog s'.objs 35 (.optr fr 4) = some wc) (lc : vlen Try.prog 35 wc = some (.int .i64 (f.code.length : Nat)))
    (H6 : HI s8 v6 rk xs) (hgx : ∀ p, gx xs p ≤ 256) (hN : f.code.length ≤ 16384)
    {e : Nat → V} (g5 : e 5 = .optr fr 0) (g6 : e 6 = v6) (g12 : e 12 = .int .i64 y) (g107 : e 107 = nv) (g108 : e 108 = .int .i64 (nx.length : Nat)) (g109 : e 109 = .int .i64 (0 : Nat)) :
    Ev Try.prog prims 139 (.loop k26_l3) e s8 (fun ex e' σ' => (ex = .exit 6 ∧ ∃ xs', WInv m f xs' bs (some q) ∧ HI σ' v6 rk xs' ∧ KeepX rk s8 σ' ∧ (∀ p, gx xs' p ≤ 256) ∧ (∀ p, 0 ≤ gx xs p → gx xs' p = gx xs p) ∧ ∀ r ∈ nx, r < f.code.length ∧ gx xs' r.toNat = y) ∨ (ex = .ret ∧ e' 4 = .bool false ∧ KeepX rk s8 σ' ∧ ¬ ∃ h, GoodH m f h)) := by
  refine Ev.loopF (fun (j : Nat) e' σ' => e' 109 = .int .i64 (j : Nat) ∧ j ≤ nx.length ∧ ∃ xs', WInv m f xs' bs (some q) ∧ HI σ' v6 rk xs' ∧ KeepX rk s8 σ' ∧ (∀ p, gx xs' p ≤ 256) ∧ (∀ p, 0 ≤ gx xs p → gx xs' p = gx xs p) ∧ ∀ r ∈ nx.take j, r < f.code.length ∧ gx xs' r.toNat = y) (fun j => nx.length - j) 0 ⟨g109, Nat.zero_le _, xs, hI, H6, KeepX.refl _ _, hgx, fun _ _ => rfl, by simp⟩ ?_
  rintro j e' σ' ⟨h109, hj, xs', hI', H6', hk', hgx', hsame, hdn⟩ hf
  have j5 : e' 5 = .optr fr 0 := (hf 5 (by decide)).trans g5
  have j6 : e' 6 = v6 := (hf 6 (by decide)).trans g6
  have j12 : e' 12 = .int .i64 y := (hf 12 (by decide)).trans g12
  have j107 : e' 107 = nv := (hf 107 (by decide)).trans g107
  have j108 : e' 108 = .int .i64 (nx.length : Nat) := (hf 108 (by decide)).trans g108
  clear hf
  by_cases hlt : j < nx.length
  · have hlt' : (j : Int) < (nx.length : Nat) := by omega
    have hwj : IntKind.i64.wrap ((j : Int) + 1) = ((j + 1 : Nat) : Int) := by rw [show ((j : Int) + 1) = ((j + 1 : Nat) : Int) from by omega]; exact wrap_nat (by omega)
    obtain ⟨r, hr⟩ : ∃ r, r = nx[j] := ⟨_, rfl⟩
    have hrm : r ∈ nx := by rw [hr]; exact List.getElem_mem _
    have hr0 := hn0 r hrm
    have ldr := IntsV.load (P := Try.prog) (objs := σ'.objs) IT hlt
    rw [← hr] at ldr
    have adr := hnx.addr IT (Int.natCast_nonneg j) hlt' (k := .i64)
    have lw := L σ' hk'
    have tk : ∀ (P : Int → Prop), (∀ z ∈ nx.take j, P z) → P r → ∀ z ∈ nx.take (j + 1), P z := by
      intro P h1 h2 z hz
      rw [List.take_succ_eq_append_getElem hlt, List.mem_append] at hz
      rcases hz with hz | hz
      · exact h1 z hz
      · rw [List.mem_singleton] at hz; rw [hz, ← hr]; exact h2
    by_cases hge : (f.code.length : Int) ≤ r
    · simp only [k26_a, WK, vop, evAll, evOpt, evParts, vbuiltin, vun, vextract, Nat.reduceLT, Nat.reduceEqDiff, ↓reduceIte, reduceCtorEq, Nat.reduceAdd, Int.reduceLT, Int.reduceNeg, valloc_std, noSB, vhot, h109, j107, j108, hlt', adr, Int.toNat_natCast, ldr, j5, FF4', lw, lc, hge]
      refine .inr ⟨hk', ?_⟩
      rintro ⟨h, hg⟩
      have := good_lt hg (hok h hg r hrm)
      omega
    obtain ⟨z, rfl⟩ : ∃ z : Nat, r = (z : Int) := ⟨r.toNat, by omega⟩
    have hz : z < xs'.length := by rw [hI'.len]; omega
    have ldk := H6'.load hz
    have hgz := gx_get hz
    have hokz : ∀ h, GoodH m f h → h z = some y := fun h hg => by have := hok h hg _ hrm; rwa [Int.toNat_natCast] at this
    obtain ⟨sx, stx, HX, kx, lx⟩ := H6'.set hz y
    by_cases hk0 : 0 ≤ xs'[z]
    · by_cases hky : xs'[z] = y
      · have hneg : ¬ xs'[z] < 0 := by omega
        have hset : xs'.set z y = xs' := by
          rw [← hky]; exact List.set_getElem_self hz
        rw [hset] at HX
        simp only [k26_a, WK, vop, evAll, evOpt, evParts, vbuiltin, vun, vextract, Nat.reduceLT, Nat.reduceEqDiff, ↓reduceIte, reduceCtorEq, Nat.reduceAdd, Int.reduceLT, Int.reduceNeg, valloc_std, noSB, vhot, h109, j107, j108, hlt', adr, Int.toNat_natCast, ldr, j5, FF4', lw, lc, hge, j6, H6'.addr hz, ldk, hk0, hky, hy0, j12, decide_true, Bool.not_true, (show ¬ y < 0 by omega), hwj, stx]
        refine ⟨j + 1, ⟨by simp [upd_some], hlt, xs', hI', HX, hk'.trans kx, hgx', hsame, ?_⟩, by omega⟩
        exact tk _ hdn ⟨by omega, by rw [Int.toNat_natCast, hgz]; exact hky⟩
      · have hky' : decide (xs'[z] = y) = false := decide_eq_false hky
        simp only [k26_a, WK, vop, evAll, evOpt, evParts, vbuiltin, vun, vextract, Nat.reduceLT, Nat.reduceEqDiff, ↓reduceIte, reduceCtorEq, Nat.reduceAdd, Int.reduceLT, Int.reduceNeg, valloc_std, noSB, vhot, h109, j107, j108, hlt', adr, Int.toNat_natCast, ldr, j5, FF4', lw, lc, hge, j6, H6'.addr hz, ldk, hk0, hky', j12, Bool.not_false]
        refine .inr ⟨hk', ?_⟩
        rintro ⟨h, hg⟩
        have h1 := hI'.ok h hg z (by rw [hgz]; exact hk0)
        rw [hokz h hg, hgz] at h1
        injection h1 with h1
        exact hky h1.symm
    · have hneg : xs'[z] < 0 := by omega
      obtain ⟨hI9, hsm9, hgy9⟩ := hI'.more (by rw [hsame q hq0]; exact hq0) (q := (z : Int)) hy0 (by omega) (by omega) (by rw [Int.toNat_natCast, hgz]; exact hneg) (fun h hg => by rw [Int.toNat_natCast]; exact hokz h hg)
      rw [Int.toNat_natCast] at hI9 hsm9 hgy9
      simp only [k26_a, WK, vop, evAll, evOpt, evParts, vbuiltin, vun, vextract, Nat.reduceLT, Nat.reduceEqDiff, ↓reduceIte, reduceCtorEq, Nat.reduceAdd, Int.reduceLT, Int.reduceNeg, valloc_std, noSB, vhot, h109, j107, j108, hlt', adr, Int.toNat_natCast, ldr, j5, FF4', lw, lc, hge, j6, H6'.addr hz, ldk, hk0, hneg, j12, stx, hwj]
      refine ⟨j + 1, ⟨by simp [upd_some], hlt, _, hI9, HX, hk'.trans kx, fun p => ?_, fun p hp => ?_, ?_⟩, by omega⟩
      · rw [gx_set hz]; split
        · exact hy1
        · exact hgx' p
      · rw [hsm9 p (by rw [hsame p hp]; exact hp), hsame p hp]
      · refine tk _ (fun w hw => ?_) ⟨by omega, by rw [Int.toNat_natCast]; exact hgy9⟩
        obtain ⟨k1, k2⟩ := hdn w hw
        exact ⟨k1, by rw [hsm9 _ (by rw [k2]; exact hy0)]; exact k2⟩
  · have hlt' : ¬ (j : Int) < (nx.length : Nat) := by omega
    simp only [k26_a, WK, vop, evAll, evOpt, evParts, vbuiltin, vun, vextract, Nat.reduceLT, Nat.reduceEqDiff, ↓reduceIte, reduceCtorEq, Nat.reduceAdd, Int.reduceLT, Int.reduceNeg, valloc_std, noSB, vhot, h109, j108, hlt']
    refine .inl ⟨xs', hI', H6', hk', hgx', hsame, ?_⟩
    rw [List.take_of_length_le (by omega)] at hdn
    exact hdn

theorem walk_does {σ : St} {m : Mdl} {c : List V} (hm : MdlS σ m c) {n : Nat} (hn : n < m.funcs.length) (hN : 1 ≤ (m.funcs[n]).code.length ∧ (m.funcs[n]).code.length ≤ 16384) (hst : (m.funcs[n]).stack ≤ 256)
    (hins : ∀ (p : Nat) (hp : p < (m.funcs[n]).code.length), callOk m (m.funcs[n]).code[p] ∧ 0 ≤ popS m (m.funcs[n]).code[p] ∧ popS m (m.funcs[n]).code[p] ≤ 8 ∧ ((m.funcs[n]).code[p].op = 7 ∨ (m.funcs[n]).code[p].op = 8 → 0 ≤ (m.funcs[n]).code[p].a ∧ (m.funcs[n]).code[p].a < (m.funcs[n]).code.length)) :
    ∃ b σ', Does Try.prog prims 26 [.agg c, .int .i64 (n : Int)] σ (.ret (.bool b)) σ' ∧ Keep σ σ' ∧ (b = true ↔ ∃ h, GoodH m m.funcs[n] h) := by
  have key : ∃ q σ', Does Try.prog prims 26 [.agg c, .int .i64 (n : Int)] σ q σ' ∧ ∃ b, q = .ret (.bool b) ∧ Keep σ σ' ∧ (b = true ↔ ∃ h, GoodH m m.funcs[n] h) := by
    apply k26_is.does (by simp)
    have hm0 := hm
    obtain ⟨w1, w2, hc, hv, hf⟩ := hm
    obtain ⟨s1, hs1⟩ : ∃ s1 : St, s1 = ⟨σ.objs ++ [Ob.cells c], σ.toks⟩ := ⟨_, rfl⟩
    have k1 : Keep σ s1 := by rw [hs1]; exact (Keep.refl σ).push _
    have o1 : s1.objs[σ.objs.length]? = some (.cells c) := by rw [hs1]; exact push_new _ _
    obtain ⟨p, cf, hp, hF, hpl⟩ := fun_load hf hn
    obtain ⟨s2, s3, wc, hs2, st3, k3, o3, hcode, hl3⟩ := funmade s1 hF k1
    obtain ⟨f, hfe⟩ : ∃ f, f = m.funcs[n] := ⟨_, rfl⟩
    simp only [← hfe] at hN hst hins
    rw [← hfe] at hF o3 hcode ⊢
    have ldf : vload Try.prog s1.objs 23 (.optr σ.objs.length 1) = some w2 := by rw [vload_obj o1 FsG, hc]; rfl
    have k13 := k1.trans k3
    have L : ∀ s', Keep s3 s' → vload Try.prog s'.objs 35 (.optr s1.objs.length 4) = some wc ∧ vload Try.prog s'.objs 3 (.optr s1.objs.length 3) = some (.int .i64 f.stack) ∧ vload Try.prog s'.objs 25 (.optr σ.objs.length 0) = some (.agg c) := by
      intro s' hk
      have e3 := hk.1 _ _ o3
      have e1 := hk.1 _ _ (k3.1 _ _ o1)
      exact ⟨by rw [vload_obj e3 NsG]; rfl, by rw [vload_obj e3 G3]; rfl, vload_agg e1 MG (by rw [hm0.len]; exact MS)⟩
    have lc : vlen Try.prog 35 wc = some (.int .i64 (f.code.length : Nat)) := RowS.len hcode NT
    obtain ⟨N, hNe⟩ : ∃ N, N = f.code.length := ⟨_, rfl⟩
    rw [← hNe] at lc hN
    obtain ⟨v6, s4, mk4, h6, k4, l4⟩ := HI.make s3 (n := N) (by omega)
    have len6 : vlen Try.prog 70 v6 = some (.int .i64 (N : Nat)) := by have := h6.len; simpa using this
    simp only [k26_a, WK, vop, evAll, evOpt, evParts, vbuiltin, vun, vextract, Nat.reduceLT, Nat.reduceEqDiff, ↓reduceIte, reduceCtorEq, Nat.reduceAdd, Int.reduceLT, Int.reduceNeg, valloc_std, noSB, vhot, vbox, vcells, ← hs1, MF1, ldf, hp, hpl s1 k1, FZ, ← hs2, st3, FF4', (L s3 (Keep.refl _)).1, lc, mk4, len6]
    refine Ev.loopF (fun (i : Nat) e σ' => e 27 = .int .i64 (i : Nat) ∧ i ≤ N ∧ HI σ' v6 s3.objs.length (List.replicate i (-1) ++ List.replicate (N - i) 0) ∧ Keep s3 σ') (fun i => N - i) 0 ⟨by simp [upd_some], Nat.zero_le _, by simpa using h6, k4⟩ ?_
    rintro i e σ' ⟨h27, hi, H6, hk⟩ hf
    have g2 : e 2 = .optr σ.objs.length 0 := (hf 2 (by decide)).trans (by simp [upd_some])
    have g5 : e 5 = .optr s1.objs.length 0 := (hf 5 (by decide)).trans (by simp [upd_some])
    have g6 : e 6 = v6 := (hf 6 (by decide)).trans (by simp [upd_some])
    have g26 : e 26 = .int .i64 (N : Nat) := (hf 26 (by decide)).trans (by simp [upd_some])
    clear hf
    by_cases hlt : i < N
    · have hlt' : (i : Int) < (N : Nat) := by omega
      have hwi : IntKind.i64.wrap ((i : Int) + 1) = ((i + 1 : Nat) : Int) := by rw [show ((i : Int) + 1) = ((i + 1 : Nat) : Int) from by omega]; exact wrap_nat (by omega)
      have hil : i < (List.replicate i (-1 : Int) ++ List.replicate (N - i) 0).length := by simp; omega
      obtain ⟨sa, hst1, HA, kx, _⟩ := H6.set hil (-1)
      simp only [k26_a, WK, vop, evAll, evOpt, evParts, vbuiltin, vun, vextract, Nat.reduceLT, Nat.reduceEqDiff, ↓reduceIte, reduceCtorEq, Nat.reduceAdd, Int.reduceLT, Int.reduceNeg, valloc_std, noSB, vhot, g6, h27, g26, hlt', H6.addr hil, hst1, hwi]
      exact ⟨i + 1, ⟨by simp [upd_some], by omega, by rw [← rep_set N i hlt]; exact HA, hk.overX2 kx (Nat.le_refl _)⟩, by omega⟩
    have hlt' : ¬ (i : Int) < (N : Nat) := by omega
    have hiN : i = N := by omega
    subst hiN
    rw [Nat.sub_self, List.replicate_zero, List.append_nil] at H6
    have h0l : 0 < (List.replicate i (-1 : Int)).length := by simp; omega
    obtain ⟨sa, hst1, HA, kx, hla⟩ := H6.set h0l 0
    have ha0 : vindexAddr Try.prog 70 v6 (.int .i64 0) = some (.optr s3.objs.length 0) := H6.addr h0l
    have hka := hk.overX2 kx (Nat.le_refl _)
    obtain ⟨v8, s5, mk5, h8, k5, l5⟩ := HT.make sa (n := i) (by omega)
    have hrs : s3.objs.length < sa.objs.length := HA.lt
    simp only [k26_a, WK, vop, evAll, evOpt, evParts, vbuiltin, vun, vextract, Nat.reduceLT, Nat.reduceEqDiff, ↓reduceIte, reduceCtorEq, Nat.reduceAdd, Int.reduceLT, Int.reduceNeg, valloc_std, noSB, vhot, g5, g6, h27, g26, hlt', ha0, hst1, FF4', (L sa hka).1, lc, mk5]
    have inv0 : WInv m f ((List.replicate i (-1 : Int)).set 0 0) (List.replicate i false) none := by
      have gs := gx_set (xs := List.replicate i (-1 : Int)) (x := 0) h0l
      have gr : ∀ p, gx (List.replicate i (-1 : Int)) p = -1 := by
        intro p
        unfold gx
        rw [List.getD_eq_getElem?_getD, List.getElem?_replicate]
        split <;> rfl
      have gf : ∀ p, gb (List.replicate i false) p = false := by
        intro p
        unfold gb
        rw [List.getD_eq_getElem?_getD, List.getElem?_replicate]
        split <;> rfl
      refine ⟨⟨[0], ⟨by rw [List.length_set, List.length_replicate]; exact hNe, by rw [gs, if_pos rfl], fun p => by rw [gs, gr]; split <;> omega, fun w hw => ?_, fun p hp => ?_, fun h hg p hp => ?_⟩, fun w _ => gf _⟩, fun p hp => by rw [gf] at hp; cases hp⟩
      · rw [List.mem_singleton] at hw; subst hw
        exact ⟨Int.le_refl _, by omega, by rw [show (0 : Int).toNat = 0 from rfl, gs, if_pos rfl]; exact Int.le_refl _⟩
      · rw [gs, gr] at hp
        by_cases hp0 : p = 0
        · subst hp0; exact .inr (.inl (by simp))
        · rw [if_neg hp0] at hp; omega
      · rw [gs, gr] at hp
        by_cases hp0 : p = 0
        · subst hp0; rw [gs, if_pos rfl]; exact hg.1
        · rw [if_neg hp0] at hp; omega
    have hg0 : ∀ p, gx ((List.replicate i (-1 : Int)).set 0 0) p ≤ 256 := by
      intro p
      rw [gx_set h0l]
      split
      · omega
      · unfold gx
        rw [List.getD_eq_getElem?_getD, List.getElem?_replicate]
        split <;> simp
    refine Ev.loopF (fun (z : List Int × List Bool × Bool) e σ' => e 9 = .bool z.2.2 ∧ WInv m f z.1 z.2.1 none ∧ HI σ' v6 s3.objs.length z.1 ∧ HT σ' v8 sa.objs.length z.2.1 ∧ z.2.1.length = i ∧ Keep s3 σ' ∧ (∀ p, gx z.1 p ≤ 256) ∧ (z.2.2 = false → ∀ p, 0 ≤ gx z.1 p → gb z.2.1 p = true)) (fun z => if z.2.2 then uns z.2.1 + 1 else 0) ((List.replicate i (-1 : Int)).set 0 0, List.replicate i false, true) ⟨by simp [upd_some], inv0, HA.keep k5, h8, by simp, hka.trans k5, hg0, fun h => by cases h⟩ ?_
    rintro ⟨xs, bs, again⟩ e2 sb ⟨h9, hI, H6b, H8b, hbl, hkb, hgx, hag⟩ hf
    have j2 : e2 2 = .optr σ.objs.length 0 := (hf 2 (by decide)).trans (by simp [upd_some, g2])
    have j5 : e2 5 = .optr s1.objs.length 0 := (hf 5 (by decide)).trans (by simp [upd_some, g5])
    have j6 : e2 6 = v6 := (hf 6 (by decide)).trans (by simp [upd_some, g6])
    have j8 : e2 8 = v8 := (hf 8 (by decide)).trans (by simp [upd_some])
    clear hf
    simp only at h9 hI H6b H8b hbl hgx hag
    cases again with
    | false =>
      simp only [k26_a, WK, vop, evAll, evOpt, evParts, vbuiltin, vun, vextract, Nat.reduceLT, Nat.reduceEqDiff, ↓reduceIte, reduceCtorEq, Nat.reduceAdd, Int.reduceLT, Int.reduceNeg, valloc_std, noSB, vhot, h9]
      exact ⟨true, rfl, k13.trans hkb, iff_of_true rfl (hI.good (hag rfl))⟩
    | true =>
    simp only [k26_a, WK, vop, evAll, evOpt, evParts, vbuiltin, vun, vextract, Nat.reduceLT, Nat.reduceEqDiff, ↓reduceIte, reduceCtorEq, Nat.reduceAdd, Int.reduceLT, Int.reduceNeg, valloc_std, noSB, vhot, h9, j5, FF4', (L sb hkb).1, lc]
    refine Ev.loopF (fun (z : Nat × List Int × List Bool × Bool) e σ' => e 44 = .int .i64 (z.1 : Nat) ∧ z.1 ≤ i ∧ e 9 = .bool z.2.2.2 ∧ WInv m f z.2.1 z.2.2.1 none ∧ HI σ' v6 s3.objs.length z.2.1 ∧ HT σ' v8 sa.objs.length z.2.2.1 ∧ z.2.2.1.length = i ∧ Keep s3 σ' ∧ (∀ p, gx z.2.1 p ≤ 256) ∧ (z.2.2.2 = false → z.2.2.1 = bs ∧ ∀ p, p < z.1 → 0 ≤ gx z.2.1 p → gb z.2.2.1 p = true) ∧ (z.2.2.2 = true → uns z.2.2.1 < uns bs)) (fun z => i - z.1) (0, xs, bs, false) ⟨by simp [upd_some], Nat.zero_le _, by simp [upd_some], hI, H6b, H8b, hbl, hkb, hgx, fun _ => ⟨rfl, fun p hp => by omega⟩, fun h => by cases h⟩ ?_
    rintro ⟨q, ys, cs, ag⟩ e3 sc ⟨h44, hqi, h9', hJ, H6c, H8c, hcl, hkc, hgy, hf1, hf2⟩ hf
    have l2 : e3 2 = .optr σ.objs.length 0 := (hf 2 (by decide)).trans (by simp [upd_some, j2])
    have l5 : e3 5 = .optr s1.objs.length 0 := (hf 5 (by decide)).trans (by simp [upd_some, j5])
    have l6 : e3 6 = v6 := (hf 6 (by decide)).trans (by simp [upd_some, j6])
    have l8 : e3 8 = v8 := (hf 8 (by decide)).trans (by simp [upd_some, j8])
    have l42 : e3 42 = wc := (hf 42 (by decide)).trans (by simp [upd_some])
    have l43 : e3 43 = .int .i64 (i : Nat) := (hf 43 (by decide)).trans (by simp [upd_some])
    clear hf
    simp only at h44 hqi h9' hJ H6c H8c hcl hgy hf1 hf2
    by_cases hq : q < i
    · have hq' : (q : Int) < (i : Nat) := by omega
      have hwq : IntKind.i64.wrap ((q : Int) + 1) = ((q + 1 : Nat) : Int) := by rw [wrap_i64 (by omega) (by omega)]; omega
      have hqf : q < f.code.length := by omega
      have hqx : q < ys.length := by rw [hJ.len]; exact hqf
      have hqb : q < cs.length := by omega
      obtain ⟨pc, hpc, hlc⟩ := code_load hcode hqf
      obtain ⟨ins, hine⟩ : ∃ ins, ins = f.code[q] := ⟨_, rfl⟩
      obtain ⟨s6, s7, hs6, st7, k7, o7, l7⟩ := insmade sc ins
      have hlcb := hlc sc (k13.trans hkc)
      rw [← hine] at hlcb
      have H67 := H6c.keep k7
      have H87 := H8c.keep k7
      have ldk := H67.load hqx
      have lds := H87.load hqb
      have hk7 := hkc.trans k7
      have next1 : ∀ (ag' : Bool), ag' = ag → (ag' = false → ∀ p, p < q + 1 → 0 ≤ gx ys p → gb cs p = true) → (ag' = false → cs = bs ∧ ∀ p, p < q + 1 → 0 ≤ gx ys p → gb cs p = true) := fun ag' h1 h2 h3 => ⟨(hf1 (by rw [← h1]; exact h3)).1, h2 h3⟩
      by_cases hneg : ys[q] < 0
      · simp only [k26_a, WK, vop, evAll, evOpt, evParts, vbuiltin, vun, vextract, Nat.reduceLT, Nat.reduceEqDiff, ↓reduceIte, reduceCtorEq, Nat.reduceAdd, Int.reduceLT, Int.reduceNeg, valloc_std, noSB, vhot, h44, l42, l43, hq', hpc, hlcb, NZ, vbox, vcells, ← hs6, st7, l6, H67.addr hqx, ldk, hneg, hwq]
        refine ⟨(q + 1, ys, cs, ag), ⟨by simp [upd_some], by simp only; omega, by simp [upd_some, h9'], hJ, H67, H87, hcl, hk7, hgy, next1 ag rfl (fun h p hp h0 => ?_), hf2⟩, by simp only; omega⟩
        by_cases e : p = q
        · rw [e, gx_get hqx] at h0; omega
        · exact (hf1 h).2 p (by omega) h0
      cases hsn : cs[q] with
      | true =>
        rw [hsn] at lds
        simp only [k26_a, WK, vop, evAll, evOpt, evParts, vbuiltin, vun, vextract, Nat.reduceLT, Nat.reduceEqDiff, ↓reduceIte, reduceCtorEq, Nat.reduceAdd, Int.reduceLT, Int.reduceNeg, valloc_std, noSB, vhot, h44, l42, l43, hq', hpc, hlcb, NZ, vbox, vcells, ← hs6, st7, l6, l8, H67.addr hqx, ldk, hneg, H87.addr hqb, lds, hwq]
        refine ⟨(q + 1, ys, cs, ag), ⟨by simp [upd_some], by simp only; omega, by simp [upd_some, h9'], hJ, H67, H87, hcl, hk7, hgy, next1 ag rfl (fun h p hp h0 => ?_), hf2⟩, by simp only; omega⟩
        by_cases e : p = q
        · rw [e, gb_get hqb]; exact hsn
        · exact (hf1 h).2 p (by omega) h0
      | false =>
      rw [hsn] at lds
      have hx2 : 0 ≤ ys[q] := by omega
      have hgq : gx ys q = ys[q] := gx_get hqx
      have hgbq : gb cs q = false := by rw [gb_get hqb]; exact hsn
      obtain ⟨s8, st8, H88, kx8, ll8⟩ := H87.set hqb true
      have hrl := H6c.lt
      have H68 := H67.keepX kx8 (by omega)
      have hk8 := hk7.overX2 kx8 (by omega)
      have hJ2 := hJ.see hqb (by rw [hgq]; exact hx2) hgbq
      have hus := uns_set hgbq hqb
      have o8 : s8.objs[sc.objs.length]? = some (.cells (insC ins)) := kx8.1 _ _ (by have := H8c.2; have := (List.getElem?_eq_some_iff.1 this).1; omega) o7
      obtain ⟨hcall, hp0, hp8, hjmp⟩ := hins q hqf
      rw [← hine] at hcall hp0 hp8 hjmp
      obtain ⟨s9, d9, k9⟩ := pops_does (hm0.keep (k13.trans hk8)) ins hcall
      have ldi8 : vload Try.prog s8.objs 39 (.optr sc.objs.length 0) = some (.agg (insC ins)) := vload_agg o8 NG NS
      have ldk8 := H68.load hqx
      have H69 := H68.keep k9
      have ldk9 := H69.load hqx
      have hk9 := hk8.trans k9
      have o9 := k9.1 _ _ o8
      have ldi9 : vload Try.prog s9.objs 39 (.optr sc.objs.length 0) = some (.agg (insC ins)) := vload_agg o9 NG NS
      obtain ⟨s10, d10, k10⟩ := pushes_does s9 ins
      have H610 := H69.keep k10
      have hk10 := hk9.trans k10
      have o10 := k10.1 _ _ o9
      have hb := hgy q
      have hlo := hJ.lo q
      rw [hgq] at hb hlo
      have hps := pushS_ge ins
      have hps1 : pushS ins ≤ 1 := by unfold pushS; split <;> omega
      have w2' : IntKind.i64.wrap (ys[q] - popS m ins) = ys[q] - popS m ins := wrap_i64 (by omega) (by omega)
      have w3' : IntKind.i64.wrap (ys[q] - popS m ins + pushS ins) = ys[q] - popS m ins + pushS ins := wrap_i64 (by omega) (by omega)
      have bad : (ys[q] - popS m ins < 0 ∨ f.stack < ys[q] - popS m ins + pushS ins) → ¬ ∃ h, GoodH m f h := by
        rintro hb2 ⟨h, hg⟩
        have h1 := hJ.ok h hg q (by rw [hgq]; exact hx2)
        obtain ⟨i', e1, e2', e3, _⟩ := hg.2 q _ h1
        rw [List.getElem?_eq_getElem hqf] at e1
        injection e1 with e1
        rw [← hine] at e1
        subst e1
        rw [hgq] at e2' e3
        omega
      simp only [k26_a, WK, vop, evAll, evOpt, evParts, vbuiltin, vun, vextract, Nat.reduceLT, Nat.reduceEqDiff, ↓reduceIte, reduceCtorEq, Nat.reduceAdd, Int.reduceLT, Int.reduceNeg, valloc_std, noSB, vhot, h44, l42, l43, hq', hpc, hlcb, NZ, vbox, vcells, ← hs6, st7, l6, l8, H67.addr hqx, ldk, hneg, H87.addr hqb, lds, st8, l2, (L s8 hk8).2.2, ldi8, ldk8]
      refine KD.ret d9 ?_
      by_cases hlow : ys[q] - popS m ins < 0
      · simp only [k26_a, WK, vop, evAll, evOpt, evParts, vbuiltin, vun, vextract, Nat.reduceLT, Nat.reduceEqDiff, ↓reduceIte, reduceCtorEq, Nat.reduceAdd, Int.reduceLT, Int.reduceNeg, valloc_std, noSB, vhot, l6, H67.addr hqx, ldk8, ldk9, w2', hlow]
        exact ⟨false, rfl, k13.trans hk9, iff_of_false (by decide) (bad (.inl hlow))⟩
      simp only [k26_a, WK, vop, evAll, evOpt, evParts, vbuiltin, vun, vextract, Nat.reduceLT, Nat.reduceEqDiff, ↓reduceIte, reduceCtorEq, Nat.reduceAdd, Int.reduceLT, Int.reduceNeg, valloc_std, noSB, vhot, l6, H67.addr hqx, ldk8, ldk9, w2', hlow, ldi9]
      refine KD.ret d10 ?_
      by_cases hhi : f.stack < ys[q] - popS m ins + pushS ins
      · simp only [k26_a, WK, vop, evAll, evOpt, evParts, vbuiltin, vun, vextract, Nat.reduceLT, Nat.reduceEqDiff, ↓reduceIte, reduceCtorEq, Nat.reduceAdd, Int.reduceLT, Int.reduceNeg, valloc_std, noSB, vhot, l5, w2', w3', FF3', (L s10 hk10).2.1, hhi]
        exact ⟨false, rfl, k13.trans hk10, iff_of_false (by decide) (bad (.inr hhi))⟩
      have ldop : vload Try.prog s10.objs 3 (.optr sc.objs.length 0) = some (.int .i64 ins.op) := by rw [vload_obj o10 G3]; rfl
      have lda : vload Try.prog s10.objs 3 (.optr sc.objs.length 1) = some (.int .i64 ins.a) := by rw [vload_obj o10 G3]; rfl
      obtain ⟨y, hy⟩ : ∃ y, y = ys[q] - popS m ins + pushS ins := ⟨_, rfl⟩
      have hyl : 0 ≤ y ∧ y ≤ 256 := by omega
      have hokn : ∀ h, GoodH m f h → ∀ r ∈ nextS ins q, 0 ≤ r ∧ h r.toNat = some y := by
        intro h hg
        have h1 := hJ.ok h hg q (by rw [hgq]; exact hx2)
        obtain ⟨i', e1, _, _, e4⟩ := hg.2 q _ h1
        rw [List.getElem?_eq_getElem hqf] at e1
        injection e1 with e1
        rw [← hine] at e1
        subst e1
        rw [hgq, ← hy] at e4
        exact e4
      have hnn : ∀ r ∈ nextS ins q, 0 ≤ r ∧ r ≤ 16384 := by
        intro r hr
        unfold nextS at hr
        split at hr
        · simp at hr
        · split at hr
          · have := hjmp (.inl (by assumption)); simp at hr; omega
          · split at hr
            · have := hjmp (.inr (by assumption)); simp at hr; omega
            · simp at hr; omega
      have fin : ∀ (nx : List Int) (nv : V) (st : St) (e4 : Nat → V), (∀ r, r ∈ nx ↔ r ∈ nextS ins q) → ((nv = .nils ∧ nx = []) ∨ ∃ p, nv = .slice p 1 (nx.map i64V) nx.length) → nx.length ≤ 2 → Keep s10 st → e4 5 = .optr s1.objs.length 0 → e4 6 = v6 → e4 12 = .int .i64 y → e4 107 = nv → e4 108 = .int .i64 (nx.length : Nat) → e4 109 = .int .i64 (0 : Nat) → _ :=
        fun nx nv st e4 hnx h1 h2 h3 e5 e6 e12 e107 e108 e109 => walk_inner (q := q) (y := y) (s8 := st) (rk := s3.objs.length) hJ2 (by rw [hgq]; exact hx2) hyl.1 hyl.2 ⟨h1, fun r hr => by have := hnn r ((hnx r).1 hr); unfold InI64; omega⟩ h2 (fun r hr => (hnn r ((hnx r).1 hr)).1) (fun h hg r hr => (hokn h hg r ((hnx r).1 hr)).2) (fun s' hk => (L s' ((hk10.trans h3).overX2 hk (Nat.le_refl _))).1) (by rw [← hNe]; exact lc) (H610.keep h3) hgy (by omega) e5 e6 e12 e107 e108 e109
      have done : ∀ (nx : List Int) (xs' : List Int), (∀ r, r ∈ nx ↔ r ∈ nextS ins q) → WInv m f xs' (cs.set q true) (some q) → (∀ p, 0 ≤ gx ys p → gx xs' p = gx ys p) → (∀ r ∈ nx, r < f.code.length ∧ gx xs' r.toNat = y) → WInv m f xs' (cs.set q true) none := by
        intro nx xs' hnx h1 h2 h4
        refine h1.close ⟨ins, by rw [List.getElem?_eq_getElem hqf, hine], ?_, ?_, fun r hr => ?_⟩
        · rw [h2 q (by rw [hgq]; exact hx2), hgq]; omega
        · rw [h2 q (by rw [hgq]; exact hx2), hgq]; omega
        · rw [h2 q (by rw [hgq]; exact hx2), hgq, ← hy]
          exact ⟨(hnn r hr).1, h4 r ((hnx r).2 hr)⟩
      have cont : ∀ (xs' : List Int) (st : St) (a44 a9 : V), a44 = .int .i64 ((q + 1 : Nat) : Int) → a9 = .bool true → WInv m f xs' (cs.set q true) none → HI st v6 s3.objs.length xs' → HT st v8 sa.objs.length (cs.set q true) → Keep s3 st → (∀ p, gx xs' p ≤ 256) → ∃ z : Nat × List Int × List Bool × Bool, (a44 = .int .i64 (z.1 : Nat) ∧ z.1 ≤ i ∧ a9 = .bool z.2.2.2 ∧ WInv m f z.2.1 z.2.2.1 none ∧ HI st v6 s3.objs.length z.2.1 ∧ HT st v8 sa.objs.length z.2.2.1 ∧ z.2.2.1.length = i ∧ Keep s3 st ∧ (∀ p, gx z.2.1 p ≤ 256) ∧ (z.2.2.2 = false → z.2.2.1 = bs ∧ ∀ p, p < z.1 → 0 ≤ gx z.2.1 p → gb z.2.2.1 p = true) ∧ (z.2.2.2 = true → uns z.2.2.1 < uns bs)) ∧ i - z.1 < i - q := by
        intro xs' st a44 a9 a1 a2 a3 a4 a5 a6 a7
        refine ⟨(q + 1, xs', cs.set q true, true), ⟨a1, by simp only; omega, a2, a3, a4, a5, by rw [List.length_set]; exact hcl, a6, a7, (fun h => by cases h), fun _ => ?_⟩, by simp only; omega⟩
        simp only
        cases ag with
        | false => rw [(hf1 rfl).1] at hus; rw [(hf1 rfl).1]; omega
        | true => have := hf2 rfl; omega
      by_cases h10 : ins.op = 10
      · have e10 : (ins.op = 10) = True := eq_true h10
        simp only [k26_a, WK, vop, evAll, evOpt, evParts, vbuiltin, vun, vextract, Nat.reduceLT, Nat.reduceEqDiff, ↓reduceIte, reduceCtorEq, Nat.reduceAdd, Int.reduceLT, Int.reduceNeg, valloc_std, noSB, vhot, l5, w2', w3', FF3', (L s10 hk10).2.1, hhi, ofVal_nil, NF0, NF1, ldop, lda, hwq, e10, (show (ins.op = 7) = False from eq_false (by omega)), (show (ins.op = 8) = False from eq_false (by omega)), decide_false, (show vlen Try.prog 70 .nils = some (.int .i64 ((([] : List Int).length : Nat))) from by simp [vlen, IU])]
        refine Ev.cut (fin [] .nils s10 _ (by intro r; simp [nextS, h10]) (.inl ⟨rfl, rfl⟩) (by simp) (Keep.refl s10) (by simp [upd_some, l5]) (by simp [upd_some, l6]) (by simp only [upd_some, Nat.reduceEqDiff, ↓reduceIte]; rw [hy]) (by simp [upd_some]) (by simp [upd_some]) (by simp [upd_some])) ?_
        rintro ex e' σ' (⟨rfl, xs', b1, b2, b3, b4, b5, b6⟩ | ⟨rfl, ht4, hk9, hng⟩) hfr
        · have f44 : e' 44 = .int .i64 (q : Nat) := (hfr 44 (by decide)).trans (by simp [upd_some, h44])
          have f9 : e' 9 = .bool true := (hfr 9 (by decide)).trans (by simp [upd_some])
          simp only [k26_a, WK, vop, evAll, evOpt, evParts, vbuiltin, vun, vextract, Nat.reduceLT, Nat.reduceEqDiff, ↓reduceIte, reduceCtorEq, Nat.reduceAdd, Int.reduceLT, Int.reduceNeg, valloc_std, noSB, vhot, f44, hwq]
          exact cont xs' σ' _ _ rfl f9 (done [] xs' (by intro r; simp [nextS, h10]) b1 b5 b6) b2 ((((H88.keep k9).keep k10).keep (Keep.refl s10)).keepX b3 (by omega)) ((hk10.trans (Keep.refl s10)).overX2 b3 (Nat.le_refl _)) b4
        · simp only [WK, vop, evAll, evOpt, evParts, vbuiltin, vun, vextract, Nat.reduceLT, Nat.reduceEqDiff, ↓reduceIte, reduceCtorEq, Nat.reduceAdd, Int.reduceLT, Int.reduceNeg, valloc_std, noSB, vhot, ht4]
          exact ⟨false, rfl, k13.trans ((hk10.trans (Keep.refl s10)).overX2 hk9 (Nat.le_refl _)), iff_of_false (by decide) hng⟩
      have e10 : (ins.op = 10) = False := eq_false h10
      by_cases h7' : ins.op = 7
      · have e7 : (ins.op = 7) = True := eq_true h7'
        obtain ⟨v1, s11, ap1, O1, ka1, ob1⟩ := intsApp (σ0 := s10) (σ := s10) (v := .nils) (xs := []) (by simpa using OwnR.nil) (Keep.refl _) ins.a (by simp)
        have I1 : (v1 = .nils ∧ ([ins.a] : List Int) = []) ∨ ∃ p, v1 = .slice p 1 ([ins.a].map i64V) [ins.a].length := by
          rcases O1.2 with ⟨_, h⟩ | ⟨p, h, _⟩
          · simp at h
          · exact .inr ⟨p, h⟩
        have vl1 : vlen Try.prog 70 v1 = some (.int .i64 (([ins.a] : List Int).length : Nat)) := by
          rcases I1 with ⟨_, h⟩ | ⟨p, rfl⟩
          · cases h
          · simp [vlen, IU]
        simp only [k26_a, WK, vop, evAll, evOpt, evParts, vbuiltin, vun, vextract, Nat.reduceLT, Nat.reduceEqDiff, ↓reduceIte, reduceCtorEq, Nat.reduceAdd, Int.reduceLT, Int.reduceNeg, valloc_std, noSB, vhot, l5, w2', w3', FF3', (L s10 hk10).2.1, hhi, ofVal_nil, NF0, NF1, ldop, lda, hwq, e10, e7, nb1, ap1, ob1, vl1]
        refine Ev.cut (fin [ins.a] v1 s11 _ (by intro r; simp [nextS, h7']) I1 (by simp) ka1 (by simp [upd_some, l5]) (by simp [upd_some, l6]) (by simp only [upd_some, Nat.reduceEqDiff, ↓reduceIte]; rw [hy]) (by simp [upd_some]) (by simp [upd_some]) (by simp [upd_some])) ?_
        rintro ex e' σ' (⟨rfl, xs', b1, b2, b3, b4, b5, b6⟩ | ⟨rfl, ht4, hk9, hng⟩) hfr
        · have f44 : e' 44 = .int .i64 (q : Nat) := (hfr 44 (by decide)).trans (by simp [upd_some, h44])
          have f9 : e' 9 = .bool true := (hfr 9 (by decide)).trans (by simp [upd_some])
          simp only [k26_a, WK, vop, evAll, evOpt, evParts, vbuiltin, vun, vextract, Nat.reduceLT, Nat.reduceEqDiff, ↓reduceIte, reduceCtorEq, Nat.reduceAdd, Int.reduceLT, Int.reduceNeg, valloc_std, noSB, vhot, f44, hwq]
          exact cont xs' σ' _ _ rfl f9 (done [ins.a] xs' (by intro r; simp [nextS, h7']) b1 b5 b6) b2 ((((H88.keep k9).keep k10).keep ka1).keepX b3 (by omega)) ((hk10.trans ka1).overX2 b3 (Nat.le_refl _)) b4
        · simp only [WK, vop, evAll, evOpt, evParts, vbuiltin, vun, vextract, Nat.reduceLT, Nat.reduceEqDiff, ↓reduceIte, reduceCtorEq, Nat.reduceAdd, Int.reduceLT, Int.reduceNeg, valloc_std, noSB, vhot, ht4]
          exact ⟨false, rfl, k13.trans ((hk10.trans ka1).overX2 hk9 (Nat.le_refl _)), iff_of_false (by decide) hng⟩
      have e7 : (ins.op = 7) = False := eq_false h7'
      by_cases h8' : ins.op = 8
      · have e8 : (ins.op = 8) = True := eq_true h8'
        obtain ⟨v1, s11, ap1, O1, ka1, ob1⟩ := intsApp (σ0 := s10) (σ := s10) (v := .nils) (xs := []) (by simpa using OwnR.nil) (Keep.refl _) ins.a (by simp)
        obtain ⟨v2, s12, ap2, O2, ka2, ob2⟩ := intsApp (σ0 := s10) O1 ka1 ((q + 1 : Nat) : Int) (by simp)
        have I1 : (v2 = .nils ∧ ([ins.a, ((q + 1 : Nat) : Int)] : List Int) = []) ∨ ∃ p, v2 = .slice p 1 ([ins.a, ((q + 1 : Nat) : Int)].map i64V) [ins.a, ((q + 1 : Nat) : Int)].length := by
          rcases O2.2 with ⟨_, h⟩ | ⟨p, h, _⟩
          · simp at h
          · exact .inr ⟨p, h⟩
        have vl1 : vlen Try.prog 70 v2 = some (.int .i64 (([ins.a, ((q + 1 : Nat) : Int)] : List Int).length : Nat)) := by
          rcases I1 with ⟨_, h⟩ | ⟨p, rfl⟩
          · cases h
          · simp [vlen, IU]
        simp only [k26_a, WK, vop, evAll, evOpt, evParts, vbuiltin, vun, vextract, Nat.reduceLT, Nat.reduceEqDiff, ↓reduceIte, reduceCtorEq, Nat.reduceAdd, Int.reduceLT, Int.reduceNeg, valloc_std, noSB, vhot, l5, w2', w3', FF3', (L s10 hk10).2.1, hhi, ofVal_nil, NF0, NF1, ldop, lda, hwq, e10, e7, e8, decide_false, nb1, ap1, ob1, ap2, ob2, vl1]
        refine Ev.cut (fin [ins.a, ((q + 1 : Nat) : Int)] v2 s12 _ (by intro r; simp [nextS, h8', or_comm]) I1 (by simp) ka2 (by simp [upd_some, l5]) (by simp [upd_some, l6]) (by simp only [upd_some, Nat.reduceEqDiff, ↓reduceIte]; rw [hy]) (by simp [upd_some]) (by simp [upd_some]) (by simp [upd_some])) ?_
        rintro ex e' σ' (⟨rfl, xs', b1, b2, b3, b4, b5, b6⟩ | ⟨rfl, ht4, hk9, hng⟩) hfr
        · have f44 : e' 44 = .int .i64 (q : Nat) := (hfr 44 (by decide)).trans (by simp [upd_some, h44])
          have f9 : e' 9 = .bool true := (hfr 9 (by decide)).trans (by simp [upd_some])
          simp only [k26_a, WK, vop, evAll, evOpt, evParts, vbuiltin, vun, vextract, Nat.reduceLT, Nat.reduceEqDiff, ↓reduceIte, reduceCtorEq, Nat.reduceAdd, Int.reduceLT, Int.reduceNeg, valloc_std, noSB, vhot, f44, hwq]
          exact cont xs' σ' _ _ rfl f9 (done [ins.a, ((q + 1 : Nat) : Int)] xs' (by intro r; simp [nextS, h8', or_comm]) b1 b5 b6) b2 ((((H88.keep k9).keep k10).keep ka2).keepX b3 (by omega)) ((hk10.trans ka2).overX2 b3 (Nat.le_refl _)) b4
        · simp only [WK, vop, evAll, evOpt, evParts, vbuiltin, vun, vextract, Nat.reduceLT, Nat.reduceEqDiff, ↓reduceIte, reduceCtorEq, Nat.reduceAdd, Int.reduceLT, Int.reduceNeg, valloc_std, noSB, vhot, ht4]
          exact ⟨false, rfl, k13.trans ((hk10.trans ka2).overX2 hk9 (Nat.le_refl _)), iff_of_false (by decide) hng⟩
      have e8 : (ins.op = 8) = False := eq_false h8'
      · obtain ⟨v1, s11, ap1, O1, ka1, ob1⟩ := intsApp (σ0 := s10) (σ := s10) (v := .nils) (xs := []) (by simpa using OwnR.nil) (Keep.refl _) ((q + 1 : Nat) : Int) (by simp)
        have I1 : (v1 = .nils ∧ ([((q + 1 : Nat) : Int)] : List Int) = []) ∨ ∃ p, v1 = .slice p 1 ([((q + 1 : Nat) : Int)].map i64V) [((q + 1 : Nat) : Int)].length := by
          rcases O1.2 with ⟨_, h⟩ | ⟨p, h, _⟩
          · simp at h
          · exact .inr ⟨p, h⟩
        have vl1 : vlen Try.prog 70 v1 = some (.int .i64 (([((q + 1 : Nat) : Int)] : List Int).length : Nat)) := by
          rcases I1 with ⟨_, h⟩ | ⟨p, rfl⟩
          · cases h
          · simp [vlen, IU]
        simp only [k26_a, WK, vop, evAll, evOpt, evParts, vbuiltin, vun, vextract, Nat.reduceLT, Nat.reduceEqDiff, ↓reduceIte, reduceCtorEq, Nat.reduceAdd, Int.reduceLT, Int.reduceNeg, valloc_std, noSB, vhot, l5, w2', w3', FF3', (L s10 hk10).2.1, hhi, ofVal_nil, NF0, NF1, ldop, lda, hwq, e10, e7, e8, decide_false, nb1, ap1, ob1, vl1]
        refine Ev.cut (fin [((q + 1 : Nat) : Int)] v1 s11 _ (by intro r; simp [nextS, h10, h7', h8']) I1 (by simp) ka1 (by simp [upd_some, l5]) (by simp [upd_some, l6]) (by simp only [upd_some, Nat.reduceEqDiff, ↓reduceIte]; rw [hy]) (by simp [upd_some]) (by simp [upd_some]) (by simp [upd_some])) ?_
        rintro ex e' σ' (⟨rfl, xs', b1, b2, b3, b4, b5, b6⟩ | ⟨rfl, ht4, hk9, hng⟩) hfr
        · have f44 : e' 44 = .int .i64 (q : Nat) := (hfr 44 (by decide)).trans (by simp [upd_some, h44])
          have f9 : e' 9 = .bool true := (hfr 9 (by decide)).trans (by simp [upd_some])
          simp only [k26_a, WK, vop, evAll, evOpt, evParts, vbuiltin, vun, vextract, Nat.reduceLT, Nat.reduceEqDiff, ↓reduceIte, reduceCtorEq, Nat.reduceAdd, Int.reduceLT, Int.reduceNeg, valloc_std, noSB, vhot, f44, hwq]
          exact cont xs' σ' _ _ rfl f9 (done [((q + 1 : Nat) : Int)] xs' (by intro r; simp [nextS, h10, h7', h8']) b1 b5 b6) b2 ((((H88.keep k9).keep k10).keep ka1).keepX b3 (by omega)) ((hk10.trans ka1).overX2 b3 (Nat.le_refl _)) b4
        · simp only [WK, vop, evAll, evOpt, evParts, vbuiltin, vun, vextract, Nat.reduceLT, Nat.reduceEqDiff, ↓reduceIte, reduceCtorEq, Nat.reduceAdd, Int.reduceLT, Int.reduceNeg, valloc_std, noSB, vhot, ht4]
          exact ⟨false, rfl, k13.trans ((hk10.trans ka1).overX2 hk9 (Nat.le_refl _)), iff_of_false (by decide) hng⟩
    · have hq' : ¬ (q : Int) < (i : Nat) := by omega
      have hqi : q = i := by omega
      simp only [k26_a, WK, vop, evAll, evOpt, evParts, vbuiltin, vun, vextract, Nat.reduceLT, Nat.reduceEqDiff, ↓reduceIte, reduceCtorEq, Nat.reduceAdd, Int.reduceLT, Int.reduceNeg, valloc_std, noSB, vhot, h44, l43, hq']
      refine ⟨(ys, cs, ag), ⟨h9', hJ, H6c, H8c, hcl, hkc, hgy, fun h p hp => ?_⟩, ?_⟩
      · have h1 : p < ys.length := gx_lt hp
        have h2 := hJ.len
        simp only at h
        exact (hf1 h).2 p (by omega) hp
      · simp only
        cases ag with
        | false => simp
        | true => have := hf2 rfl; simp; omega
  obtain ⟨q, σ', h1, b, rfl, h2⟩ := key
  exact ⟨b, σ', h1, h2⟩
end Go.Proofs.Ytplhelapcpcncaa.Q

/- Verify, the program's and the document's. -/
set_option linter.unusedVariables false
set_option linter.unusedSimpArgs false
set_option maxRecDepth 100000
namespace Go.Proofs.Ytplhelapcpcncaa.Q
open Go Go.RowKit Go.Proofs

def HeadBad (m : Mdl) (st : Int) : Prop := 32 < (m.funcs.length : Int) ∨ st < 0 ∨ 32 < st ∨ 16384 < (m.consts.length : Int)
def FunBad (m : Mdl) (f : Fun) : Prop := f.params < 0 ∨ 8 < f.params ∨ f.locals < f.params ∨ 256 < f.locals ∨ f.zero < 0 ∨ (m.consts.length : Int) ≤ f.zero ∨ f.stack < 1 ∨ 256 < f.stack ∨ (f.code.length : Int) < 1 ∨ 16384 < (f.code.length : Int)
def FunOk (m : Mdl) (st : Int) (n : Nat) (f : Fun) : Prop := ¬ FunBad m f ∧ (∀ i ∈ f.code, rightS m st n f i = true) ∧ ∃ h, GoodH m f h
/-- The module can be run. -/
def MdlOk (m : Mdl) (st : Int) : Prop := ¬ HeadBad m st ∧ (∀ v ∈ m.consts, typeC v ≠ []) ∧ ∀ (n : Nat) (h : n < m.funcs.length), FunOk m st n m.funcs[n]

theorem right_call {m : Mdl} {st : Int} {n : Nat} {f : Fun} {i : Ins} (h : rightS m st n f i = true) (h9 : i.op = 9) : 0 ≤ i.a ∧ i.a < n := by
  unfold rightS at h
  rw [h9] at h
  simp [limL, lookI] at h
  omega
theorem right_jump {m : Mdl} {st : Int} {n : Nat} {f : Fun} {i : Ins} (h : rightS m st n f i = true) (h9 : i.op = 7 ∨ i.op = 8) : 0 ≤ i.a ∧ i.a < f.code.length := by
  unfold rightS at h
  rcases h9 with h9 | h9 <;>
  · rw [h9] at h
    simp [limL, lookI] at h
    omega
theorem right_ins {m : Mdl} {st : Int} {n : Nat} {f : Fun} {i : Ins} (h : rightS m st n f i = true) (hn : n ≤ m.funcs.length) (hp : ∀ (j : Nat) (hj : j < m.funcs.length), j < n → 0 ≤ m.funcs[j].params ∧ m.funcs[j].params ≤ 8) :
    callOk m i ∧ 0 ≤ popS m i ∧ popS m i ≤ 8 ∧ (i.op = 7 ∨ i.op = 8 → 0 ≤ i.a ∧ i.a < f.code.length) := by
  have hpop : 0 ≤ popS m i ∧ popS m i ≤ 8 := by
    unfold popS
    split
    · omega
    split
    · omega
    split
    · omega
    split
    · rename_i h9
      obtain ⟨a, b⟩ := right_call h h9
      have hlt : i.a.toNat < m.funcs.length := by omega
      rw [List.getElem?_eq_getElem hlt]
      exact hp _ hlt (by omega)
    · omega
  exact ⟨fun h9 => by have := right_call h h9; omega, hpop.1, hpop.2, right_jump h⟩
theorem FF2' (r o : Nat) : vfieldAddr Try.prog 37 (.optr r o) 2 = some (.optr r (o + 2)) := by kernel_rfl

theorem cverify_does {σ : St} {m : Mdl} {c : List V} (hm : MdlS σ m c) (st : Int) (hw : ∀ v ∈ m.consts, weight v ≤ 4294967296) :
    ∃ z σ', Does Try.prog prims 12 [.agg c, .int .i64 st] σ (.ret (.int .i64 z)) σ' ∧ Keep σ σ' ∧ ((z = 0 ∧ MdlOk m st) ∨ (z = 40 ∧ ¬ MdlOk m st)) := by
  have key : ∃ q σ', Does Try.prog prims 12 [.agg c, .int .i64 st] σ q σ' ∧ ∃ z, q = .ret (.int .i64 z) ∧ Keep σ σ' ∧ ((z = 0 ∧ MdlOk m st) ∨ (z = 40 ∧ ¬ MdlOk m st)) := by
    apply k12_is.does (by simp)
    have hm0 := hm
    obtain ⟨w1, w2, hc, hv, hf⟩ := hm
    obtain ⟨s1, hs1⟩ : ∃ s1 : St, s1 = ⟨σ.objs ++ [Ob.cells c], σ.toks⟩ := ⟨_, rfl⟩
    have k1 : Keep σ s1 := by rw [hs1]; exact (Keep.refl σ).push _
    have o1 : s1.objs[σ.objs.length]? = some (.cells c) := by rw [hs1]; exact push_new _ _
    have L : ∀ s', Keep s1 s' → vload Try.prog s'.objs 25 (.optr σ.objs.length 0) = some (.agg c) ∧ vload Try.prog s'.objs 22 (.optr σ.objs.length 0) = some w1 ∧ vload Try.prog s'.objs 23 (.optr σ.objs.length 1) = some w2 := by
      intro s' hk
      have e1 := hk.1 _ _ o1
      exact ⟨vload_agg e1 MG (by rw [hm0.len]; exact MS), by rw [vload_obj e1 VsG, hc]; rfl, by rw [vload_obj e1 FsG, hc]; rfl⟩
    have lf : vlen Try.prog 23 w2 = some (.int .i64 (m.funcs.length : Nat)) := by obtain ⟨cs, hr, _⟩ := hf; exact hr.len FT
    have lv := hv.len
    rcases (((Classical.em (32 < (m.funcs.length : Int))).elim (fun h0 => Or.inl h0) (fun h0 => Or.inr ((Classical.em (st < 0)).elim (fun h1 => Or.inl ⟨h0, h1⟩) (fun h1 => Or.inr ((Classical.em (32 < st)).elim (fun h2 => Or.inl ⟨h0, h1, h2⟩) (fun h2 => Or.inr ((Classical.em (16384 < (m.consts.length : Int))).elim (fun h3 => Or.inl ⟨h0, h1, h2, h3⟩) (fun h3 => Or.inr (⟨h0, h1, h2, h3⟩))))))))) : ((32 < (m.funcs.length : Int)) ∨ ¬ (32 < (m.funcs.length : Int)) ∧ (st < 0) ∨ ¬ (32 < (m.funcs.length : Int)) ∧ ¬ (st < 0) ∧ (32 < st) ∨ ¬ (32 < (m.funcs.length : Int)) ∧ ¬ (st < 0) ∧ ¬ (32 < st) ∧ (16384 < (m.consts.length : Int)) ∨ ¬ (32 < (m.funcs.length : Int)) ∧ ¬ (st < 0) ∧ ¬ (32 < st) ∧ ¬ (16384 < (m.consts.length : Int)))) with h | h | h | h | h
    all_goals
      simp only [k12_a, WK, vop, evAll, evOpt, evParts, vbuiltin, vun, vextract, Nat.reduceLT, Nat.reduceEqDiff, ↓reduceIte, reduceCtorEq, Nat.reduceAdd, Int.reduceLT, Int.reduceNeg, valloc_std, noSB, vhot, List.getD_cons_zero, List.getD_cons_succ, vbox, vcells, ← hs1, MF0, MF1, (L s1 (Keep.refl _)).2.1, (L s1 (Keep.refl _)).2.2, lf, lv, h]
    case' inr.inr.inr.inr =>
      skip
    all_goals first
      | exact ⟨40, rfl, k1, .inr ⟨rfl, fun hok => hok.1 (by unfold HeadBad; omega)⟩⟩
      | skip
    have hhead : ¬ HeadBad m st := by unfold HeadBad; omega
    have hfl : m.funcs.length ≤ 32 := by omega
    have hvl : m.consts.length ≤ 16384 := by omega
    clear h
    refine Ev.loopF (fun (i : Nat) e σ' => e 32 = .int .i64 (i : Nat) ∧ i ≤ m.consts.length ∧ Keep s1 σ' ∧ ∀ v ∈ m.consts.take i, typeC v ≠ []) (fun i => m.consts.length - i) 0 ⟨by simp [upd_some], Nat.zero_le _, Keep.refl _, by simp⟩ ?_
    rintro i e σ' ⟨h32, hi, hk, hT⟩ hfr
    have g1 : e 1 = .int .i64 st := (hfr 1 (by decide)).trans (by simp [upd_some])
    have g2 : e 2 = .optr σ.objs.length 0 := (hfr 2 (by decide)).trans (by simp [upd_some])
    have g30 : e 30 = w1 := (hfr 30 (by decide)).trans (by simp [upd_some])
    have g31 : e 31 = .int .i64 (m.consts.length : Nat) := (hfr 31 (by decide)).trans (by simp [upd_some])
    clear hfr
    by_cases hlt : i < m.consts.length
    · have hlt' : (i : Int) < (m.consts.length : Nat) := by omega
      have hwi : IntKind.i64.wrap ((i : Int) + 1) = ((i + 1 : Nat) : Int) := by rw [show ((i : Int) + 1) = ((i + 1 : Nat) : Int) from by omega]; exact wrap_nat (by omega)
      obtain ⟨ccs, cv, hva, hvl', hvc⟩ := hv.get hlt
      obtain ⟨s2, hs2⟩ : ∃ s2 : St, s2 = ⟨(σ'.objs ++ [Ob.cells val0C]).set σ'.objs.length (Ob.cells cv), σ'.toks⟩ := ⟨_, rfl⟩
      have q2 : IsV s2 σ'.objs.length cv := by rw [hs2]; exact IsV.made
      have k2 : Keep σ' s2 := by rw [hs2]; exact (Keep.refl σ').madeV _ _
      have st2 := IsV.new (σ := σ') (o := val0C) hvc.len rfl hvc.one
      rw [← hs2] at st2
      obtain ⟨s3, d3, k3⟩ := ctype_does (σ := s2) (hw _ (List.getElem_mem hlt)) hvc
      simp only [k12_a, WK, vop, evAll, evOpt, evParts, vbuiltin, vun, vextract, Nat.reduceLT, Nat.reduceEqDiff, ↓reduceIte, reduceCtorEq, Nat.reduceAdd, Int.reduceLT, Int.reduceNeg, valloc_std, noSB, vhot, h32, g30, g31, hlt', hva, hvl', VZ24, vbox, vcells, st2, q2.load hvc.len]
      refine KD.ret d3 ?_
      by_cases ht : typeC m.consts[i] = []
      · simp only [k12_a, WK, vop, evAll, evOpt, evParts, vbuiltin, vun, vextract, Nat.reduceLT, Nat.reduceEqDiff, ↓reduceIte, reduceCtorEq, Nat.reduceAdd, Int.reduceLT, Int.reduceNeg, valloc_std, noSB, vhot, ofVal_t0, strBin, ht]
        exact ⟨40, rfl, ((k1.trans hk).trans k2).trans k3, .inr ⟨rfl, fun hok => hok.2.1 _ (List.getElem_mem hlt) ht⟩⟩
      · simp only [k12_a, WK, vop, evAll, evOpt, evParts, vbuiltin, vun, vextract, Nat.reduceLT, Nat.reduceEqDiff, ↓reduceIte, reduceCtorEq, Nat.reduceAdd, Int.reduceLT, Int.reduceNeg, valloc_std, noSB, vhot, ofVal_t0, strBin, ht, h32, hwi]
        refine ⟨i + 1, ⟨by simp [upd_some], by omega, (hk.trans k2).trans k3, fun v hv => ?_⟩, by omega⟩
        rw [List.take_succ_eq_append_getElem hlt, List.mem_append, List.mem_singleton] at hv
        rcases hv with hv | rfl
        · exact hT v hv
        · exact ht
    have hlt' : ¬ (i : Int) < (m.consts.length : Nat) := by omega
    have hTy : ∀ v ∈ m.consts, typeC v ≠ [] := by rw [List.take_of_length_le (by omega)] at hT; exact hT
    simp only [k12_a, WK, vop, evAll, evOpt, evParts, vbuiltin, vun, vextract, Nat.reduceLT, Nat.reduceEqDiff, ↓reduceIte, reduceCtorEq, Nat.reduceAdd, Int.reduceLT, Int.reduceNeg, valloc_std, noSB, vhot, h32, g2, g31, hlt', MF1, (L σ' hk).2.2, lf]
    refine Ev.loopF (fun (n : Nat) e σ' => e 43 = .int .i64 (n : Nat) ∧ n ≤ m.funcs.length ∧ Keep s1 σ' ∧ ∀ (j : Nat) (hj : j < m.funcs.length), j < n → FunOk m st j m.funcs[j]) (fun n => m.funcs.length - n) 0 ⟨by simp [upd_some], Nat.zero_le _, hk, fun j hj h => by omega⟩ ?_
    rintro n e2 sb ⟨h43, hn, hkb, hF⟩ hfr
    have j1 : e2 1 = .int .i64 st := (hfr 1 (by decide)).trans (by simp [upd_some, g1])
    have j2 : e2 2 = .optr σ.objs.length 0 := (hfr 2 (by decide)).trans (by simp [upd_some, g2])
    have j41 : e2 41 = w2 := (hfr 41 (by decide)).trans (by simp [upd_some])
    have j42 : e2 42 = .int .i64 (m.funcs.length : Nat) := (hfr 42 (by decide)).trans (by simp [upd_some])
    clear hfr
    by_cases hnl : n < m.funcs.length
    · have hnl' : (n : Int) < (m.funcs.length : Nat) := by omega
      have hwn : IntKind.i64.wrap ((n : Int) + 1) = ((n + 1 : Nat) : Int) := by rw [show ((n : Int) + 1) = ((n + 1 : Nat) : Int) from by omega]; exact wrap_nat (by omega)
      obtain ⟨p, cf, hp, hFS, hpl⟩ := fun_load hf hnl
      obtain ⟨s2, s3, wc, hs2, st3, k3, o3, hcode, hl3⟩ := funmade sb hFS (k1.trans hkb)
      obtain ⟨f, hfe⟩ : ∃ f, f = m.funcs[n] := ⟨_, rfl⟩
      rw [← hfe] at hFS o3 hcode
      have lc : vlen Try.prog 35 wc = some (.int .i64 (f.code.length : Nat)) := RowS.len hcode NT
      have hk3 := hkb.trans k3
      have L3 : ∀ s', Keep s3 s' → vload Try.prog s'.objs 3 (.optr sb.objs.length 0) = some (.int .i64 f.params) ∧ vload Try.prog s'.objs 3 (.optr sb.objs.length 1) = some (.int .i64 f.locals) ∧ vload Try.prog s'.objs 3 (.optr sb.objs.length 2) = some (.int .i64 f.zero) ∧ vload Try.prog s'.objs 3 (.optr sb.objs.length 3) = some (.int .i64 f.stack) ∧ vload Try.prog s'.objs 35 (.optr sb.objs.length 4) = some wc := by
        intro s' hk
        have e3 := hk.1 _ _ o3
        exact ⟨by rw [vload_obj e3 G3]; rfl, by rw [vload_obj e3 G3]; rfl, by rw [vload_obj e3 G3]; rfl, by rw [vload_obj e3 G3]; rfl, by rw [vload_obj e3 NsG]; rfl⟩
      obtain ⟨f0, f1, f2, f3, f4⟩ := L3 s3 (Keep.refl _)
      have badF : FunBad m f → ¬ MdlOk m st := fun hb hok => (hok.2.2 n hnl).1 (by rw [← hfe]; exact hb)
      rcases (((Classical.em (f.params < 0)).elim (fun h0 => Or.inl h0) (fun h0 => Or.inr ((Classical.em (8 < f.params)).elim (fun h1 => Or.inl ⟨h0, h1⟩) (fun h1 => Or.inr ((Classical.em (f.locals < f.params)).elim (fun h2 => Or.inl ⟨h0, h1, h2⟩) (fun h2 => Or.inr ((Classical.em (256 < f.locals)).elim (fun h3 => Or.inl ⟨h0, h1, h2, h3⟩) (fun h3 => Or.inr ((Classical.em (f.zero < 0)).elim (fun h4 => Or.inl ⟨h0, h1, h2, h3, h4⟩) (fun h4 => Or.inr ((Classical.em ((m.consts.length : Int) ≤ f.zero)).elim (fun h5 => Or.inl ⟨h0, h1, h2, h3, h4, h5⟩) (fun h5 => Or.inr ((Classical.em (f.stack < 1)).elim (fun h6 => Or.inl ⟨h0, h1, h2, h3, h4, h5, h6⟩) (fun h6 => Or.inr ((Classical.em (256 < f.stack)).elim (fun h7 => Or.inl ⟨h0, h1, h2, h3, h4, h5, h6, h7⟩) (fun h7 => Or.inr ((Classical.em ((f.code.length : Int) < 1)).elim (fun h8 => Or.inl ⟨h0, h1, h2, h3, h4, h5, h6, h7, h8⟩) (fun h8 => Or.inr ((Classical.em (16384 < (f.code.length : Int))).elim (fun h9 => Or.inl ⟨h0, h1, h2, h3, h4, h5, h6, h7, h8, h9⟩) (fun h9 => Or.inr (⟨h0, h1, h2, h3, h4, h5, h6, h7, h8, h9⟩))))))))))))))))))))) : ((f.params < 0) ∨ ¬ (f.params < 0) ∧ (8 < f.params) ∨ ¬ (f.params < 0) ∧ ¬ (8 < f.params) ∧ (f.locals < f.params) ∨ ¬ (f.params < 0) ∧ ¬ (8 < f.params) ∧ ¬ (f.locals < f.params) ∧ (256 < f.locals) ∨ ¬ (f.params < 0) ∧ ¬ (8 < f.params) ∧ ¬ (f.locals < f.params) ∧ ¬ (256 < f.locals) ∧ (f.zero < 0) ∨ ¬ (f.params < 0) ∧ ¬ (8 < f.params) ∧ ¬ (f.locals < f.params) ∧ ¬ (256 < f.locals) ∧ ¬ (f.zero < 0) ∧ ((m.consts.length : Int) ≤ f.zero) ∨ ¬ (f.params < 0) ∧ ¬ (8 < f.params) ∧ ¬ (f.locals < f.params) ∧ ¬ (256 < f.locals) ∧ ¬ (f.zero < 0) ∧ ¬ ((m.consts.length : Int) ≤ f.zero) ∧ (f.stack < 1) ∨ ¬ (f.params < 0) ∧ ¬ (8 < f.params) ∧ ¬ (f.locals < f.params) ∧ ¬ (256 < f.locals) ∧ ¬ (f.zero < 0) ∧ ¬ ((m.consts.length : Int) ≤ f.zero) ∧ ¬ (f.stack < 1) ∧ (256 < f.stack) ∨ ¬ (f.params < 0) ∧ ¬ (8 < f.params) ∧ ¬ (f.locals < f.params) ∧ ¬ (256 < f.locals) ∧ ¬ (f.zero < 0) ∧ ¬ ((m.consts.length : Int) ≤ f.zero) ∧ ¬ (f.stack < 1) ∧ ¬ (256 < f.stack) ∧ ((f.code.length : Int) < 1) ∨ ¬ (f.params < 0) ∧ ¬ (8 < f.params) ∧ ¬ (f.locals < f.params) ∧ ¬ (256 < f.locals) ∧ ¬ (f.zero < 0) ∧ ¬ ((m.consts.length : Int) ≤ f.zero) ∧ ¬ (f.stack < 1) ∧ ¬ (256 < f.stack) ∧ ¬ ((f.code.length : Int) < 1) ∧ (16384 < (f.code.length : Int)) ∨ ¬ (f.params < 0) ∧ ¬ (8 < f.params) ∧ ¬ (f.locals < f.params) ∧ ¬ (256 < f.locals) ∧ ¬ (f.zero < 0) ∧ ¬ ((m.consts.length : Int) ≤ f.zero) ∧ ¬ (f.stack < 1) ∧ ¬ (256 < f.stack) ∧ ¬ ((f.code.length : Int) < 1) ∧ ¬ (16384 < (f.code.length : Int)))) with h | h | h | h | h | h | h | h | h | h | h
      all_goals
        simp only [k12_a, WK, vop, evAll, evOpt, evParts, vbuiltin, vun, vextract, Nat.reduceLT, Nat.reduceEqDiff, ↓reduceIte, reduceCtorEq, Nat.reduceAdd, Int.reduceLT, Int.reduceNeg, valloc_std, noSB, vhot, h43, j41, j42, hnl', hp, hpl sb (k1.trans hkb), FZ, vbox, vcells, ← hs2, st3, FFp, FF1', FF2', FF3', FF4', f0, f1, f2, f3, f4, j2, MF0, (L s3 hk3).2.1, lv, lc, h]
      all_goals first
        | exact ⟨40, rfl, k1.trans hk3, .inr ⟨rfl, badF (by unfold FunBad; omega)⟩⟩
        | skip
      have hgood : ¬ FunBad m f := by unfold FunBad; omega
      have hcl : 1 ≤ f.code.length ∧ f.code.length ≤ 16384 := by omega
      have hst : f.stack ≤ 256 := by omega
      clear h
      refine Ev.loopF (fun (q : Nat) e σ' => e 106 = .int .i64 (q : Nat) ∧ q ≤ f.code.length ∧ Keep s3 σ' ∧ ∀ i ∈ f.code.take q, rightS m st n f i = true) (fun q => f.code.length - q) 0 ⟨by simp [upd_some], Nat.zero_le _, Keep.refl _, by simp⟩ ?_
      rintro q e3 sc ⟨h106, hq, hkc, hR⟩ hfr
      have l1 : e3 1 = .int .i64 st := (hfr 1 (by decide)).trans (by simp [upd_some, j1])
      have l2 : e3 2 = .optr σ.objs.length 0 := (hfr 2 (by decide)).trans (by simp [upd_some, j2])
      have l7 : e3 7 = .int .i64 (n : Nat) := (hfr 7 (by decide)).trans (by simp [upd_some])
      have l43 : e3 43 = .int .i64 (n : Nat) := (hfr 43 (by decide)).trans (by simp [upd_some, h43])
      have l104 : e3 104 = wc := (hfr 104 (by decide)).trans (by simp [upd_some])
      have l105 : e3 105 = .int .i64 (f.code.length : Nat) := (hfr 105 (by decide)).trans (by simp [upd_some])
      clear hfr
      by_cases hql : q < f.code.length
      · have hql' : (q : Int) < (f.code.length : Nat) := by omega
        have hwq : IntKind.i64.wrap ((q : Int) + 1) = ((q + 1 : Nat) : Int) := by rw [show ((q : Int) + 1) = ((q + 1 : Nat) : Int) from by omega]; exact wrap_nat (by omega)
        obtain ⟨pc, hpc, hlc⟩ := code_load hcode hql
        obtain ⟨ins, hine⟩ : ∃ ins, ins = f.code[q] := ⟨_, rfl⟩
        obtain ⟨s6, s7, hs6, st7, k7, o7, l7'⟩ := insmade sc ins
        have ldi : vload Try.prog s7.objs 39 (.optr sc.objs.length 0) = some (.agg (insC ins)) := vload_agg o7 NG NS
        have hlcb := hlc sc ((k1.trans hk3).trans hkc)
        rw [← hine] at hlcb
        have hk7 := (hk3.trans hkc).trans k7
        obtain ⟨s8, d8, k8⟩ := right_does (hm0.keep (k1.trans hk7)) st hnl ins
        rw [← hfe] at d8
        simp only [k12_a, WK, vop, evAll, evOpt, evParts, vbuiltin, vun, vextract, Nat.reduceLT, Nat.reduceEqDiff, ↓reduceIte, reduceCtorEq, Nat.reduceAdd, Int.reduceLT, Int.reduceNeg, valloc_std, noSB, vhot, h106, l104, l105, hql', hpc, hlcb, NZ, vbox, vcells, ← hs6, st7, l1, l2, l7, (L s7 hk7).1, ldi]
        refine KD.ret d8 ?_
        cases hr : rightS m st n f ins with
        | false =>
          simp only [k12_a, WK, vop, evAll, evOpt, evParts, vbuiltin, vun, vextract, Nat.reduceLT, Nat.reduceEqDiff, ↓reduceIte, reduceCtorEq, Nat.reduceAdd, Int.reduceLT, Int.reduceNeg, valloc_std, noSB, vhot]
          exact ⟨40, rfl, (k1.trans hk7).trans k8, .inr ⟨rfl, fun hok => by
            have := (hok.2.2 n hnl).2.1 ins (by rw [← hfe, hine]; exact List.getElem_mem _)
            rw [← hfe, hr] at this
            cases this⟩⟩
        | true =>
          simp only [k12_a, WK, vop, evAll, evOpt, evParts, vbuiltin, vun, vextract, Nat.reduceLT, Nat.reduceEqDiff, ↓reduceIte, reduceCtorEq, Nat.reduceAdd, Int.reduceLT, Int.reduceNeg, valloc_std, noSB, vhot, h106, hwq]
          refine ⟨q + 1, ⟨by simp [upd_some], by omega, (hkc.trans k7).trans k8, fun i hi => ?_⟩, by omega⟩
          rw [List.take_succ_eq_append_getElem hql, List.mem_append, List.mem_singleton] at hi
          rcases hi with hi | rfl
          · exact hR i hi
          · rw [← hine]; exact hr
      have hql' : ¬ (q : Int) < (f.code.length : Nat) := by omega
      have hRa : ∀ i ∈ f.code, rightS m st n f i = true := by rw [List.take_of_length_le (by omega)] at hR; exact hR
      have hins : ∀ (p : Nat) (hp : p < f.code.length), callOk m f.code[p] ∧ 0 ≤ popS m f.code[p] ∧ popS m f.code[p] ≤ 8 ∧ (f.code[p].op = 7 ∨ f.code[p].op = 8 → 0 ≤ f.code[p].a ∧ f.code[p].a < f.code.length) := fun p hp =>
        right_ins (hRa _ (List.getElem_mem hp)) (by omega) fun j hj hjn => by
          have := (hF j hj hjn).1
          unfold FunBad at this
          omega
      have hkc' := hk3.trans hkc
      obtain ⟨b, s9, d9, k9, hb⟩ := heights_does (hm0.keep (k1.trans hkc')) hnl (by rw [← hfe]; exact hcl) (by rw [← hfe]; exact hst) (by rw [← hfe]; exact hins)
      rw [← hfe] at hb
      simp only [k12_a, WK, vop, evAll, evOpt, evParts, vbuiltin, vun, vextract, Nat.reduceLT, Nat.reduceEqDiff, ↓reduceIte, reduceCtorEq, Nat.reduceAdd, Int.reduceLT, Int.reduceNeg, valloc_std, noSB, vhot, h106, l105, hql', l2, l7, (L sc hkc').1]
      refine KD.ret d9 ?_
      cases b with
      | false =>
        simp only [k12_a, WK, vop, evAll, evOpt, evParts, vbuiltin, vun, vextract, Nat.reduceLT, Nat.reduceEqDiff, ↓reduceIte, reduceCtorEq, Nat.reduceAdd, Int.reduceLT, Int.reduceNeg, valloc_std, noSB, vhot]
        exact ⟨40, rfl, (k1.trans hkc').trans k9, .inr ⟨rfl, fun hok => by
          have := (hok.2.2 n hnl).2.2
          rw [← hfe] at this
          exact absurd (hb.2 this) (by decide)⟩⟩
      | true =>
        simp only [k12_a, WK, vop, evAll, evOpt, evParts, vbuiltin, vun, vextract, Nat.reduceLT, Nat.reduceEqDiff, ↓reduceIte, reduceCtorEq, Nat.reduceAdd, Int.reduceLT, Int.reduceNeg, valloc_std, noSB, vhot, l43, hwn]
        refine ⟨n + 1, ⟨by simp [upd_some], by omega, hkc'.trans k9, fun j hj hjn => ?_⟩, by omega⟩
        by_cases hjn' : j < n
        · exact hF j hj hjn'
        · have : j = n := by omega
          subst this
          rw [← hfe]
          exact ⟨hgood, hRa, hb.1 rfl⟩
    have hnl' : ¬ (n : Int) < (m.funcs.length : Nat) := by omega
    simp only [k12_a, WK, vop, evAll, evOpt, evParts, vbuiltin, vun, vextract, Nat.reduceLT, Nat.reduceEqDiff, ↓reduceIte, reduceCtorEq, Nat.reduceAdd, Int.reduceLT, Int.reduceNeg, valloc_std, noSB, vhot, h43, j42, hnl']
    exact ⟨0, rfl, k1.trans hkb, .inl ⟨rfl, hhead, hTy, fun j hj => hF j hj (by omega)⟩⟩
  obtain ⟨q, σ', h1, z, rfl, h2⟩ := key
  exact ⟨z, σ', h1, h2⟩

theorem crefverify_does {σ : St} {m : Mdl} {c : List V} (hm : MdlS σ m c) (st : Int) (hw : ∀ v ∈ m.consts, weight v ≤ 4294967296) :
    ∃ z σ', Does Try.prog prims 13 [.agg c, .int .i64 st] σ (.ret (.int .i64 z)) σ' ∧ Keep σ σ' ∧ ((z = 0 ∧ MdlOk m st) ∨ (z = 40 ∧ ¬ MdlOk m st)) := by
  have key : ∃ q σ', Does Try.prog prims 13 [.agg c, .int .i64 st] σ q σ' ∧ ∃ z, q = .ret (.int .i64 z) ∧ Keep σ σ' ∧ ((z = 0 ∧ MdlOk m st) ∨ (z = 40 ∧ ¬ MdlOk m st)) := by
    apply k13_is.does (by simp)
    have hm0 := hm
    obtain ⟨w1, w2, hc, hv, hf⟩ := hm
    obtain ⟨s1, hs1⟩ : ∃ s1 : St, s1 = ⟨σ.objs ++ [Ob.cells c], σ.toks⟩ := ⟨_, rfl⟩
    have k1 : Keep σ s1 := by rw [hs1]; exact (Keep.refl σ).push _
    have o1 : s1.objs[σ.objs.length]? = some (.cells c) := by rw [hs1]; exact push_new _ _
    have L : ∀ s', Keep s1 s' → vload Try.prog s'.objs 25 (.optr σ.objs.length 0) = some (.agg c) ∧ vload Try.prog s'.objs 22 (.optr σ.objs.length 0) = some w1 ∧ vload Try.prog s'.objs 23 (.optr σ.objs.length 1) = some w2 := by
      intro s' hk
      have e1 := hk.1 _ _ o1
      exact ⟨vload_agg e1 MG (by rw [hm0.len]; exact MS), by rw [vload_obj e1 VsG, hc]; rfl, by rw [vload_obj e1 FsG, hc]; rfl⟩
    have lf : vlen Try.prog 23 w2 = some (.int .i64 (m.funcs.length : Nat)) := by obtain ⟨cs, hr, _⟩ := hf; exact hr.len FT
    have lv := hv.len
    rcases (((Classical.em (st < 0)).elim (fun h0 => Or.inl h0) (fun h0 => Or.inr ((Classical.em (32 < st)).elim (fun h1 => Or.inl ⟨h0, h1⟩) (fun h1 => Or.inr ((Classical.em (32 < (m.funcs.length : Int))).elim (fun h2 => Or.inl ⟨h0, h1, h2⟩) (fun h2 => Or.inr ((Classical.em (16384 < (m.consts.length : Int))).elim (fun h3 => Or.inl ⟨h0, h1, h2, h3⟩) (fun h3 => Or.inr (⟨h0, h1, h2, h3⟩))))))))) : ((st < 0) ∨ ¬ (st < 0) ∧ (32 < st) ∨ ¬ (st < 0) ∧ ¬ (32 < st) ∧ (32 < (m.funcs.length : Int)) ∨ ¬ (st < 0) ∧ ¬ (32 < st) ∧ ¬ (32 < (m.funcs.length : Int)) ∧ (16384 < (m.consts.length : Int)) ∨ ¬ (st < 0) ∧ ¬ (32 < st) ∧ ¬ (32 < (m.funcs.length : Int)) ∧ ¬ (16384 < (m.consts.length : Int)))) with h | h | h | h | h
    all_goals
      simp only [k13_a, WK, vop, evAll, evOpt, evParts, vbuiltin, vun, vextract, Nat.reduceLT, Nat.reduceEqDiff, ↓reduceIte, reduceCtorEq, Nat.reduceAdd, Int.reduceLT, Int.reduceNeg, valloc_std, noSB, vhot, List.getD_cons_zero, List.getD_cons_succ, vbox, vcells, ← hs1, MF0, MF1, (L s1 (Keep.refl _)).2.1, (L s1 (Keep.refl _)).2.2, lf, lv, h]
    case' inr.inr.inr.inr =>
      skip
    all_goals first
      | exact ⟨40, rfl, k1, .inr ⟨rfl, fun hok => hok.1 (by unfold HeadBad; omega)⟩⟩
      | skip
    have hhead : ¬ HeadBad m st := by unfold HeadBad; omega
    have hfl : m.funcs.length ≤ 32 := by omega
    have hvl : m.consts.length ≤ 16384 := by omega
    clear h
    refine Ev.loopF (fun (i : Nat) e σ' => e 32 = .int .i64 (i : Nat) ∧ i ≤ m.consts.length ∧ Keep s1 σ' ∧ ∀ v ∈ m.consts.take i, typeC v ≠ []) (fun i => m.consts.length - i) 0 ⟨by simp [upd_some], Nat.zero_le _, Keep.refl _, by simp⟩ ?_
    rintro i e σ' ⟨h32, hi, hk, hT⟩ hfr
    have g1 : e 1 = .int .i64 st := (hfr 1 (by decide)).trans (by simp [upd_some])
    have g2 : e 2 = .optr σ.objs.length 0 := (hfr 2 (by decide)).trans (by simp [upd_some])
    have g30 : e 30 = w1 := (hfr 30 (by decide)).trans (by simp [upd_some])
    have g31 : e 31 = .int .i64 (m.consts.length : Nat) := (hfr 31 (by decide)).trans (by simp [upd_some])
    clear hfr
    by_cases hlt : i < m.consts.length
    · have hlt' : (i : Int) < (m.consts.length : Nat) := by omega
      have hwi : IntKind.i64.wrap ((i : Int) + 1) = ((i + 1 : Nat) : Int) := by rw [show ((i : Int) + 1) = ((i + 1 : Nat) : Int) from by omega]; exact wrap_nat (by omega)
      obtain ⟨ccs, cv, hva, hvl', hvc⟩ := hv.get hlt
      obtain ⟨s2, hs2⟩ : ∃ s2 : St, s2 = ⟨(σ'.objs ++ [Ob.cells val0C]).set σ'.objs.length (Ob.cells cv), σ'.toks⟩ := ⟨_, rfl⟩
      have q2 : IsV s2 σ'.objs.length cv := by rw [hs2]; exact IsV.made
      have k2 : Keep σ' s2 := by rw [hs2]; exact (Keep.refl σ').madeV _ _
      have st2 := IsV.new (σ := σ') (o := val0C) hvc.len rfl hvc.one
      rw [← hs2] at st2
      obtain ⟨s3, d3, k3⟩ := creftype_does (σ := s2) (hw _ (List.getElem_mem hlt)) hvc
      simp only [k13_a, WK, vop, evAll, evOpt, evParts, vbuiltin, vun, vextract, Nat.reduceLT, Nat.reduceEqDiff, ↓reduceIte, reduceCtorEq, Nat.reduceAdd, Int.reduceLT, Int.reduceNeg, valloc_std, noSB, vhot, h32, g30, g31, hlt', hva, hvl', VZ24, vbox, vcells, st2, q2.load hvc.len]
      refine KD.ret d3 ?_
      by_cases ht : typeC m.consts[i] = []
      · simp only [k13_a, WK, vop, evAll, evOpt, evParts, vbuiltin, vun, vextract, Nat.reduceLT, Nat.reduceEqDiff, ↓reduceIte, reduceCtorEq, Nat.reduceAdd, Int.reduceLT, Int.reduceNeg, valloc_std, noSB, vhot, ofVal_t0, strBin, ht]
        exact ⟨40, rfl, ((k1.trans hk).trans k2).trans k3, .inr ⟨rfl, fun hok => hok.2.1 _ (List.getElem_mem hlt) ht⟩⟩
      · simp only [k13_a, WK, vop, evAll, evOpt, evParts, vbuiltin, vun, vextract, Nat.reduceLT, Nat.reduceEqDiff, ↓reduceIte, reduceCtorEq, Nat.reduceAdd, Int.reduceLT, Int.reduceNeg, valloc_std, noSB, vhot, ofVal_t0, strBin, ht, h32, hwi]
        refine ⟨i + 1, ⟨by simp [upd_some], by omega, (hk.trans k2).trans k3, fun v hv => ?_⟩, by omega⟩
        rw [List.take_succ_eq_append_getElem hlt, List.mem_append, List.mem_singleton] at hv
        rcases hv with hv | rfl
        · exact hT v hv
        · exact ht
    have hlt' : ¬ (i : Int) < (m.consts.length : Nat) := by omega
    have hTy : ∀ v ∈ m.consts, typeC v ≠ [] := by rw [List.take_of_length_le (by omega)] at hT; exact hT
    simp only [k13_a, WK, vop, evAll, evOpt, evParts, vbuiltin, vun, vextract, Nat.reduceLT, Nat.reduceEqDiff, ↓reduceIte, reduceCtorEq, Nat.reduceAdd, Int.reduceLT, Int.reduceNeg, valloc_std, noSB, vhot, h32, g2, g31, hlt', MF1, (L σ' hk).2.2, lf]
    refine Ev.loopF (fun (n : Nat) e σ' => e 43 = .int .i64 (n : Nat) ∧ n ≤ m.funcs.length ∧ Keep s1 σ' ∧ ∀ (j : Nat) (hj : j < m.funcs.length), j < n → FunOk m st j m.funcs[j]) (fun n => m.funcs.length - n) 0 ⟨by simp [upd_some], Nat.zero_le _, hk, fun j hj h => by omega⟩ ?_
    rintro n e2 sb ⟨h43, hn, hkb, hF⟩ hfr
    have j1 : e2 1 = .int .i64 st := (hfr 1 (by decide)).trans (by simp [upd_some, g1])
    have j2 : e2 2 = .optr σ.objs.length 0 := (hfr 2 (by decide)).trans (by simp [upd_some, g2])
    have j41 : e2 41 = w2 := (hfr 41 (by decide)).trans (by simp [upd_some])
    have j42 : e2 42 = .int .i64 (m.funcs.length : Nat) := (hfr 42 (by decide)).trans (by simp [upd_some])
    clear hfr
    by_cases hnl : n < m.funcs.length
    · have hnl' : (n : Int) < (m.funcs.length : Nat) := by omega
      have hwn : IntKind.i64.wrap ((n : Int) + 1) = ((n + 1 : Nat) : Int) := by rw [show ((n : Int) + 1) = ((n + 1 : Nat) : Int) from by omega]; exact wrap_nat (by omega)
      obtain ⟨p, cf, hp, hFS, hpl⟩ := fun_load hf hnl
      obtain ⟨s2, s3, wc, hs2, st3, k3, o3, hcode, hl3⟩ := funmade sb hFS (k1.trans hkb)
      obtain ⟨f, hfe⟩ : ∃ f, f = m.funcs[n] := ⟨_, rfl⟩
      rw [← hfe] at hFS o3 hcode
      have lc : vlen Try.prog 35 wc = some (.int .i64 (f.code.length : Nat)) := RowS.len hcode NT
      have hk3 := hkb.trans k3
      have L3 : ∀ s', Keep s3 s' → vload Try.prog s'.objs 3 (.optr sb.objs.length 0) = some (.int .i64 f.params) ∧ vload Try.prog s'.objs 3 (.optr sb.objs.length 1) = some (.int .i64 f.locals) ∧ vload Try.prog s'.objs 3 (.optr sb.objs.length 2) = some (.int .i64 f.zero) ∧ vload Try.prog s'.objs 3 (.optr sb.objs.length 3) = some (.int .i64 f.stack) ∧ vload Try.prog s'.objs 35 (.optr sb.objs.length 4) = some wc := by
        intro s' hk
        have e3 := hk.1 _ _ o3
        exact ⟨by rw [vload_obj e3 G3]; rfl, by rw [vload_obj e3 G3]; rfl, by rw [vload_obj e3 G3]; rfl, by rw [vload_obj e3 G3]; rfl, by rw [vload_obj e3 NsG]; rfl⟩
      obtain ⟨f0, f1, f2, f3, f4⟩ := L3 s3 (Keep.refl _)
      have badF : FunBad m f → ¬ MdlOk m st := fun hb hok => (hok.2.2 n hnl).1 (by rw [← hfe]; exact hb)
      rcases (((Classical.em (f.params < 0)).elim (fun h0 => Or.inl h0) (fun h0 => Or.inr ((Classical.em (8 < f.params)).elim (fun h1 => Or.inl ⟨h0, h1⟩) (fun h1 => Or.inr ((Classical.em (f.locals < f.params)).elim (fun h2 => Or.inl ⟨h0, h1, h2⟩) (fun h2 => Or.inr ((Classical.em (256 < f.locals)).elim (fun h3 => Or.inl ⟨h0, h1, h2, h3⟩) (fun h3 => Or.inr ((Classical.em (f.zero < 0)).elim (fun h4 => Or.inl ⟨h0, h1, h2, h3, h4⟩) (fun h4 => Or.inr ((Classical.em ((m.consts.length : Int) ≤ f.zero)).elim (fun h5 => Or.inl ⟨h0, h1, h2, h3, h4, h5⟩) (fun h5 => Or.inr ((Classical.em (f.stack < 1)).elim (fun h6 => Or.inl ⟨h0, h1, h2, h3, h4, h5, h6⟩) (fun h6 => Or.inr ((Classical.em (256 < f.stack)).elim (fun h7 => Or.inl ⟨h0, h1, h2, h3, h4, h5, h6, h7⟩) (fun h7 => Or.inr ((Classical.em ((f.code.length : Int) < 1)).elim (fun h8 => Or.inl ⟨h0, h1, h2, h3, h4, h5, h6, h7, h8⟩) (fun h8 => Or.inr ((Classical.em (16384 < (f.code.length : Int))).elim (fun h9 => Or.inl ⟨h0, h1, h2, h3, h4, h5, h6, h7, h8, h9⟩) (fun h9 => Or.inr (⟨h0, h1, h2, h3, h4, h5, h6, h7, h8, h9⟩))))))))))))))))))))) : ((f.params < 0) ∨ ¬ (f.params < 0) ∧ (8 < f.params) ∨ ¬ (f.params < 0) ∧ ¬ (8 < f.params) ∧ (f.locals < f.params) ∨ ¬ (f.params < 0) ∧ ¬ (8 < f.params) ∧ ¬ (f.locals < f.params) ∧ (256 < f.locals) ∨ ¬ (f.params < 0) ∧ ¬ (8 < f.params) ∧ ¬ (f.locals < f.params) ∧ ¬ (256 < f.locals) ∧ (f.zero < 0) ∨ ¬ (f.params < 0) ∧ ¬ (8 < f.params) ∧ ¬ (f.locals < f.params) ∧ ¬ (256 < f.locals) ∧ ¬ (f.zero < 0) ∧ ((m.consts.length : Int) ≤ f.zero) ∨ ¬ (f.params < 0) ∧ ¬ (8 < f.params) ∧ ¬ (f.locals < f.params) ∧ ¬ (256 < f.locals) ∧ ¬ (f.zero < 0) ∧ ¬ ((m.consts.length : Int) ≤ f.zero) ∧ (f.stack < 1) ∨ ¬ (f.params < 0) ∧ ¬ (8 < f.params) ∧ ¬ (f.locals < f.params) ∧ ¬ (256 < f.locals) ∧ ¬ (f.zero < 0) ∧ ¬ ((m.consts.length : Int) ≤ f.zero) ∧ ¬ (f.stack < 1) ∧ (256 < f.stack) ∨ ¬ (f.params < 0) ∧ ¬ (8 < f.params) ∧ ¬ (f.locals < f.params) ∧ ¬ (256 < f.locals) ∧ ¬ (f.zero < 0) ∧ ¬ ((m.consts.length : Int) ≤ f.zero) ∧ ¬ (f.stack < 1) ∧ ¬ (256 < f.stack) ∧ ((f.code.length : Int) < 1) ∨ ¬ (f.params < 0) ∧ ¬ (8 < f.params) ∧ ¬ (f.locals < f.params) ∧ ¬ (256 < f.locals) ∧ ¬ (f.zero < 0) ∧ ¬ ((m.consts.length : Int) ≤ f.zero) ∧ ¬ (f.stack < 1) ∧ ¬ (256 < f.stack) ∧ ¬ ((f.code.length : Int) < 1) ∧ (16384 < (f.code.length : Int)) ∨ ¬ (f.params < 0) ∧ ¬ (8 < f.params) ∧ ¬ (f.locals < f.params) ∧ ¬ (256 < f.locals) ∧ ¬ (f.zero < 0) ∧ ¬ ((m.consts.length : Int) ≤ f.zero) ∧ ¬ (f.stack < 1) ∧ ¬ (256 < f.stack) ∧ ¬ ((f.code.length : Int) < 1) ∧ ¬ (16384 < (f.code.length : Int)))) with h | h | h | h | h | h | h | h | h | h | h
      all_goals
        simp only [k13_a, WK, vop, evAll, evOpt, evParts, vbuiltin, vun, vextract, Nat.reduceLT, Nat.reduceEqDiff, ↓reduceIte, reduceCtorEq, Nat.reduceAdd, Int.reduceLT, Int.reduceNeg, valloc_std, noSB, vhot, h43, j41, j42, hnl', hp, hpl sb (k1.trans hkb), FZ, vbox, vcells, ← hs2, st3, FFp, FF1', FF2', FF3', FF4', f0, f1, f2, f3, f4, j2, MF0, (L s3 hk3).2.1, lv, lc, h]
      all_goals first
        | exact ⟨40, rfl, k1.trans hk3, .inr ⟨rfl, badF (by unfold FunBad; omega)⟩⟩
        | skip
      have hgood : ¬ FunBad m f := by unfold FunBad; omega
      have hcl : 1 ≤ f.code.length ∧ f.code.length ≤ 16384 := by omega
      have hst : f.stack ≤ 256 := by omega
      clear h
      refine Ev.loopF (fun (q : Nat) e σ' => e 106 = .int .i64 (q : Nat) ∧ q ≤ f.code.length ∧ Keep s3 σ' ∧ ∀ i ∈ f.code.take q, rightS m st n f i = true) (fun q => f.code.length - q) 0 ⟨by simp [upd_some], Nat.zero_le _, Keep.refl _, by simp⟩ ?_
      rintro q e3 sc ⟨h106, hq, hkc, hR⟩ hfr
      have l1 : e3 1 = .int .i64 st := (hfr 1 (by decide)).trans (by simp [upd_some, j1])
      have l2 : e3 2 = .optr σ.objs.length 0 := (hfr 2 (by decide)).trans (by simp [upd_some, j2])
      have l7 : e3 7 = .int .i64 (n : Nat) := (hfr 7 (by decide)).trans (by simp [upd_some])
      have l43 : e3 43 = .int .i64 (n : Nat) := (hfr 43 (by decide)).trans (by simp [upd_some, h43])
      have l104 : e3 104 = wc := (hfr 104 (by decide)).trans (by simp [upd_some])
      have l105 : e3 105 = .int .i64 (f.code.length : Nat) := (hfr 105 (by decide)).trans (by simp [upd_some])
      clear hfr
      by_cases hql : q < f.code.length
      · have hql' : (q : Int) < (f.code.length : Nat) := by omega
        have hwq : IntKind.i64.wrap ((q : Int) + 1) = ((q + 1 : Nat) : Int) := by rw [show ((q : Int) + 1) = ((q + 1 : Nat) : Int) from by omega]; exact wrap_nat (by omega)
        obtain ⟨pc, hpc, hlc⟩ := code_load hcode hql
        obtain ⟨ins, hine⟩ : ∃ ins, ins = f.code[q] := ⟨_, rfl⟩
        obtain ⟨s6, s7, hs6, st7, k7, o7, l7'⟩ := insmade sc ins
        have ldi : vload Try.prog s7.objs 39 (.optr sc.objs.length 0) = some (.agg (insC ins)) := vload_agg o7 NG NS
        have hlcb := hlc sc ((k1.trans hk3).trans hkc)
        rw [← hine] at hlcb
        have hk7 := (hk3.trans hkc).trans k7
        obtain ⟨s8, d8, k8⟩ := cfits_does (hm0.keep (k1.trans hk7)) st hnl ins
        rw [← hfe] at d8
        simp only [k13_a, WK, vop, evAll, evOpt, evParts, vbuiltin, vun, vextract, Nat.reduceLT, Nat.reduceEqDiff, ↓reduceIte, reduceCtorEq, Nat.reduceAdd, Int.reduceLT, Int.reduceNeg, valloc_std, noSB, vhot, h106, l104, l105, hql', hpc, hlcb, NZ, vbox, vcells, ← hs6, st7, l1, l2, l7, (L s7 hk7).1, ldi]
        refine KD.ret d8 ?_
        cases hr : rightS m st n f ins with
        | false =>
          simp only [k13_a, WK, vop, evAll, evOpt, evParts, vbuiltin, vun, vextract, Nat.reduceLT, Nat.reduceEqDiff, ↓reduceIte, reduceCtorEq, Nat.reduceAdd, Int.reduceLT, Int.reduceNeg, valloc_std, noSB, vhot]
          exact ⟨40, rfl, (k1.trans hk7).trans k8, .inr ⟨rfl, fun hok => by
            have := (hok.2.2 n hnl).2.1 ins (by rw [← hfe, hine]; exact List.getElem_mem _)
            rw [← hfe, hr] at this
            cases this⟩⟩
        | true =>
          simp only [k13_a, WK, vop, evAll, evOpt, evParts, vbuiltin, vun, vextract, Nat.reduceLT, Nat.reduceEqDiff, ↓reduceIte, reduceCtorEq, Nat.reduceAdd, Int.reduceLT, Int.reduceNeg, valloc_std, noSB, vhot, h106, hwq]
          refine ⟨q + 1, ⟨by simp [upd_some], by omega, (hkc.trans k7).trans k8, fun i hi => ?_⟩, by omega⟩
          rw [List.take_succ_eq_append_getElem hql, List.mem_append, List.mem_singleton] at hi
          rcases hi with hi | rfl
          · exact hR i hi
          · rw [← hine]; exact hr
      have hql' : ¬ (q : Int) < (f.code.length : Nat) := by omega
      have hRa : ∀ i ∈ f.code, rightS m st n f i = true := by rw [List.take_of_length_le (by omega)] at hR; exact hR
      have hins : ∀ (p : Nat) (hp : p < f.code.length), callOk m f.code[p] ∧ 0 ≤ popS m f.code[p] ∧ popS m f.code[p] ≤ 8 ∧ (f.code[p].op = 7 ∨ f.code[p].op = 8 → 0 ≤ f.code[p].a ∧ f.code[p].a < f.code.length) := fun p hp =>
        right_ins (hRa _ (List.getElem_mem hp)) (by omega) fun j hj hjn => by
          have := (hF j hj hjn).1
          unfold FunBad at this
          omega
      have hkc' := hk3.trans hkc
      obtain ⟨b, s9, d9, k9, hb⟩ := walk_does (hm0.keep (k1.trans hkc')) hnl (by rw [← hfe]; exact hcl) (by rw [← hfe]; exact hst) (by rw [← hfe]; exact hins)
      rw [← hfe] at hb
      simp only [k13_a, WK, vop, evAll, evOpt, evParts, vbuiltin, vun, vextract, Nat.reduceLT, Nat.reduceEqDiff, ↓reduceIte, reduceCtorEq, Nat.reduceAdd, Int.reduceLT, Int.reduceNeg, valloc_std, noSB, vhot, h106, l105, hql', l2, l7, (L sc hkc').1]
      refine KD.ret d9 ?_
      cases b with
      | false =>
        simp only [k13_a, WK, vop, evAll, evOpt, evParts, vbuiltin, vun, vextract, Nat.reduceLT, Nat.reduceEqDiff, ↓reduceIte, reduceCtorEq, Nat.reduceAdd, Int.reduceLT, Int.reduceNeg, valloc_std, noSB, vhot]
        exact ⟨40, rfl, (k1.trans hkc').trans k9, .inr ⟨rfl, fun hok => by
          have := (hok.2.2 n hnl).2.2
          rw [← hfe] at this
          exact absurd (hb.2 this) (by decide)⟩⟩
      | true =>
        simp only [k13_a, WK, vop, evAll, evOpt, evParts, vbuiltin, vun, vextract, Nat.reduceLT, Nat.reduceEqDiff, ↓reduceIte, reduceCtorEq, Nat.reduceAdd, Int.reduceLT, Int.reduceNeg, valloc_std, noSB, vhot, l43, hwn]
        refine ⟨n + 1, ⟨by simp [upd_some], by omega, hkc'.trans k9, fun j hj hjn => ?_⟩, by omega⟩
        by_cases hjn' : j < n
        · exact hF j hj hjn'
        · have : j = n := by omega
          subst this
          rw [← hfe]
          exact ⟨hgood, hRa, hb.1 rfl⟩
    have hnl' : ¬ (n : Int) < (m.funcs.length : Nat) := by omega
    simp only [k13_a, WK, vop, evAll, evOpt, evParts, vbuiltin, vun, vextract, Nat.reduceLT, Nat.reduceEqDiff, ↓reduceIte, reduceCtorEq, Nat.reduceAdd, Int.reduceLT, Int.reduceNeg, valloc_std, noSB, vhot, h43, j42, hnl']
    exact ⟨0, rfl, k1.trans hkb, .inl ⟨rfl, hhead, hTy, fun j hj => hF j hj (by omega)⟩⟩
  obtain ⟨q, σ', h1, z, rfl, h2⟩ := key
  exact ⟨z, σ', h1, h2⟩
end Go.Proofs.Ytplhelapcpcncaa.Q

/- A module that is handed in; what is more than is played. -/
set_option linter.unusedVariables false
set_option linter.unusedSimpArgs false
set_option maxRecDepth 100000
namespace Go.Proofs.Ytplhelapcpcncaa.Q
open Go Go.RowKit Go.Proofs

structure MIn (m : Mdl) (B : Nat) : Prop where
  cw : weights m.consts ≤ B
  fl : m.funcs.length ≤ B
  fi : ∀ f ∈ m.funcs, InI64 f.params ∧ InI64 f.locals ∧ InI64 f.zero ∧ InI64 f.stack ∧ f.code.length ≤ B ∧ ∀ i ∈ f.code, InI64 i.op ∧ InI64 i.a

theorem rows_rel {α : Type} {R : Nat → α → Prop} : ∀ (len : Nat), (∀ i, i < len → ∃ x, R i x) → ∃ l : List α, l.length = len ∧ ∀ (i : Nat) (h : i < l.length), R i l[i] := by
  intro len h
  refine ⟨List.ofFn fun i : Fin len => Classical.choose (h i i.2), by simp, fun i hi => ?_⟩
  rw [List.getElem_ofFn]
  exact Classical.choose_spec (h i (by simpa using hi))
theorem vals_rows : ∀ (len : Nat) (vs : List V), vs.length = len * 4 → (∀ i, i < len → ∃ v, ValC v ((vs.drop (i * 4)).take 4)) → ∃ l, l.length = len ∧ ValsC l vs ∧ weights l ≤ vbulks vs
  | 0, vs, hv, _ => by
    have h0 : vs = [] := List.length_eq_zero_iff.1 (by simpa using hv)
    subst h0
    exact ⟨[], rfl, .nil, by simp [weights]⟩
  | len + 1, vs, hv, hi => by
    obtain ⟨v, hv0⟩ := hi 0 (by omega)
    rw [Nat.zero_mul, List.drop_zero] at hv0
    obtain ⟨l, hl, hlC, hw⟩ := vals_rows len (vs.drop 4) (by rw [List.length_drop, hv]; omega) fun i hlt => by
      have := hi (i + 1) (by omega)
      rwa [show (i + 1) * 4 = 4 + i * 4 by omega, ← List.drop_drop] at this
    have h2 := ValsC.cons hv0 hlC
    have hb := vbulks_append (vs.take 4) (vs.drop 4)
    have hb1 := hv0.bulk _ (Nat.le_refl _)
    rw [List.take_append_drop] at h2 hb
    exact ⟨v :: l, by simp [hl], h2, by rw [weights]; omega⟩
theorem vals_VT {k : Nat} {cs : List V} (h : VT Try.prog k 22 cs) : ∃ w l, cs = [w] ∧ ValsW l w ∧ weights l ≤ vbulks cs := by
  obtain ⟨k', hc⟩ := VT_slice VT22 h
  rcases hc with rfl | ⟨vs, len, rfl, h1, h2, h3⟩
  · exact ⟨.nils, [], rfl, .nil, by simp [weights]⟩
  · rw [CO24] at h1 h3 ⊢
    obtain ⟨l, hl, hC, hw⟩ := vals_rows len vs h1 fun i hi => val_VT k' (h3 i hi)
    subst hl
    exact ⟨_, l, rfl, .row hC, by simp only [vbulks, vbulk]; omega⟩

theorem COM : Try.prog.cellsOf 25 = 2 := by kernel_rfl
theorem COF : Try.prog.cellsOf 37 = 5 := by kernel_rfl
theorem CON : Try.prog.cellsOf 39 = 2 := by kernel_rfl
theorem COFs : Try.prog.cellsOf 23 = 1 := by kernel_rfl
theorem CONs : Try.prog.cellsOf 35 = 1 := by kernel_rfl
theorem FOM : fieldsOf Try.prog 25 = [(22, 0), (23, 1)] := by kernel_rfl
theorem FOF : fieldsOf Try.prog 37 = [(3, 0), (3, 1), (3, 2), (3, 3), (35, 4)] := by kernel_rfl
theorem FON : fieldsOf Try.prog 39 = [(3, 0), (3, 1)] := by kernel_rfl
theorem list_ext5 {cs : List V} {a b c d e : V} (hl : cs.length = 5) (h0 : cs[0]? = some a) (h1 : cs[1]? = some b) (h2 : cs[2]? = some c) (h3 : cs[3]? = some d) (h4 : cs[4]? = some e) : cs = [a, b, c, d, e] := by
  match cs, hl with
  | [x0, x1, x2, x3, x4], _ => simp at h0 h1 h2 h3 h4; simp [h0, h1, h2, h3, h4]
theorem list_ext2 {cs : List V} {a b : V} (hl : cs.length = 2) (h0 : cs[0]? = some a) (h1 : cs[1]? = some b) : cs = [a, b] := by
  match cs, hl with
  | [x0, x1], _ => simp at h0 h1; simp [h0, h1]

theorem ins_VT {k : Nat} {cs : List V} (h : VT Try.prog k 39 cs) : ∃ i : Ins, cs = insC i ∧ (InI64 i.op ∧ InI64 i.a) := by
  obtain ⟨k', hl, hf⟩ := VT_struct FON h
  rw [CON] at hl
  simp only [List.mem_cons, List.not_mem_nil, or_false, forall_eq_or_imp, forall_eq, CO3] at hf
  obtain ⟨f0, f1⟩ := hf
  obtain ⟨a, h0, w0⟩ := VT_int T3 f0
  obtain ⟨b, h1, w1⟩ := VT_int T3 f1
  exact ⟨⟨a, b⟩, list_ext2 hl (one_of h0) (one_of h1), InI64_of w0, InI64_of w1⟩
theorem code_VT {k : Nat} {cs : List V} (h : VT Try.prog k 35 cs) : ∃ w l, cs = [w] ∧ (∀ σ, CodeS σ w l) ∧ (∀ i ∈ l, InI64 i.op ∧ InI64 i.a) ∧ l.length ≤ vbulks cs := by
  obtain ⟨k', hc⟩ := VT_slice NT h
  rcases hc with rfl | ⟨vs, len, rfl, h1, h2, h3⟩
  · exact ⟨.nils, [], rfl, fun σ => .inl (RowV.nil 2), by simp, by simp⟩
  · rw [CON] at h1 h3 ⊢
    obtain ⟨l, rfl, hl, hR⟩ := rows_of (f := insC) (R := fun i => InI64 i.op ∧ InI64 i.a) len vs h1 fun i hi => ins_VT (h3 i hi)
    subst hl
    refine ⟨_, l, rfl, fun σ => .inl ⟨flat_len insC_len l, .inr ⟨.ro, rfl⟩⟩, hR, ?_⟩
    have := bulk_len insC_len (by omega) l
    simp only [vbulks, vbulk]
    omega
theorem fun_VT {k : Nat} {cs : List V} (h : VT Try.prog k 37 cs) : ∃ f : Fun, (∀ σ, FunS σ f cs) ∧ InI64 f.params ∧ InI64 f.locals ∧ InI64 f.zero ∧ InI64 f.stack ∧ f.code.length ≤ vbulks cs ∧ ∀ i ∈ f.code, InI64 i.op ∧ InI64 i.a := by
  obtain ⟨k', hl, hf⟩ := VT_struct FOF h
  rw [COF] at hl
  simp only [List.mem_cons, List.not_mem_nil, or_false, forall_eq_or_imp, forall_eq, CO3, CONs] at hf
  obtain ⟨f0, f1, f2, f3, f4⟩ := hf
  obtain ⟨a0, h0, w0⟩ := VT_int T3 f0
  obtain ⟨a1, h1, w1⟩ := VT_int T3 f1
  obtain ⟨a2, h2, w2⟩ := VT_int T3 f2
  obtain ⟨a3, h3, w3⟩ := VT_int T3 f3
  obtain ⟨w, l, h4, hC, hI, hn⟩ := code_VT f4
  have hcs : cs = [.int .i64 a0, .int .i64 a1, .int .i64 a2, .int .i64 a3, w] := list_ext5 hl (one_of h0) (one_of h1) (one_of h2) (one_of h3) (one_of h4)
  subst hcs
  refine ⟨⟨a0, a1, a2, a3, l⟩, fun σ => ⟨w, rfl, hC σ⟩, InI64_of w0, InI64_of w1, InI64_of w2, InI64_of w3, ?_, hI⟩
  rw [h4] at hn
  simp only [vbulks, vbulk] at hn ⊢
  omega
theorem vbulks_part (vs : List V) (i n : Nat) : vbulks ((vs.drop i).take n) ≤ vbulks vs := by
  have h1 := vbulks_append (vs.take i) (vs.drop i)
  have h2 := vbulks_append ((vs.drop i).take n) ((vs.drop i).drop n)
  rw [List.take_append_drop] at h1 h2
  omega
theorem funs_VT {k : Nat} {cs : List V} (h : VT Try.prog k 23 cs) : ∃ w l, cs = [w] ∧ (∀ σ, FunsS σ w l) ∧ l.length ≤ vbulks cs ∧ ∀ f ∈ l, InI64 f.params ∧ InI64 f.locals ∧ InI64 f.zero ∧ InI64 f.stack ∧ f.code.length ≤ vbulks cs ∧ ∀ i ∈ f.code, InI64 i.op ∧ InI64 i.a := by
  obtain ⟨k', hc⟩ := VT_slice FT h
  rcases hc with rfl | ⟨vs, len, rfl, h1, h2, h3⟩
  · exact ⟨.nils, [], rfl, fun σ => ⟨[], .inl (RowV.nil 5), fun i hi => by simp at hi⟩, by simp, by simp⟩
  · rw [COF] at h1 h3 ⊢
    obtain ⟨l, hl, hR⟩ := rows_rel (R := fun i (f : Fun) => (∀ σ, FunS σ f ((vs.drop (i * 5)).take 5)) ∧ InI64 f.params ∧ InI64 f.locals ∧ InI64 f.zero ∧ InI64 f.stack ∧ f.code.length ≤ vbulks ((vs.drop (i * 5)).take 5) ∧ ∀ i ∈ f.code, InI64 i.op ∧ InI64 i.a) len fun i hi => fun_VT (h3 i hi)
    subst hl
    have hvl := vbulks_len vs
    refine ⟨_, l, rfl, fun σ => ⟨vs, .inl ⟨h1, .inr ⟨.ro, rfl⟩⟩, fun i hi => (hR i hi).1 σ⟩, by simp only [vbulks, vbulk]; omega, fun f hf => ?_⟩
    obtain ⟨i, hi, rfl⟩ := List.getElem_of_mem hf
    obtain ⟨_, g1, g2, g3, g4, g5, g6⟩ := hR i hi
    have := vbulks_part vs (i * 5) 5
    exact ⟨g1, g2, g3, g4, by simp only [vbulks, vbulk]; omega, g6⟩
theorem mdl_arg {x : V} (h : ArgT Try.prog 25 x) : ∃ m c, x = .agg c ∧ (∀ σ, MdlS σ m c) ∧ MIn m (vbulk x) := by
  obtain ⟨k, cs, rfl, h0⟩ := ArgT_struct FOM h
  obtain ⟨k', hl, hf⟩ := VT_struct FOM h0
  rw [COM] at hl
  simp only [List.mem_cons, List.not_mem_nil, or_false, forall_eq_or_imp, forall_eq, CO22, COFs] at hf
  obtain ⟨f0, f1⟩ := hf
  obtain ⟨w1, l1, h1, hv, hw⟩ := vals_VT f0
  obtain ⟨w2, l2, h2, hF, hn, hI⟩ := funs_VT f1
  have hcs : cs = [w1, w2] := list_ext2 hl (one_of h1) (one_of h2)
  subst hcs
  rw [h1] at hw
  rw [h2] at hn hI
  refine ⟨⟨l1, l2⟩, _, rfl, fun σ => ⟨w1, w2, rfl, hv, hF σ⟩, ?_, ?_, fun f hf => ?_⟩
  · simp only [vbulks, vbulk] at hw ⊢; omega
  · simp only [vbulks, vbulk] at hn ⊢; omega
  · obtain ⟨g1, g2, g3, g4, g5, g6⟩ := hI f hf
    exact ⟨g1, g2, g3, g4, by simp only [vbulks, vbulk] at g5 ⊢; omega, g6⟩
end Go.Proofs.Ytplhelapcpcncaa.Q

/- What is more than is played; the module of the examples. -/
set_option linter.unusedVariables false
set_option linter.unusedSimpArgs false
set_option maxRecDepth 100000
namespace Go.Proofs.Ytplhelapcpcncaa.Q
open Go Go.RowKit Go.Proofs

theorem large_does {σ : St} {m : Mdl} {c : List V} {B : Nat} (hm : MdlS σ m c) (hM : MIn m B) (hB : B ≤ 4294967296) :
    ∃ b σ', Does Try.prog prims 9 [.agg c] σ (.ret (.bool b)) σ' ∧ Keep σ σ' := by
  have key : ∃ q σ', Does Try.prog prims 9 [.agg c] σ q σ' ∧ ∃ b, q = .ret (.bool b) ∧ Keep σ σ' := by
    apply k9_is.does (by simp)
    have hm0 := hm
    obtain ⟨w1, w2, hc, hv, hf⟩ := hm
    obtain ⟨s1, hs1⟩ : ∃ s1 : St, s1 = ⟨σ.objs ++ [Ob.cells c], σ.toks⟩ := ⟨_, rfl⟩
    have k1 : Keep σ s1 := by rw [hs1]; exact (Keep.refl σ).push _
    have o1 : s1.objs[σ.objs.length]? = some (.cells c) := by rw [hs1]; exact push_new _ _
    have L : ∀ s', Keep s1 s' → vload Try.prog s'.objs 22 (.optr σ.objs.length 0) = some w1 ∧ vload Try.prog s'.objs 23 (.optr σ.objs.length 1) = some w2 := by
      intro s' hk
      have e1 := hk.1 _ _ o1
      exact ⟨by rw [vload_obj e1 VsG, hc]; rfl, by rw [vload_obj e1 FsG, hc]; rfl⟩
    have lf : vlen Try.prog 23 w2 = some (.int .i64 (m.funcs.length : Nat)) := by obtain ⟨cs, hr, _⟩ := hf; exact hr.len FT
    have lv := hv.len
    have hfl := hM.fl
    have hcl : m.consts.length ≤ B := Nat.le_trans (weights_len _) hM.cw
    simp only [k9_a, WK, vop, evAll, evOpt, evParts, vbuiltin, vun, vextract, Nat.reduceLT, Nat.reduceEqDiff, ↓reduceIte, reduceCtorEq, Nat.reduceAdd, Int.reduceLT, Int.reduceNeg, valloc_std, noSB, vhot, List.getD_cons_zero, vbox, vcells, ← hs1, MF1, (L s1 (Keep.refl _)).2, lf]
    refine Ev.loopF (fun (i : Nat) e σ' => e 13 = .int .i64 (i : Nat) ∧ i ≤ m.funcs.length ∧ (∃ n : Int, e 3 = .int .i64 n ∧ 0 ≤ n ∧ n ≤ 4096) ∧ Keep s1 σ') (fun i => m.funcs.length - i) 0 ⟨by simp [upd_some], Nat.zero_le _, ⟨0, by simp [upd_some], by omega, by omega⟩, Keep.refl _⟩ ?_
    rintro i e σ' ⟨h13, hi, ⟨n, h3, hn0, hn1⟩, hk⟩ hfr
    have g1 : e 1 = .optr σ.objs.length 0 := (hfr 1 (by decide)).trans (by simp [upd_some])
    have g11 : e 11 = w2 := (hfr 11 (by decide)).trans (by simp [upd_some])
    have g12 : e 12 = .int .i64 (m.funcs.length : Nat) := (hfr 12 (by decide)).trans (by simp [upd_some])
    clear hfr
    by_cases hlt : i < m.funcs.length
    · have hlt' : (i : Int) < (m.funcs.length : Nat) := by omega
      have hwi : IntKind.i64.wrap ((i : Int) + 1) = ((i + 1 : Nat) : Int) := by rw [show ((i : Int) + 1) = ((i + 1 : Nat) : Int) from by omega]; exact wrap_nat (by omega)
      obtain ⟨p, cf, hp, hFS, hpl⟩ := fun_load hf hlt
      obtain ⟨s2, s3, wc, hs2, st3, k3, o3, hcode, hl3⟩ := funmade σ' hFS (k1.trans hk)
      obtain ⟨f, hfe⟩ : ∃ f, f = m.funcs[i] := ⟨_, rfl⟩
      have hfb : f.code.length ≤ B := by rw [hfe]; exact (hM.fi _ (List.getElem_mem hlt)).2.2.2.2.1
      rw [← hfe] at hFS o3 hcode
      have lc : vlen Try.prog 35 wc = some (.int .i64 (f.code.length : Nat)) := RowS.len hcode NT
      have ldc : vload Try.prog s3.objs 35 (.optr σ'.objs.length 4) = some wc := by rw [vload_obj o3 NsG]; rfl
      have hw1 : IntKind.i64.wrap (1 + (f.code.length : Int)) = 1 + (f.code.length : Int) := wrap_i64 (by omega) (by omega)
      have hw2 : IntKind.i64.wrap (n + (1 + (f.code.length : Int))) = n + (1 + (f.code.length : Int)) := wrap_i64 (by omega) (by omega)
      by_cases hbig : (4096 : Int) < n + (1 + (f.code.length : Int))
      · simp only [k9_a, WK, vop, evAll, evOpt, evParts, vbuiltin, vun, vextract, Nat.reduceLT, Nat.reduceEqDiff, ↓reduceIte, reduceCtorEq, Nat.reduceAdd, Int.reduceLT, Int.reduceNeg, valloc_std, noSB, vhot, h3, h13, g11, g12, hlt', hp, hpl σ' (k1.trans hk), FZ, vbox, vcells, ← hs2, st3, FF4', ldc, lc, hw1, hw2, hbig]
        exact ⟨_, rfl, (k1.trans hk).trans k3⟩
      · simp only [k9_a, WK, vop, evAll, evOpt, evParts, vbuiltin, vun, vextract, Nat.reduceLT, Nat.reduceEqDiff, ↓reduceIte, reduceCtorEq, Nat.reduceAdd, Int.reduceLT, Int.reduceNeg, valloc_std, noSB, vhot, h3, h13, g11, g12, hlt', hp, hpl σ' (k1.trans hk), FZ, vbox, vcells, ← hs2, st3, FF4', ldc, lc, hw1, hw2, hbig, hwi]
        exact ⟨i + 1, ⟨by simp [upd_some], by omega, ⟨_, by simp [upd_some]; rfl, by omega, by omega⟩, hk.trans k3⟩, by omega⟩
    have hlt' : ¬ (i : Int) < (m.funcs.length : Nat) := by omega
    simp only [k9_a, WK, vop, evAll, evOpt, evParts, vbuiltin, vun, vextract, Nat.reduceLT, Nat.reduceEqDiff, ↓reduceIte, reduceCtorEq, Nat.reduceAdd, Int.reduceLT, Int.reduceNeg, valloc_std, noSB, vhot, h13, g1, g12, hlt', MF0, (L σ' hk).1, lv]
    refine Ev.loopF (fun (j : Nat) e σ' => e 29 = .int .i64 (j : Nat) ∧ j ≤ m.consts.length ∧ (∃ n : Int, e 3 = .int .i64 n ∧ 0 ≤ n ∧ n ≤ 8192) ∧ Keep s1 σ') (fun j => m.consts.length - j) 0 ⟨by simp [upd_some], Nat.zero_le _, ⟨n, by simp [upd_some, h3], by omega, by omega⟩, hk⟩ ?_
    rintro j e2 sb ⟨h29, hj, ⟨n2, h3', hm0', hm1⟩, hkb⟩ hfr
    have j27 : e2 27 = w1 := (hfr 27 (by decide)).trans (by simp [upd_some])
    have j28 : e2 28 = .int .i64 (m.consts.length : Nat) := (hfr 28 (by decide)).trans (by simp [upd_some])
    clear hfr
    by_cases hjl : j < m.consts.length
    · have hjl' : (j : Int) < (m.consts.length : Nat) := by omega
      have hwj : IntKind.i64.wrap ((j : Int) + 1) = ((j + 1 : Nat) : Int) := by rw [show ((j : Int) + 1) = ((j + 1 : Nat) : Int) from by omega]; exact wrap_nat (by omega)
      obtain ⟨ccs, cv, hva, hvl', hvc⟩ := hv.get hjl
      have hwt := Nat.le_trans (weights_mem (List.getElem_mem hjl)) hM.cw
      obtain ⟨s2, hs2⟩ : ∃ s2 : St, s2 = ⟨(sb.objs ++ [Ob.cells val0C]).set sb.objs.length (Ob.cells cv), sb.toks⟩ := ⟨_, rfl⟩
      have q2 : IsV s2 sb.objs.length cv := by rw [hs2]; exact IsV.made
      have k2 : Keep sb s2 := by rw [hs2]; exact (Keep.refl sb).madeV _ _
      have st2 := IsV.new (σ := sb) (o := val0C) hvc.len rfl hvc.one
      rw [← hs2] at st2
      obtain ⟨k, v, t, l, w, hve, rfl, hl, _⟩ := hvc.inv
      rw [hve, weight] at hwt
      have hll := weights_len l
      have hw1 : IntKind.i64.wrap (1 + (t.length : Int)) = 1 + (t.length : Int) := wrap_i64 (by omega) (by omega)
      have hw2 : IntKind.i64.wrap (1 + (t.length : Int) + (l.length : Int)) = 1 + (t.length : Int) + (l.length : Int) := wrap_i64 (by omega) (by omega)
      have hw3 : IntKind.i64.wrap (n2 + (1 + (t.length : Int) + (l.length : Int))) = n2 + (1 + (t.length : Int) + (l.length : Int)) := wrap_i64 (by omega) (by omega)
      by_cases hbig : (8192 : Int) < n2 + (1 + (t.length : Int) + (l.length : Int))
      · simp only [k9_a, WK, vop, evAll, evOpt, evParts, vbuiltin, vun, vextract, Nat.reduceLT, Nat.reduceEqDiff, ↓reduceIte, reduceCtorEq, Nat.reduceAdd, Int.reduceLT, Int.reduceNeg, valloc_std, noSB, vhot, h29, h3', j27, j28, hjl', hva, hvl', VZ24, vbox, vcells, st2, FV2, FV3, q2.text, q2.list, vlen_str T9, hl.len, hw1, hw2, hw3, hbig]
        exact ⟨_, rfl, ((k1.trans hkb).trans k2)⟩
      · simp only [k9_a, WK, vop, evAll, evOpt, evParts, vbuiltin, vun, vextract, Nat.reduceLT, Nat.reduceEqDiff, ↓reduceIte, reduceCtorEq, Nat.reduceAdd, Int.reduceLT, Int.reduceNeg, valloc_std, noSB, vhot, h29, h3', j27, j28, hjl', hva, hvl', VZ24, vbox, vcells, st2, FV2, FV3, q2.text, q2.list, vlen_str T9, hl.len, hw1, hw2, hw3, hbig]
        refine Ev.loopF (fun (z : Nat) e σ' => e 48 = .int .i64 (z : Nat) ∧ z ≤ l.length ∧ Keep s2 σ') (fun z => l.length - z) 0 ⟨by simp [upd_some], Nat.zero_le _, Keep.refl _⟩ ?_
        rintro z e3 sc ⟨h48, hz, hkc⟩ hfr
        have l3 : e3 3 = .int .i64 (n2 + (1 + (t.length : Int) + (l.length : Int))) := (hfr 3 (by decide)).trans (by simp [upd_some])
        have l29 : e3 29 = .int .i64 (j : Nat) := (hfr 29 (by decide)).trans (by simp [upd_some, h29])
        have l46 : e3 46 = w := (hfr 46 (by decide)).trans (by simp [upd_some])
        have l47 : e3 47 = .int .i64 (l.length : Nat) := (hfr 47 (by decide)).trans (by simp [upd_some])
        clear hfr
        by_cases hzl : z < l.length
        · have hzl' : (z : Int) < (l.length : Nat) := by omega
          have hwz : IntKind.i64.wrap ((z : Int) + 1) = ((z + 1 : Nat) : Int) := by rw [show ((z : Int) + 1) = ((z + 1 : Nat) : Int) from by omega]; exact wrap_nat (by omega)
          obtain ⟨ccs', cv', hva', hvl'', hvc'⟩ := hl.get hzl
          obtain ⟨s4, hs4⟩ : ∃ s4 : St, s4 = ⟨(sc.objs ++ [Ob.cells val0C]).set sc.objs.length (Ob.cells cv'), sc.toks⟩ := ⟨_, rfl⟩
          have q4 : IsV s4 sc.objs.length cv' := by rw [hs4]; exact IsV.made
          have k4 : Keep sc s4 := by rw [hs4]; exact (Keep.refl sc).madeV _ _
          have st4 := IsV.new (σ := sc) (o := val0C) hvc'.len rfl hvc'.one
          rw [← hs4] at st4
          obtain ⟨k', v', t', l', w', _, rfl, hl', _⟩ := hvc'.inv
          by_cases hp : (0 : Int) < (l'.length : Nat)
          · simp only [k9_a, WK, vop, evAll, evOpt, evParts, vbuiltin, vun, vextract, Nat.reduceLT, Nat.reduceEqDiff, ↓reduceIte, reduceCtorEq, Nat.reduceAdd, Int.reduceLT, Int.reduceNeg, valloc_std, noSB, vhot, h48, l46, l47, hzl', hva', hvl'', VZ24, vbox, vcells, st4, FV3, q4.list, hl'.len, hp]
            exact ⟨_, rfl, (((k1.trans hkb).trans k2).trans hkc).trans k4⟩
          · simp only [k9_a, WK, vop, evAll, evOpt, evParts, vbuiltin, vun, vextract, Nat.reduceLT, Nat.reduceEqDiff, ↓reduceIte, reduceCtorEq, Nat.reduceAdd, Int.reduceLT, Int.reduceNeg, valloc_std, noSB, vhot, h48, l46, l47, hzl', hva', hvl'', VZ24, vbox, vcells, st4, FV3, q4.list, hl'.len, hp, hwz]
            exact ⟨z + 1, ⟨by simp [upd_some], by omega, hkc.trans k4⟩, by omega⟩
        have hzl' : ¬ (z : Int) < (l.length : Nat) := by omega
        simp only [k9_a, WK, vop, evAll, evOpt, evParts, vbuiltin, vun, vextract, Nat.reduceLT, Nat.reduceEqDiff, ↓reduceIte, reduceCtorEq, Nat.reduceAdd, Int.reduceLT, Int.reduceNeg, valloc_std, noSB, vhot, h48, l29, l47, hzl', hwj]
        exact ⟨j + 1, ⟨by simp [upd_some], by omega, ⟨_, l3, by omega, by omega⟩, (hkb.trans k2).trans hkc⟩, by omega⟩
    have hjl' : ¬ (j : Int) < (m.consts.length : Nat) := by omega
    simp only [k9_a, WK, vop, evAll, evOpt, evParts, vbuiltin, vun, vextract, Nat.reduceLT, Nat.reduceEqDiff, ↓reduceIte, reduceCtorEq, Nat.reduceAdd, Int.reduceLT, Int.reduceNeg, valloc_std, noSB, vhot, h29, j28, hjl']
    exact ⟨_, rfl, k1.trans hkb⟩
  obtain ⟨q, σ', h1, b, rfl, h2⟩ := key
  exact ⟨b, σ', h1, h2⟩
end Go.Proofs.Ytplhelapcpcncaa.Q

set_option linter.unusedVariables false
namespace Go.Proofs.Ytplhelapcpcncaa.Q
open Go Go.RowKit Go.Proofs
set_option maxRecDepth 100000 in
theorem wakes_run1 (a : List V) : ((vcall Try.prog prims 2000 8 [] ⟨[.cells a], []⟩).map fun r => (isTrue (some r), r.2.objs.take 1)) = some (true, [.cells a]) := by kernel_rfl
theorem wakes_does1 (a : List V) : ∃ σ, Does Try.prog prims 8 [] ⟨[.cells a], []⟩ (.ret (.bool true)) σ ∧ Keep ⟨[.cells a], []⟩ σ := by
  have h := wakes_run1 a
  rw [Option.map_eq_some_iff] at h
  obtain ⟨r, h1, h2⟩ := h
  injection h2 with h2 h3
  obtain ⟨σ, h4⟩ := isTrue_eq h2
  injection h4 with h4
  subst h4
  refine ⟨σ, ⟨2000, h1⟩, fun q o ho => ?_, Nat.zero_le _, fun k hk => by simp [tokLive] at hk⟩
  have hq := (List.getElem?_eq_some_iff.1 ho).1
  simp only at h3 ho hq
  rw [← h3, List.getElem?_take] at ho
  split at ho
  · exact ho
  · cases ho
end Go.Proofs.Ytplhelapcpcncaa.Q

/- CodeVerifies: for every input of bulk at most 1048576 the law answers true. -/
set_option linter.unusedVariables false
set_option linter.unusedSimpArgs false
namespace Go.Proofs.Ytplhelapcpcncaa.Q
open Go Go.RowKit Go.Proofs

theorem verify_same {z y : Int} {P : Prop} (h1 : (z = 0 ∧ P) ∨ (z = 40 ∧ ¬ P)) (h2 : (y = 0 ∧ P) ∨ (y = 40 ∧ ¬ P)) : z = y := by
  rcases h1 with ⟨a, b⟩ | ⟨a, b⟩ <;> rcases h2 with ⟨c, d⟩ | ⟨c, d⟩
  · rw [a, c]
  · exact absurd b d
  · exact absurd d b
  · rw [a, c]
set_option maxRecDepth 100000 in
theorem verifies_true : LawTrue Try.prog prims 3 [25, 3] := by
  intro xs hA hb
  match xs, hA with
  | [x, y], ⟨hx, hy, _⟩ =>
    obtain ⟨m, c, rfl, hm, hM⟩ := mdl_arg hx
    obtain ⟨st, rfl, hst⟩ := int_arg T3 hy
    simp only [vbulks] at hb
    have hB : vbulk (.agg c) ≤ 4294967296 := by omega
    have hw : ∀ v ∈ m.consts, weight v ≤ 4294967296 := fun v hv => Nat.le_trans (Nat.le_trans (weights_mem hv) hM.cw) hB
    have hcl : m.consts.length ≤ 4294967296 := Nat.le_trans (Nat.le_trans (weights_len _) hM.cw) hB
    have key : ∃ r σ', Does Try.prog prims 3 [.agg c, .int .i64 st] st0 r σ' ∧ r = .ret (.bool true) := by
      apply k3_is.does (by simp)
      obtain ⟨w1, w2, hc, hv, hf⟩ := hm st0
      obtain ⟨s1, hs1⟩ : ∃ s1 : St, s1 = ⟨st0.objs ++ [Ob.cells c], st0.toks⟩ := ⟨_, rfl⟩
      have o1 : s1.objs[0]? = some (.cells c) := by rw [hs1]; rfl
      obtain ⟨s2, d2, k2⟩ := wakes_does1 c
      have e1 : (⟨[Ob.cells c], []⟩ : St) = s1 := by rw [hs1]; rfl
      rw [e1] at d2 k2
      have L : ∀ s', Keep s1 s' → vload Try.prog s'.objs 25 (.optr 0 0) = some (.agg c) ∧ vload Try.prog s'.objs 22 (.optr 0 0) = some w1 := by
        intro s' hk
        have e1 := hk.1 _ _ o1
        exact ⟨vload_agg e1 MG (by rw [(hm st0).len]; exact MS), by rw [vload_obj e1 VsG, hc]; rfl⟩
      obtain ⟨b, s3, d3, k3⟩ := large_does (hm s2) hM hB
      simp only [k3_a, WK, vop, evAll, evOpt, evParts, vbuiltin, vun, vextract, Nat.reduceLT, Nat.reduceEqDiff, ↓reduceIte, reduceCtorEq, Nat.reduceAdd, Int.reduceLT, Int.reduceNeg, valloc_std, noSB, vhot, List.getD_cons_zero, List.getD_cons_succ, vbox, vcells, List.length_nil, show st0.objs.length = 0 from rfl, ← hs1]
      refine KD.ret d2 ?_
      simp only [k3_a, WK, vop, evAll, evOpt, evParts, vbuiltin, vun, vextract, Nat.reduceLT, Nat.reduceEqDiff, ↓reduceIte, reduceCtorEq, Nat.reduceAdd, Int.reduceLT, Int.reduceNeg, valloc_std, noSB, vhot, (L s2 k2).1]
      refine KD.ret d3 ?_
      cases b with
      | true => simp only [k3_a, WK, vop, evAll, evOpt, evParts, vbuiltin, vun, vextract, Nat.reduceLT, Nat.reduceEqDiff, ↓reduceIte, reduceCtorEq, Nat.reduceAdd, Int.reduceLT, Int.reduceNeg, valloc_std, noSB, vhot]
      | false =>
      have hk3 := k2.trans k3
      simp only [k3_a, WK, vop, evAll, evOpt, evParts, vbuiltin, vun, vextract, Nat.reduceLT, Nat.reduceEqDiff, ↓reduceIte, reduceCtorEq, Nat.reduceAdd, Int.reduceLT, Int.reduceNeg, valloc_std, noSB, vhot, MF0, (L s3 hk3).2, hv.len]
      refine Ev.loopF (fun (i : Nat) e σ' => e 14 = .int .i64 (i : Nat) ∧ i ≤ m.consts.length ∧ Keep s1 σ') (fun i => m.consts.length - i) 0 ⟨by simp [upd_some], Nat.zero_le _, hk3⟩ ?_
      rintro i e σ' ⟨h14, hi, hk⟩ hfr
      have g1 : e 1 = .int .i64 st := (hfr 1 (by decide)).trans (by simp [upd_some])
      have g2 : e 2 = .optr 0 0 := (hfr 2 (by decide)).trans (by simp [upd_some])
      have g12 : e 12 = w1 := (hfr 12 (by decide)).trans (by simp [upd_some])
      have g13 : e 13 = .int .i64 (m.consts.length : Nat) := (hfr 13 (by decide)).trans (by simp [upd_some])
      clear hfr
      by_cases hlt : i < m.consts.length
      · have hlt' : (i : Int) < (m.consts.length : Nat) := by omega
        have hwi : IntKind.i64.wrap ((i : Int) + 1) = ((i + 1 : Nat) : Int) := by rw [show ((i : Int) + 1) = ((i + 1 : Nat) : Int) from by omega]; exact wrap_nat (by omega)
        obtain ⟨ccs, cv, hva, hvl', hvc⟩ := hv.get hlt
        obtain ⟨s4, hs4⟩ : ∃ s4 : St, s4 = ⟨(σ'.objs ++ [Ob.cells val0C]).set σ'.objs.length (Ob.cells cv), σ'.toks⟩ := ⟨_, rfl⟩
        have q4 : IsV s4 σ'.objs.length cv := by rw [hs4]; exact IsV.made
        have k4 : Keep σ' s4 := by rw [hs4]; exact (Keep.refl σ').madeV _ _
        have st4 := IsV.new (σ := σ') (o := val0C) hvc.len rfl hvc.one
        rw [← hs4] at st4
        obtain ⟨s5, d5, k5⟩ := ctype_does (σ := s4) (hw _ (List.getElem_mem hlt)) hvc
        have q5 := k5.atV q4
        obtain ⟨s6, d6, k6⟩ := creftype_does (σ := s5) (hw _ (List.getElem_mem hlt)) hvc
        have q6 := k6.atV q5
        simp only [k3_a, WK, vop, evAll, evOpt, evParts, vbuiltin, vun, vextract, Nat.reduceLT, Nat.reduceEqDiff, ↓reduceIte, reduceCtorEq, Nat.reduceAdd, Int.reduceLT, Int.reduceNeg, valloc_std, noSB, vhot, h14, g12, g13, hlt', hva, hvl', VZ24, vbox, vcells, st4, q4.load hvc.len]
        refine KD.ret d5 ?_
        simp only [k3_a, WK, vop, evAll, evOpt, evParts, vbuiltin, vun, vextract, Nat.reduceLT, Nat.reduceEqDiff, ↓reduceIte, reduceCtorEq, Nat.reduceAdd, Int.reduceLT, Int.reduceNeg, valloc_std, noSB, vhot, q4.load hvc.len, q5.load hvc.len]
        refine KD.ret d6 ?_
        simp only [k3_a, WK, vop, evAll, evOpt, evParts, vbuiltin, vun, vextract, Nat.reduceLT, Nat.reduceEqDiff, ↓reduceIte, reduceCtorEq, Nat.reduceAdd, Int.reduceLT, Int.reduceNeg, valloc_std, noSB, vhot, q4.load hvc.len, q5.load hvc.len, q6.load hvc.len, strBin, h14, hwi, decide_true, Bool.not_true, eq_self]
        exact ⟨i + 1, ⟨by simp [upd_some], by omega, ((hk.trans k4).trans k5).trans k6⟩, by omega⟩
      have hlt' : ¬ (i : Int) < (m.consts.length : Nat) := by omega
      obtain ⟨z, s7, d7, k7, hz⟩ := cverify_does (hm σ') st hw
      obtain ⟨z', s8, d8, k8, hz'⟩ := crefverify_does (hm s7) st hw
      have hzz := verify_same hz hz'
      subst hzz
      simp only [k3_a, WK, vop, evAll, evOpt, evParts, vbuiltin, vun, vextract, Nat.reduceLT, Nat.reduceEqDiff, ↓reduceIte, reduceCtorEq, Nat.reduceAdd, Int.reduceLT, Int.reduceNeg, valloc_std, noSB, vhot, h14, g1, g2, g13, hlt', (L σ' hk).1]
      refine KD.ret d7 ?_
      simp only [k3_a, WK, vop, evAll, evOpt, evParts, vbuiltin, vun, vextract, Nat.reduceLT, Nat.reduceEqDiff, ↓reduceIte, reduceCtorEq, Nat.reduceAdd, Int.reduceLT, Int.reduceNeg, valloc_std, noSB, vhot, g1, g2, (L σ' hk).1, (L s7 (hk.trans k7)).1]
      refine KD.ret d8 ?_
      simp only [k3_a, WK, vop, evAll, evOpt, evParts, vbuiltin, vun, vextract, Nat.reduceLT, Nat.reduceEqDiff, ↓reduceIte, reduceCtorEq, Nat.reduceAdd, Int.reduceLT, Int.reduceNeg, valloc_std, noSB, vhot, g1, g2, (L σ' hk).1, (L s7 (hk.trans k7)).1, (L s8 ((hk.trans k7).trans k8)).1, decide_true]
    obtain ⟨r, σ', ⟨n, h⟩, rfl⟩ := key
    exact ⟨n, σ', h⟩
end Go.Proofs.Ytplhelapcpcncaa.Q

set_option linter.unusedVariables false
namespace Go.Proofs.Ytplhelapcpcncaa.rowCodeVerifies
open Go Go.ChangeShapes Go.WideShapes Go.ChangeAt Go.RowKit Go.Proofs Go.Proofs.Ytplhelapcpcncaa.Q

theorem own : ownKnob Try.prog.godebug = none := by kernel_rfl

set_option maxRecDepth 100000 in
theorem contract (H : Type) (enc : TypeId × Value → H) (W : World) (base : Nat) (args : Array Value) (ds gs : List (DataW H)) (before : List MemPlace)
    (hval : ∀ (j : Nat) t v, Try.f3.params[j]? = some t → args[j]? = some v → Value.okWide Try.prog W .any base t v)
    (hW : DataW.Whole enc Try.prog Try.f3.params.toList Rows.codeVerifiesSpec.vars false W args.toList ds gs before) (hk : Rows.uptoSmall H (ds ++ gs) = true) :
    Calls Try.prog 3 args W fun e W' => ∃ v, e = .returned v ∧ Rows.codeVerifiesSpec.post enc Try.prog Try.f3 false true false false W args v W' := by
  have hl : laidOutB Try.prog = true := by kernel_rfl
  have hS : plainS Try.prog [25, 22, 29, 3, 9, 23, 37, 35, 39] = true := by kernel_rfl
  have hpar : Try.f3.params.toList = [25, 3] := rfl
  have hW' := hW
  obtain ⟨p, q, hA, hV, rfl, hfz, hnd⟩ := hW
  obtain ⟨rfl, rfl⟩ := trodVars_none hV
  rw [List.append_nil] at hk
  have hk2 : Rows.uptoBulkAll ds ≤ 1048576 := of_decide_eq_true hk
  rw [hpar] at hA
  refine (law_calls prims_ok hl hS (ts := [25, 3]) (by decide) (by decide) verifies_true (fun j t v h1 h2 => hval j t v (by rw [← Array.getElem?_toList, hpar]; exact h1) (by rw [← Array.getElem?_toList]; exact h2)) hA hk2).mono fun e W' h => ?_
  obtain ⟨rfl, hb⟩ := h
  exact law_post (tb := 4) hl rfl (by kernel_rfl) (by kernel_rfl) rfl hW' (by
    have hgs : ds.length = 2 := by rw [trodAll_len hA]; rfl
    match ds, hgs with
    | [d0, d1], _ => exact ⟨rfl, rfl, rfl⟩) hb

set_option maxRecDepth 100000 in
theorem lifted (os : Os) (started : os.Started) (H : Type) (enc : TypeId × Value → H) (F : Stop.Interp) :
    ReturnsInHanded {} Try.checked os 3 .any ((Rows.OpenSpec.upto Rows.codeVerifiesSpec).pre6 enc Try.prog Try.f3 Rows.codeVerifiesUptoRow.domain false) (((Rows.OpenSpec.upto Rows.codeVerifiesSpec).at F).post enc Try.prog Try.f3 false true false false) := by
  refine returnsInHanded_of_cond (C := Try.checked) (s := Rows.OpenSpec.upto Rows.codeVerifiesSpec) (k := Rows.uptoSmall) rfl own started (by kernel_rfl) Try.func3
    (OpenSpec.witness (enc := enc) (C := Try.checked) (s := Rows.OpenSpec.upto Rows.codeVerifiesSpec) (k := Rows.uptoSmall) rfl false ⟨#[], #[.agg #[.slice none 0 0, .slice none 0 0], .int .i64 0], []⟩ 8 (by kernel_rfl) (by kernel_rfl) (by kernel_rfl)
      (x := ([.agg [.nil, .nil], .lit (.int .i64 0)], [], [])) (by kernel_rfl) rfl (by kernel_rfl)) ?_
  intro W base args ds gs before hval hW _ hk _
  exact contract H enc W base args ds gs before hval hW hk

theorem proved : Rows.CodeVerifiesUptoSaid :=
  OpenClaim.holds_of_cond 3 Try.f3 rfl rfl rfl rfl rfl rfl rfl ⟨rfl, rfl, rfl, rfl, rfl⟩ rfl rfl rfl rfl rfl (by kernel_rfl) Try.func3 (by kernel_rfl)
    (of_decide_eq_true (by kernel_rfl)) (by unfold Func.isWrapper; first | (rw [if_pos (by decide +kernel)]; kernel_rfl) | (rw [if_neg (by decide +kernel)]; exact ⟨rfl, rfl⟩))
    (fun os started H enc _ F => lifted os started H enc F)
end Go.Proofs.Ytplhelapcpcncaa.rowCodeVerifies

