/- A part of the proof: Vg, Vh, Vi, Zl, Zm, Zn, Zo, Zp, Uc, Zq, Zs, Zt, Zu. -/
import Derived.Test.YtnegdinonfjdfaaGreatDoorMb9
import Derived.Test.YtnegdinonfjdfaaGreatDoorMb5
set_option linter.unusedVariables false
set_option linter.unusedSimpArgs false
set_option maxRecDepth 100000
namespace Go.Proofs.YtnegdinonfjdfaaGreatDoor.Q
open Go Go.RowKit Go.Proofs
theorem yaq {σ : St} {p : Nat} {v : V} {t : TypeId} (h : σ.objs[p]? = some (.cells [v])) (ha : ybc Tryz.prog t = some false) : yad Tryz.prog σ.objs t (.optr p 0) = some v := by rw [yab h ha]; rfl
theorem ZWp : ybl Tryz.prog 54 = some .nilp := by kernel_rfl
theorem ZRs : ybl Tryz.prog 60 = some .nils := by kernel_rfl
theorem ZIn : ybl Tryz.prog 3 = some (.int .i64 0) := by kernel_rfl
theorem ZEr : ybl Tryz.prog 33 = some (.int .i64 0) := by kernel_rfl
theorem bldW (r : Nat) (per : Int) : ydA Tryz.prog 93 [(0, .optr r 0), (1, .int .i64 per), (2, .int .i64 1), (3, .int .i64 1)] = some (.agg [.optr r 0, .int .i64 per, .int .i64 1, .int .i64 1, .int .i64 0]) := by kernel_rfl
theorem wFA (p k : Nat) (hk : k < 5) : yan Tryz.prog 93 (.optr p 0) k = some (.optr p k) := by
 match k, hk with
 | 0, _ => exact (by kernel_rfl : yan Tryz.prog 93 (.optr p 0) 0 = some (.optr p 0))
 | 1, _ => exact (by kernel_rfl : yan Tryz.prog 93 (.optr p 0) 1 = some (.optr p 1))
 | 2, _ => exact (by kernel_rfl : yan Tryz.prog 93 (.optr p 0) 2 = some (.optr p 2))
 | 3, _ => exact (by kernel_rfl : yan Tryz.prog 93 (.optr p 0) 3 = some (.optr p 3))
 | 4, _ => exact (by kernel_rfl : yan Tryz.prog 93 (.optr p 0) 4 = some (.optr p 4))
def yaB (r : Nat) (per : Int) (wf next sick : Nat) : List V := [.optr r 0, .int .i64 per, .int .i64 (wf : Nat), .int .i64 (next : Nat), .int .i64 (sick : Nat)]
structure OC (u : St) (b r : Nat) (per : Int) (s : OpS) (w : V) : Prop where
 c0 : u.objs[b]? = some (.cells [.optr (b + 4) 0])
 c1 : u.objs[b + 1]? = some (.cells [w])
 c2 : u.objs[b + 2]? = some (.cells [.int .i64 (s.first : Nat)])
 c3 : u.objs[b + 3]? = some (.cells [.int .i64 0])
 c4 : u.objs[b + 4]? = some (.cells (yaB r per s.wf s.next 0))
theorem OC.keep {u u' : St} {b r : Nat} {per : Int} {s : OpS} {w : V} {S : List Nat} (h : OC u b r per s w) (hk : KS S u u') (hS : ∀ k, k < 5 → b + k ∉ S) : OC u' b r per s w :=
 ⟨hk.ko _ _ (hS 0 (by omega)) h.c0, hk.ko _ _ (hS 1 (by omega)) h.c1, hk.ko _ _ (hS 2 (by omega)) h.c2, hk.ko _ _ (hS 3 (by omega)) h.c3, hk.ko _ _ (hS 4 (by omega)) h.c4⟩
theorem OwnB.apps {σ u : St} {w y : V} {ps qs : List BV} (h : OwnB σ.toks.length u w ps) (hk : KS [] ⟨u.objs, σ.toks⟩ u) (hy : PtsV y qs) (hb : ∀ p ∈ qs, BtsV p.1 p.2) (hl : ps.length + qs.length ≤ 1000000000) :
   ∃ w' u', yaY Tryz.prog u 60 60 w y = some (w', u') ∧ OwnB σ.toks.length u' w' (ps ++ qs) ∧ KS [] ⟨u.objs, σ.toks⟩ u' ∧ u'.objs = u.objs := by
 have hnews : ybu Tryz.prog u.objs 60 y 1 = some (qs.map Prod.fst, qs.length) := by
   obtain ⟨h1, h2 | ⟨p, h2⟩⟩ := hy
   · have : qs = [] := List.length_eq_zero_iff.1 h2.2; subst this; rw [h2.1]; simp [ybu, ycP, TBB]
   · rw [h2]; simp [ybu, ycP, TBB]
 obtain ⟨w', u', a1, a2, a3, a4⟩ := h.o.appendO BBR (σ0 := ⟨u.objs, σ.toks⟩) (t := 60) (t2 := 60) rfl hk.keep hnews (by simp) (by
   rw [List.all_eq_true]; intro x hx; obtain ⟨p, hp, rfl⟩ := List.mem_map.1 hx; exact (hb p hp).one) (by omega) (by omega)
 refine ⟨w', u', a1, ⟨by simpa using a2, fun p hp => ?_⟩, a3.ks [], a4⟩; rcases List.mem_append.1 hp with hp | hp
 · exact h.b p hp
 · exact hb p hp
theorem yjc {σ : St} {r rm : Nat} {d : Dk} {fs : List Ent} (per : Int) (hper : ycm per) (h : DiskAt σ r d rm fs) (hok : d.Ok) (hw : d.writes ≤ 100000000) :
   ∃ q σ', Does Tryz.prog prims 31 [.optr r 0, .int .i64 per] σ q σ' ∧ (∃ fs', DiskAt σ' r (yaI per d).2 rm fs' ∧ KS (yay r rm fs) σ σ' ∧ (∀ y ∈ yay r rm fs', y ∈ yay r rm fs ∨ σ.objs.length ≤ y) ∧ (((yaI per d).1.1 ≠ 0 ∧ q = .ret (.tuple [.nilp, .nils, .int .i64 0, .int .i64 ((yaI per d).1.1 : Nat)])) ∨ ((yaI per d).1.1 = 0 ∧ ∃ p w ps, q = .ret (.tuple [.optr p 0, w, .int .i64 ((yaI per d).1.2.from : Nat), .int .i64 0]) ∧ PtsV w ps ∧ (∀ x ∈ ps, BtsV x.1 x.2) ∧ ps.map Prod.snd = (yaI per d).1.2.recs ∧ σ'.objs[p]? = some (.cells (yaB r per (yaI per d).1.2.wf (yaI per d).1.2.next 0)) ∧ σ.objs.length ≤ p ∧ p ∉ yay r rm fs'))) := by
 suffices key : ∀ P : VRes → St → Prop, (∀ q σ', (∃ fs', DiskAt σ' r (yaI per d).2 rm fs' ∧ KS (yay r rm fs) σ σ' ∧ (∀ y ∈ yay r rm fs', y ∈ yay r rm fs ∨ σ.objs.length ≤ y) ∧ (((yaI per d).1.1 ≠ 0 ∧ q = .ret (.tuple [.nilp, .nils, .int .i64 0, .int .i64 ((yaI per d).1.1 : Nat)])) ∨ ((yaI per d).1.1 = 0 ∧ ∃ p w ps, q = .ret (.tuple [.optr p 0, w, .int .i64 ((yaI per d).1.2.from : Nat), .int .i64 0]) ∧ PtsV w ps ∧ (∀ x ∈ ps, BtsV x.1 x.2) ∧ ps.map Prod.snd = (yaI per d).1.2.recs ∧ σ'.objs[p]? = some (.cells (yaB r per (yaI per d).1.2.wf (yaI per d).1.2.next 0)) ∧ σ.objs.length ≤ p ∧ p ∉ yay r rm fs'))) → P q σ') → ∃ q σ', Does Tryz.prog prims 31 [.optr r 0, .int .i64 per] σ q σ' ∧ P q σ' from key _ fun _ _ h => h
 intro P hP; apply k31_is.does (by simp); obtain ⟨b, hb⟩ : ∃ b, b = σ.objs.length := ⟨_, rfl⟩; obtain ⟨s1, hs1⟩ : ∃ s1 : St, s1 = ⟨σ.objs ++ [Ob.cells [.nilp]], σ.toks⟩ := ⟨_, rfl⟩; obtain ⟨s2, hs2⟩ : ∃ s2 : St, s2 = ⟨s1.objs ++ [Ob.cells [.nils]], s1.toks⟩ := ⟨_, rfl⟩; obtain ⟨s3, hs3⟩ : ∃ s3 : St, s3 = ⟨s2.objs ++ [Ob.cells [.int .i64 0]], s2.toks⟩ := ⟨_, rfl⟩; obtain ⟨s4, hs4⟩ : ∃ s4 : St, s4 = ⟨s3.objs ++ [Ob.cells [.int .i64 0]], s3.toks⟩ := ⟨_, rfl⟩; have l1 : s1.objs.length = b + 1 := (by rw [hs1, hb]; simp); have l2 : s2.objs.length = b + 2 := (by rw [hs2]; simp [l1]); have l3 : s3.objs.length = b + 3 := (by rw [hs3]; simp [l2]); have l4 : s4.objs.length = b + 4 := (by rw [hs4]; simp [l3]); have k1 : KS [] σ s1 := (by rw [hs1]; exact KS.push _ _ _); have k2 : KS [] s1 s2 := (by rw [hs2]; exact KS.push _ _ _); have k3 : KS [] s2 s3 := (by rw [hs3]; exact KS.push _ _ _); have k4 : KS [] s3 s4 := (by rw [hs4]; exact KS.push _ _ _); have K4 : KS [] σ s4 := ((k1.trans' k2).trans' k3).trans' k4; have c0 : s4.objs[b]? = some (.cells [.nilp]) := k4.ko _ _ (by simp) (k3.ko _ _ (by simp) (k2.ko _ _ (by simp) (by rw [hs1, hb]; exact yap _ _))); have c1 : s4.objs[b + 1]? = some (.cells [.nils]) := k4.ko _ _ (by simp) (k3.ko _ _ (by simp) (by rw [hs2, ← l1]; exact yap _ _)); have c2 : s4.objs[b + 2]? = some (.cells [.int .i64 0]) := k4.ko _ _ (by simp) (by rw [hs3, ← l2]; exact yap _ _); have c3 : s4.objs[b + 3]? = some (.cells [.int .i64 0]) := (by rw [hs4, ← l3]; exact yap _ _); have v0 : yah V.nilp = [.nilp] := rfl; have v1 : yah V.nils = [.nils] := rfl; have v2 : yah (V.int .i64 0) = [.int .i64 0] := rfl; simp only [k31_a, WD, WKV, Nat.reduceLT, Nat.reduceEqDiff, ↓reduceIte, reduceCtorEq, Nat.reduceAdd, Int.reduceLT, Int.reduceNeg, yac, gD0, gD1, ZWp, ZRs, ZIn, ZEr, ycn, v0, v1, v2, ← hs1, ← hs2, ← hs3, ← hs4, ← hb, l1, l2, l3, yaJ, ybd, ybe pTD]
 have early : ∀ (e : Nat), e ≠ 0 → yaI per d = ((e, op0), d) → ∃ t1 t2 t3 t4, yak Tryz.prog s4 54 (.optr b 0) .nilp = some t1 ∧ yak Tryz.prog t1 60 (.optr (b + 1) 0) .nils = some t2 ∧ yak Tryz.prog t2 3 (.optr (b + 2) 0) (.int .i64 0) = some t3 ∧ yak Tryz.prog t3 33 (.optr (b + 3) 0) (.int .i64 (e : Nat)) = some t4 ∧
     yad Tryz.prog t4.objs 54 (.optr b 0) = some .nilp ∧ yad Tryz.prog t4.objs 60 (.optr (b + 1) 0) = some .nils ∧ yad Tryz.prog t4.objs 3 (.optr (b + 2) 0) = some (.int .i64 0) ∧ yad Tryz.prog t4.objs 33 (.optr (b + 3) 0) = some (.int .i64 (e : Nat)) ∧ KS (yay r rm fs) σ t4 ∧ DiskAt t4 r d rm fs := by
   intro e he hD; obtain ⟨t1, g1, a1, x1⟩ := ya7 (u := .nilp) c0 SWp rfl; obtain ⟨t2, g2, a2, x2⟩ := ya7 (u := .nils) (x1.ko _ _ (by simp) c1) SRs rfl; obtain ⟨t3, g3, a3, x3⟩ := ya7 (u := .int .i64 0) (x2.ko _ _ (by simp) (x1.ko _ _ (by simp) c2)) S3 rfl; obtain ⟨t4, g4, a4, x4⟩ := ya7 (u := .int .i64 (e : Nat)) (x3.ko _ _ (by simp) (x2.ko _ _ (by simp) (x1.ko _ _ (by simp) c3))) SEr rfl; have K : KS [] σ t4 := (((K4.trans x1 (fun x hx => by simp at hx; exact .inr (by omega))).trans x2 (fun x hx => by simp at hx; exact .inr (by omega))).trans x3 (fun x hx => by simp at hx; exact .inr (by omega))).trans x4 (fun x hx => by simp at hx; exact .inr (by omega)); exact ⟨t1, t2, t3, t4, g1, g2, g3, g4, yaq (x4.ko _ _ (by simp) (x3.ko _ _ (by simp) (x2.ko _ _ (by simp) a1))) GWp, yaq (x4.ko _ _ (by simp) (x3.ko _ _ (by simp) a2)) GRs, yaq (x4.ko _ _ (by simp) a3) G3, yaq a4 GEr, K.nils, h.pushes K⟩
 by_cases h1 : per < 1
 · have hD : yaI per d = ((1, op0), d) := (by unfold yaI; rw [if_pos h1]); obtain ⟨t1, t2, t3, t4, g1, g2, g3, g4, y1, y2, y3, y4, KF, DF⟩ := early 1 (by decide) hD; have g4 : yak Tryz.prog t3 33 (.optr (b + 3) 0) (.int .i64 1) = some t4 := g4; simp only [k31_a, WD, WKV, Nat.reduceLT, Nat.reduceEqDiff, ↓reduceIte, reduceCtorEq, Nat.reduceAdd, Int.reduceLT, Int.reduceNeg, yac, h1, decide_true, yaJ, ybd, g1, g2, g3, g4, y1, y2, y3, y4, List.append_nil]; exact hP _ _ (by rw [hD]; exact ⟨fs, DF, KF, fun y hy => .inl hy, .inl ⟨by simp, rfl⟩⟩)
 have hdn := yiw (h.pushes K4); simp only [k31_a, WD, WKV, Nat.reduceLT, Nat.reduceEqDiff, ↓reduceIte, reduceCtorEq, Nat.reduceAdd, Int.reduceLT, Int.reduceNeg, yac, h1, decide_false]; refine KD.ret hdn ?_
 cases hon : d.on with
 | false =>
   have hD : yaI per d = ((20, op0), d) := (by unfold yaI; rw [if_neg h1, if_pos hon]); obtain ⟨t1, t2, t3, t4, g1, g2, g3, g4, y1, y2, y3, y4, KF, DF⟩ := early 20 (by decide) hD; have g4 : yak Tryz.prog t3 33 (.optr (b + 3) 0) (.int .i64 20) = some t4 := g4; simp only [k31_a, WD, WKV, Nat.reduceLT, Nat.reduceEqDiff, ↓reduceIte, reduceCtorEq, Nat.reduceAdd, Int.reduceLT, Int.reduceNeg, yac, Bool.not_false, yaJ, ybd, g1, g2, g3, g4, y1, y2, y3, y4, List.append_nil]; exact hP _ _ (by rw [hD]; exact ⟨fs, DF, KF, fun y hy => .inl hy, .inl ⟨by simp, rfl⟩⟩)
 | true =>
   have hD : yaI per d = ybG (yaS d) op0 d := (by unfold yaI; rw [if_neg h1, if_neg (by simp [hon])]); obtain ⟨s5, hs5⟩ : ∃ s5 : St, s5 = ⟨s4.objs ++ [Ob.cells [.optr r 0, .int .i64 per, .int .i64 1, .int .i64 1, .int .i64 0]], s4.toks⟩ := ⟨_, rfl⟩; have k5 : KS [] s4 s5 := (by rw [hs5]; exact KS.push _ _ _); have w5 : s5.objs[b + 4]? = some (.cells [.optr r 0, .int .i64 per, .int .i64 1, .int .i64 1, .int .i64 0]) := (by rw [hs5, ← l4]; exact yap _ _); have hvc : yah (V.agg [.optr r 0, .int .i64 per, .int .i64 1, .int .i64 1, .int .i64 0]) = [.optr r 0, .int .i64 per, .int .i64 1, .int .i64 1, .int .i64 0] := rfl; obtain ⟨s6, g6, a6, x6⟩ := ya7 (u := .optr (b + 4) 0) (k5.ko _ _ (by simp) c0) SWp rfl; have K6 : KS [] σ s6 := (K4.trans' k5).trans x6 (fun x hx => by simp at hx; exact .inr (by omega)); have C6 : OC s6 b r per op0 .nils := ⟨a6, x6.ko _ _ (by simp) (k5.ko _ _ (by simp) c1), x6.ko _ _ (by simp) (k5.ko _ _ (by simp) c2), x6.ko _ _ (by simp) (k5.ko _ _ (by simp) c3), x6.ko _ _ (by simp) w5⟩; have D6 := h.pushes K6; obtain ⟨q7, s7, c7, v7, o7, rfl, n7, K7, I7⟩ := yff D6 hok; have hflt := D6.lt; obtain ⟨L, hL⟩ : ∃ L, L = yaS d := ⟨_, rfl⟩; have hL16 := ybS hok; rw [← hL] at n7 hL16 hD; have R7 : RowS s7 1 v7 (L.map V.str) L.length := yeE n7; simp only [k31_a, WD, WKV, Nat.reduceLT, Nat.reduceEqDiff, ↓reduceIte, reduceCtorEq, Nat.reduceAdd, Int.reduceLT, Int.reduceNeg, yac, Bool.not_true, bldW, ycn, hvc, ← hs5, l4, g6, List.append_nil]; refine KD.ret c7 ?_; simp only [k31_a, WD, WKV, Nat.reduceLT, Nat.reduceEqDiff, ↓reduceIte, reduceCtorEq, Nat.reduceAdd, Int.reduceLT, Int.reduceNeg, yac, R7.len TSS, List.append_nil]
   have fault : ∀ (u : St) (e' : Nat → V) (er : Nat) (st s : OpS) (w : V) (dd' : Dk) (fu' : List Ent), er ≠ 0 → yaI per d = ((er, st), dd') → DiskAt u r dd' rm fu' → KS (yay r rm fs) σ u → (∀ y ∈ yay r rm fu', y ∈ yay r rm fs ∨ σ.objs.length ≤ y) → (∀ k, k < 5 → b + k ∉ yay r rm fu') → OC u b r per s w → e' 4 = .optr b 0 → e' 5 = .optr (b + 1) 0 → e' 6 = .optr (b + 2) 0 → e' 7 = .optr (b + 3) 0 →
       fnDK Tryz.prog prims 84 [ResultVar.cell 4 54, ResultVar.cell 5 60, ResultVar.cell 6 3, ResultVar.cell 7 33] P (.pan (yfN er)) e' u [(70, [V.optr (b + 3) 0, V.optr b 0, V.optr (b + 1) 0, V.optr (b + 2) 0])] := by
     intro u e' er st s w dd' fu' her hop D K I hbk C k4 k5 k6 k7; obtain ⟨u', dS, a3, a0, a1, a2, KK⟩ := yjJ C.c3 C.c0 C.c1 C.c2 (by omega) (by omega) (by omega) (by omega) (by omega) (by omega) her
     have D' : DiskAt u' r dd' rm fu' := D.keep KK (fun x hx => by
       intro hm; simp at hm; rcases hm with rfl | rfl | rfl | rfl
       · exact hbk 3 (by omega) hx
       · exact hbk 0 (by omega) hx
       · exact hbk 1 (by omega) hx
       · exact hbk 2 (by omega) hx)
     refine ⟨u', Leave.cons dS Leave.nil, [.nilp, .nils, .int .i64 0, .int .i64 (er : Nat)], ?_, hP _ _ ?_⟩
     · rw [yaV (by decide), k4, yaq a0 GWp, yaV (by decide), k5, yaq a1 GRs, yaV (by decide), k6, yaq a2 G3, yaV (by decide), k7, yaq a3 GEr, ycN]
     · rw [hop]; exact ⟨fu', D', K.trans KK (fun x hx => by simp at hx; exact .inr (by omega)), I, .inl ⟨her, rfl⟩⟩
   refine Ev.loopF (fun (i : Nat) e u => e 30 = .int .i64 (i : Nat) ∧ i ≤ L.length ∧ ∃ (dd : Dk) (fu : List Ent) (s : OpS) (w : V) (ps : List BV), DiskAt u r dd rm fu ∧ dd.Ok ∧ dd.writes ≤ 100000000 + 3 * i ∧ e 8 = .bool s.brk ∧ OC u b r per s w ∧ OwnB σ.toks.length u w ps ∧ ps.map Prod.snd = s.recs ∧ ps.length ≤ 1048576 * i ∧ KS (yay r rm fs) σ u ∧ (∀ y ∈ yay r rm fu, y ∈ yay r rm fs ∨ σ.objs.length ≤ y) ∧ (∀ k, k < 5 → b + k ∉ yay r rm fu) ∧ yaI per d = ybG (L.drop i) s dd ∧ yaU u.objs v7 = some (o7, L.map V.str) ∧ Free o7 (yay r rm fu) ∧ (∀ x ∈ o7.toList, x < u.objs.length) ∧ s.next ≤ 2000000000) (fun i => L.length - i) 0 ?_ ?_
   · have l5 : s5.objs.length = b + 5 := (by rw [hs5]; simp [l4]); refine ⟨by simp [yaa], Nat.zero_le _, d, fs, op0, .nils, [], D6.pushes K7, hok, by omega, by simp [yaa, op0], C6.keep K7 (by simp), OwnB.nil, rfl, by simp, (K6.trans' K7).nils, fun y hy => .inl hy, fun k hk hx => by have := h.lt _ hx; omega, by rw [List.drop_zero]; exact hD, n7, Free.high I7 hflt, fun x hx => ?_, by simp [op0]⟩; rcases yaC n7 with ⟨_, e0, _⟩ | ⟨r', full, _, e0, hr, _, _⟩
     · rw [e0] at hx; simp at hx
     · rw [e0] at hx; simp at hx; subst hx; exact (gA0.1 hr).1
   rintro i e u ⟨h30, hi, dd, fu, s, w, ps, D, ok, hwr, h8, C, O, hps, hpl, K, I, hbk, hop, hrow, hfree, hlv, hnx⟩ hf; have g0 : e 0 = .optr r 0 := (hf 0 (by decide)).trans (by simp [yaa]); have g4 : e 4 = .optr b 0 := (hf 4 (by decide)).trans (by simp [yaa]); have g5 : e 5 = .optr (b + 1) 0 := (hf 5 (by decide)).trans (by simp [yaa]); have g6' : e 6 = .optr (b + 2) 0 := (hf 6 (by decide)).trans (by simp [yaa]); have g7 : e 7 = .optr (b + 3) 0 := (hf 7 (by decide)).trans (by simp [yaa]); have g28 : e 28 = v7 := (hf 28 (by decide)).trans (by simp [yaa]); have g29 : e 29 = .int .i64 (L.length : Nat) := (hf 29 (by decide)).trans (by simp [yaa]); clear hf; have ld0 := yaq C.c0 GWp; have ld1 := yaq C.c1 GRs; have ld2 := yaq C.c2 G3; have ld3 := yaq C.c3 GEr; by_cases hlt : i < L.length
   · have hlt' : (i : Int) < (L.length : Nat) := (by omega); have hwi : IntKind.i64.wrap ((i : Int) + 1) = ((i + 1 : Nat) : Int) := (by rw [yae (by omega) (by omega)]; omega); have hdrop : L.drop i = L[i] :: L.drop (i + 1) := List.drop_eq_getElem_cons hlt; have RU : RowS u 1 v7 (L.map V.str) L.length := yeE hrow; obtain ⟨pa, ha, hla⟩ := RU.strAt hlt; have hla := hla u (KS.refl _ _); obtain ⟨q8, s8, c8, rfl, K8⟩ := yfx (σ := u) L[i]; simp only [k31_a, WD, WKV, Nat.reduceLT, Nat.reduceEqDiff, ↓reduceIte, reduceCtorEq, Nat.reduceAdd, Int.reduceLT, Int.reduceNeg, yac, h30, g28, g29, hlt', decide_true, ha, hla]; refine KD.ret c8 ?_; by_cases hz : yaX L[i] = 0
     · have hz' : ((yaX L[i] : Nat) : Int) = 0 := (by omega); simp only [k31_a, WD, WKV, Nat.reduceLT, Nat.reduceEqDiff, ↓reduceIte, reduceCtorEq, Nat.reduceAdd, Int.reduceLT, Int.reduceNeg, yac, h30, hz', eq_self, decide_true, hwi]; exact ⟨i + 1, ⟨by simp [yaa], by omega, dd, fu, s, w, ps, D.pushes K8, ok, by omega, by simp [yaa, h8], C.keep K8 (by simp), O.keep K8.tk, hps, by omega, K.trans' K8.nils, I, hbk, by rw [hop, hdrop, ybG, if_pos hz], ybT hrow (fun x _ hx => by simp at hx) K8, hfree, fun x hx => by have := hlv x hx; have := K8.le; omega, hnx⟩, by omega⟩
     · have hz' : ¬ ((yaX L[i] : Nat) : Int) = 0 := (by omega); have D8 := D.pushes K8; have C8 := C.keep K8 (by simp); have f0 := yaq C8.c0 GWp; have f2 := yaq C8.c2 G3; have f3 : yad Tryz.prog s8.objs 3 (.optr (b + 4) 3) = some (.int .i64 (s.next : Nat)) := by rw [yab C8.c4 G3]; rfl
       have mv : ∀ (s9 : St) (d9 : Dk) (fs9 : List Ent), DiskAt s9 r d9 rm fs9 → KS (yay r rm fu) s8 s9 → (∀ x ∈ yay r rm fs9, x ∈ yay r rm fu ∨ s8.objs.length ≤ x) → OC s9 b r per s w ∧ OwnB σ.toks.length s9 w ps ∧ KS (yay r rm fs) σ s9 ∧ (∀ y ∈ yay r rm fs9, y ∈ yay r rm fs ∨ σ.objs.length ≤ y) ∧ (∀ k, k < 5 → b + k ∉ yay r rm fs9) ∧ yaU s9.objs v7 = some (o7, L.map V.str) ∧ Free o7 (yay r rm fs9) ∧ (∀ x ∈ o7.toList, x < s9.objs.length) := by
         intro s9 d9 fs9 D9 K9 I9; refine ⟨C8.keep K9 (fun k hk hx => hbk k hk hx), (O.keep K8.tk).keep K9.tk, (K.trans' K8.nils).trans K9 (fun x hx => I x hx), fun y hy => ?_, fun k hk hx => ?_, ybT (ybT hrow (fun x _ hx => by simp at hx) K8) hfree K9, Free.step hfree (fun x hx => by have := hlv x hx; have := K8.le; omega) I9, fun x hx => by have := hlv x hx; have := K8.le; have := K9.le; omega⟩
         · rcases I9 y hy with h | h
           · exact I y h
           · have := K8.le; have := K.le; exact .inr (by omega)
         · rcases I9 _ hx with h | h
           · exact hbk k hk h
           · have := (gA0.1 C8.c4).1; omega
       have l6 : b + 5 ≤ s6.objs.length := by
         have h5 : s5.objs.length = b + 5 := (by rw [hs5]; simp [l4]); have := x6.le; omega
       have ho7 : ∀ k, k < 5 → b + k ∉ o7.toList := fun k hk hx => by have := I7 _ hx; omega
       have seg : ∀ (su : St) (f : Nat), f = (if s.first = 0 then yaX L[i] else s.first) → DiskAt su r dd rm fu → KS [b + 2] s8 su → OC su b r per { s with first := f } w →
           ∃ q9 s9, Does Tryz.prog prims 73 [.optr r 0, .str L[i]] su q9 s9 ∧ (((ybJ L[i] dd).1.1 ≠ 0 ∧ q9 = .pan (yfN (ybJ L[i] dd).1.1) ∧ ∃ fs9, DiskAt s9 r (ybJ L[i] dd).2 rm fs9 ∧ KS (yay r rm fs) σ s9 ∧ (∀ y ∈ yay r rm fs9, y ∈ yay r rm fs ∨ σ.objs.length ≤ y) ∧ (∀ k, k < 5 → b + k ∉ yay r rm fs9) ∧ OC s9 b r per { s with first := f } w) ∨
             ((ybJ L[i] dd).1.1 = 0 ∧ ∃ (w2 w' : V) (t1 t2 t3 t4 : St) (len : Nat), q9 = .ret w2 ∧ yad Tryz.prog s9.objs 60 (.optr (b + 1) 0) = some w ∧ yaY Tryz.prog s9 60 60 w w2 = some (w', t1) ∧ yak Tryz.prog t1 60 (.optr (b + 1) 0) w' = some t2 ∧ yad Tryz.prog t2.objs 54 (.optr b 0) = some (.optr (b + 4) 0) ∧ ydn Tryz.prog 60 w2 = some (.int .i64 (len : Nat)) ∧ IntKind.i64.wrap (((yaX L[i] : Nat) : Int) + (len : Nat)) = ((yaX L[i] + len : Nat) : Int) ∧
               yak Tryz.prog t2 3 (.optr (b + 4) 2) (.int .i64 (yaX L[i] : Nat)) = some t3 ∧ yad Tryz.prog t3.objs 54 (.optr b 0) = some (.optr (b + 4) 0) ∧ yak Tryz.prog t3 3 (.optr (b + 4) 3) (.int .i64 ((yaX L[i] + len : Nat) : Int)) = some t4 ∧
               ∃ (fs9 : List Ent) (ps9 : List BV), DiskAt t4 r (ybJ L[i] dd).2 rm fs9 ∧ OC t4 b r per (s.more (yaX L[i]) (ybJ L[i] dd).1.2) w' ∧ OwnB σ.toks.length t4 w' ps9 ∧ ps9.map Prod.snd = (s.more (yaX L[i]) (ybJ L[i] dd).1.2).recs ∧ ps9.length ≤ 1048576 * (i + 1) ∧ KS (yay r rm fs) σ t4 ∧ (∀ y ∈ yay r rm fs9, y ∈ yay r rm fs ∨ σ.objs.length ≤ y) ∧ (∀ k, k < 5 → b + k ∉ yay r rm fs9) ∧ yaU t4.objs v7 = some (o7, L.map V.str) ∧ Free o7 (yay r rm fs9) ∧ (∀ x ∈ o7.toList, x < t4.objs.length) ∧ (s.more (yaX L[i]) (ybJ L[i] dd).1.2).next ≤ 2000000000)) := by
         intro su f hfe Du ku Cu; obtain ⟨q9, s9, c9, ⟨fs9, D9, K9, I9⟩, hres⟩ := yif L[i] Du ok (by omega); have hnl := yhI L[i]; have hsl := yj4 (n := L[i]) ok; have hkle := ku.le; have hc4 := (gA0.1 C8.c4).1
         have C9 : OC s9 b r per { s with first := f } w := Cu.keep K9 (fun k hk hx => hbk k hk hx)
         have Ku : KS (yay r rm fs) σ su := (K.trans' K8.nils).trans ku (fun x hx => by simp at hx; exact .inr (by omega)); have K9' : KS (yay r rm fs) σ s9 := Ku.trans K9 (fun x hx => I x hx)
         have I9' : ∀ y ∈ yay r rm fs9, y ∈ yay r rm fs ∨ σ.objs.length ≤ y := fun y hy => by
           rcases I9 y hy with h | h
           · exact I y h
           · have := Ku.le; exact .inr (by omega)
         have hbk9 : ∀ k, k < 5 → b + k ∉ yay r rm fs9 := fun k hk hx => by
           rcases I9 _ hx with h | h
           · exact hbk k hk h
           · omega
         have hrow8 : yaU s8.objs v7 = some (o7, L.map V.str) := ybT hrow (fun x _ hx => by simp at hx) K8
         have hrowu : yaU su.objs v7 = some (o7, L.map V.str) := ybT hrow8 (fun x hx hx2 => by
           simp at hx2; subst hx2; exact ho7 2 (by omega) (by simpa using hx)) ku
         have hrow9 : yaU s9.objs v7 = some (o7, L.map V.str) := ybT hrowu hfree K9; have hfree9 : Free o7 (yay r rm fs9) := Free.step hfree (fun x hx => by have := hlv x hx; have := K8.le; omega) I9; refine ⟨q9, s9, c9, ?_⟩; rcases hres with ⟨he, w2, qs, rfl, hq, hqb, hqs⟩ | ⟨he, rfl⟩
         · refine .inr ⟨he, ?_⟩; have hql : qs.length = (ybJ L[i] dd).1.2.length := (by rw [← hqs, List.length_map]); have O9 : OwnB σ.toks.length s9 w ps := ((O.keep K8.tk).keep ku.tk).keep K9.tk; obtain ⟨w', t1, p1, p2, p3, p4⟩ := O9.apps (σ := σ) ⟨fun _ _ _ h => h, Nat.le_refl _, K9'.tl, K9'.tk⟩ hq hqb (by have : 1048576 * i ≤ 1048576 * 16 := Nat.mul_le_mul_left _ (by omega); omega); have D1 : DiskAt t1 r (ybJ L[i] dd).2 rm fs9 := ⟨by rw [p4]; exact D9.hd, by rw [p4]; exact D9.hm, by rw [p4]; exact D9.hf, D9.nd, D9.pm⟩; have K1 : KS (yay r rm fs) σ t1 := ⟨fun r o hr ho => by rw [p4]; exact K9'.ko r o hr ho, by rw [p4]; exact K9'.le, p3.tl, p3.tk⟩
           have C1 : OC t1 b r per { s with first := f } w := ⟨by rw [p4]; exact C9.c0, by rw [p4]; exact C9.c1, by rw [p4]; exact C9.c2, by rw [p4]; exact C9.c3, by rw [p4]; exact C9.c4⟩
           have hrow1 : yaU t1.objs v7 = some (o7, L.map V.str) := (by rw [p4]; exact hrow9); obtain ⟨t2, y2, a2, x2⟩ := ya7 (u := w') C1.c1 SRs p2.o.row.one; have z4 : t2.objs[b + 4]? = some (.cells (yaB r per s.wf s.next 0)) := x2.ko _ _ (by simp) C1.c4; obtain ⟨t3, ht3⟩ : ∃ t3 : St, t3 = ⟨t2.objs.set (b + 4) (.cells (yaB r per (yaX L[i]) s.next 0)), t2.toks⟩ := ⟨_, rfl⟩; have y3 : yak Tryz.prog t2 3 (.optr (b + 4) 2) (.int .i64 (yaX L[i] : Nat)) = some t3 := (by rw [yag z4 S3 rfl (by simp [yaB]), ht3]; rfl); have z3 : t3.objs[b + 4]? = some (.cells (yaB r per (yaX L[i]) s.next 0)) := (by rw [ht3]; exact yaM z4); have x3 : KS [b + 4] t2 t3 := (by rw [ht3]; exact KS.set (.inl (by simp)) _); obtain ⟨t4, ht4⟩ : ∃ t4 : St, t4 = ⟨t3.objs.set (b + 4) (.cells (yaB r per (yaX L[i]) (yaX L[i] + qs.length) 0)), t3.toks⟩ := ⟨_, rfl⟩; have y4 : yak Tryz.prog t3 3 (.optr (b + 4) 3) (.int .i64 ((yaX L[i] + qs.length : Nat) : Int)) = some t4 := (by rw [yag z3 S3 rfl (by simp [yaB]), ht4]; rfl); have z5 : t4.objs[b + 4]? = some (.cells (yaB r per (yaX L[i]) (yaX L[i] + qs.length) 0)) := (by rw [ht4]; exact yaM z3); have x4 : KS [b + 4] t3 t4 := (by rw [ht4]; exact KS.set (.inl (by simp)) _); have KK : KS [b + 1, b + 4] t1 t4 := ((x2.over (by simp)).trans' (x3.over (by simp))).trans' (x4.over (by simp)); have m0 := x2.ko _ _ (by simp) C1.c0; refine ⟨w2, w', t1, t2, t3, t4, qs.length, rfl, yaq C9.c1 GRs, p1, y2, yaq m0 GWp, hq.len, by rw [yae (by omega) (by omega)]; omega, y3, yaq (x3.ko _ _ (by simp) m0) GWp, y4, fs9, ps ++ qs, ?_, ?_, p2.keep KK.tk, ?_, ?_, ?_, I9', hbk9, ?_, hfree9, ?_, ?_⟩
           · exact D1.keep KK (fun x hx hm => by
               simp at hm; rcases hm with rfl | rfl
               · exact hbk9 1 (by omega) hx
               · exact hbk9 4 (by omega) hx)
           · exact ⟨KK.ko _ _ (by simp) C1.c0, x4.ko _ _ (by simp) (x3.ko _ _ (by simp) a2), by
               have := KK.ko _ _ (by simp) C1.c2; rw [this]; simp only [OpS.more, hfe], KK.ko _ _ (by simp) C1.c3, by rw [z5, hql]; rfl⟩
           · rw [List.map_append, hps, hqs]; rfl
           · rw [List.length_append]; omega
           · exact K1.trans KK (fun x hx => by simp at hx; exact .inr (by omega))
           · exact ybT hrow1 (fun x hx hx2 => by
               simp at hx2; rcases hx2 with rfl | rfl
               · exact ho7 1 (by omega) (by simpa using hx)
               · exact ho7 4 (by omega) (by simpa using hx)) KK
           · intro x hx; have h1 := hlv x hx; have h2 := K8.le; have h3 := K9.le; have h4 := KK.le; rw [p4] at h4; omega
           · simp only [OpS.more]; omega
         · exact .inl ⟨he, rfl, fs9, D9, K9', I9', hbk9, C9⟩
       by_cases hsk : s.skips (yaX L[i])
       · obtain ⟨q9, s9, c9, rfl, fs9, D9, K9, I9⟩ := yf8 (n := L[i]) D8 ok (by omega); obtain ⟨ok9, hw9⟩ := ycx (n := L[i]) ok; obtain ⟨C9, O9, K9', I9', hbk9, hrow9, hfree9, hlv9⟩ := mv s9 _ fs9 D9 K9 I9; have hfp : (0 : Int) < ((s.first : Nat) : Int) := (by have := hsk.1; omega); have hrest : ∀ (e9 : Nat → V), True := fun _ => trivial
         cases hbr : s.brk with
         | true =>
           rw [hbr] at h8; simp only [k31_a, WD, WKV, Nat.reduceLT, Nat.reduceEqDiff, ↓reduceIte, reduceCtorEq, Nat.reduceAdd, Int.reduceLT, Int.reduceNeg, yac, h30, h8, g0, g4, g6', hz', hfp, f2, decide_true, decide_false]; refine KD.ret c9 ?_; simp only [k31_a, WD, WKV, Nat.reduceLT, Nat.reduceEqDiff, ↓reduceIte, reduceCtorEq, Nat.reduceAdd, Int.reduceLT, Int.reduceNeg, yac]; by_cases e9 : (yaj L[i] dd).1 = 0
           · refine KD.ret (ygk e9) ?_; simp only [k31_a, WD, WKV, Nat.reduceLT, Nat.reduceEqDiff, ↓reduceIte, reduceCtorEq, Nat.reduceAdd, Int.reduceLT, Int.reduceNeg, yac, h30, hwi]
             exact ⟨i + 1, ⟨by simp [yaa], by omega, (yaj L[i] dd).2, fs9, { s with brk := true }, w, ps, D9, ok9, by omega, by simp [yaa], ⟨C9.c0, C9.c1, C9.c2, C9.c3, C9.c4⟩, O9, hps, by omega, K9', I9', hbk9, by rw [hop, hdrop, ybG, if_neg hz, if_pos hsk, if_neg (by omega)], hrow9, hfree9, hlv9, hnx⟩, by omega⟩
           · refine KD.pan (yeM e9) ?_; simp only [k31_a, WD, WKV, Nat.reduceLT, Nat.reduceEqDiff, ↓reduceIte, reduceCtorEq, Nat.reduceAdd, Int.reduceLT, Int.reduceNeg, yac, List.nil_append, List.append_nil]; exact fault s9 _ _ s s w _ fs9 e9 (by rw [hop, hdrop, ybG, if_neg hz, if_pos hsk, if_pos e9]) D9 K9' I9' hbk9 C9 (by simp [yaa, g4]) (by simp [yaa, g5]) (by simp [yaa, g6']) (by simp [yaa, g7])
         | false =>
           rw [hbr] at h8
           have hnn : ¬ ((yaX L[i] : Nat) : Int) = ((s.next : Nat) : Int) := by
             rcases hsk.2 with h | h
             · rw [hbr] at h; cases h
             · omega
           simp only [k31_a, WD, WKV, Nat.reduceLT, Nat.reduceEqDiff, ↓reduceIte, reduceCtorEq, Nat.reduceAdd, Int.reduceLT, Int.reduceNeg, yac, h30, h8, g0, g4, g6', hz', hfp, f0, f2, wFA (b + 4) 3 (by omega), f3, hnn, decide_true, decide_false, Bool.not_false]; refine KD.ret c9 ?_; simp only [k31_a, WD, WKV, Nat.reduceLT, Nat.reduceEqDiff, ↓reduceIte, reduceCtorEq, Nat.reduceAdd, Int.reduceLT, Int.reduceNeg, yac]; by_cases e9 : (yaj L[i] dd).1 = 0
           · refine KD.ret (ygk e9) ?_; simp only [k31_a, WD, WKV, Nat.reduceLT, Nat.reduceEqDiff, ↓reduceIte, reduceCtorEq, Nat.reduceAdd, Int.reduceLT, Int.reduceNeg, yac, h30, hwi]
             exact ⟨i + 1, ⟨by simp [yaa], by omega, (yaj L[i] dd).2, fs9, { s with brk := true }, w, ps, D9, ok9, by omega, by simp [yaa], ⟨C9.c0, C9.c1, C9.c2, C9.c3, C9.c4⟩, O9, hps, by omega, K9', I9', hbk9, by rw [hop, hdrop, ybG, if_neg hz, if_pos hsk, if_neg (by omega)], hrow9, hfree9, hlv9, hnx⟩, by omega⟩
           · refine KD.pan (yeM e9) ?_; simp only [k31_a, WD, WKV, Nat.reduceLT, Nat.reduceEqDiff, ↓reduceIte, reduceCtorEq, Nat.reduceAdd, Int.reduceLT, Int.reduceNeg, yac, List.nil_append, List.append_nil]; exact fault s9 _ _ s s w _ fs9 e9 (by rw [hop, hdrop, ybG, if_neg hz, if_pos hsk, if_pos e9]) D9 K9' I9' hbk9 C9 (by simp [yaa, g4]) (by simp [yaa, g5]) (by simp [yaa, g6']) (by simp [yaa, g7])
       · by_cases hf0 : s.first = 0
         · have hfp : ¬ (0 : Int) < ((s.first : Nat) : Int) := (by omega); have hf0' : ((s.first : Nat) : Int) = 0 := (by omega); obtain ⟨u9, y9, a9, x9⟩ := ya7 (u := .int .i64 (yaX L[i] : Nat)) C8.c2 S3 rfl; simp only [k31_a, WD, WKV, Nat.reduceLT, Nat.reduceEqDiff, ↓reduceIte, reduceCtorEq, Nat.reduceAdd, Int.reduceLT, Int.reduceNeg, yac, h30, h8, g0, g4, g6', hz', hfp, f0, f2, hf0', y9, eq_self, decide_true, decide_false]; have hso := yir (n := L[i]) ok; obtain ⟨q9, s9, c9, hres⟩ := seg u9 (yaX L[i]) (by rw [if_pos hf0]) (D8.keep x9 (fun x hx hm => by simp at hm; subst hm; exact hbk 2 (by omega) hx)) x9 ⟨x9.ko _ _ (by simp) C8.c0, x9.ko _ _ (by simp) C8.c1, a9, x9.ko _ _ (by simp) C8.c3, x9.ko _ _ (by simp) C8.c4⟩; rcases hres with ⟨he, rfl, fs9, D9, K9', I9', hbk9, C9⟩ | ⟨he, w2, w', t1, t2, t3, t4, len, rfl, m1, m2, m3, m4, m5, m6, m7, m8, m9, fs9, ps9, D9, C9, O9, P9, L9, K9', I9', hbk9, hrow9, hfree9, hlv9, N9⟩
           · refine KD.pan c9 ?_; simp only [k31_a, WD, WKV, Nat.reduceLT, Nat.reduceEqDiff, ↓reduceIte, reduceCtorEq, Nat.reduceAdd, Int.reduceLT, Int.reduceNeg, yac, List.nil_append, List.append_nil]; exact fault s9 _ _ s _ w _ fs9 he (by rw [hop, hdrop, ybG, if_neg hz, if_neg hsk, if_pos he]) D9 K9' I9' hbk9 C9 (by simp [yaa, g4]) (by simp [yaa, g5]) (by simp [yaa, g6']) (by simp [yaa, g7])
           · refine KD.ret c9 ?_; simp only [k31_a, WD, WKV, Nat.reduceLT, Nat.reduceEqDiff, ↓reduceIte, reduceCtorEq, Nat.reduceAdd, Int.reduceLT, Int.reduceNeg, yac, h30, g4, g5, g6', g7, m1, m2, m3, m4, m5, m6, m7, m8, m9, wFA (b + 4) 2 (by omega), wFA (b + 4) 3 (by omega), hwi]; exact ⟨i + 1, ⟨by simp [yaa], by omega, (ybJ L[i] dd).2, fs9, s.more (yaX L[i]) (ybJ L[i] dd).1.2, w', ps9, D9, hso.1, by have := hso.2; omega, by simp [yaa, h8, OpS.more], C9, O9, P9, L9, K9', I9', hbk9, by rw [hop, hdrop, ybG, if_neg hz, if_neg hsk, if_neg (by omega)], hrow9, hfree9, hlv9, N9⟩, by omega⟩
         · have hfp : (0 : Int) < ((s.first : Nat) : Int) := (by omega); have hf0' : ¬ ((s.first : Nat) : Int) = 0 := by omega
           have hbr : s.brk = false := by
             cases hb : s.brk with
             | false => rfl
             | true => exact absurd ⟨by omega, .inl hb⟩ hsk
           have hnn : ((yaX L[i] : Nat) : Int) = ((s.next : Nat) : Int) := by
             have : yaX L[i] = s.next := Classical.byContradiction fun h => hsk ⟨by omega, .inr h⟩; omega
           rw [hbr] at h8; have hnt : (((yaX L[i] : Nat) : Int) = ((s.next : Nat) : Int)) = True := eq_true hnn; clear hnn; simp only [k31_a, WD, WKV, Nat.reduceLT, Nat.reduceEqDiff, ↓reduceIte, reduceCtorEq, Nat.reduceAdd, Int.reduceLT, Int.reduceNeg, yac, h30, h8, g0, g4, g6', hz', hfp, f0, f2, hf0', wFA (b + 4) 3 (by omega), f3, hnt, decide_true, decide_false, Bool.not_true]; have hso := yir (n := L[i]) ok; obtain ⟨q9, s9, c9, hres⟩ := seg s8 s.first (by rw [if_neg hf0]) D8 (KS.refl _ _) ⟨C8.c0, C8.c1, C8.c2, C8.c3, C8.c4⟩; rcases hres with ⟨he, rfl, fs9, D9, K9', I9', hbk9, C9⟩ | ⟨he, w2, w', t1, t2, t3, t4, len, rfl, m1, m2, m3, m4, m5, m6, m7, m8, m9, fs9, ps9, D9, C9, O9, P9, L9, K9', I9', hbk9, hrow9, hfree9, hlv9, N9⟩
           · refine KD.pan c9 ?_; simp only [k31_a, WD, WKV, Nat.reduceLT, Nat.reduceEqDiff, ↓reduceIte, reduceCtorEq, Nat.reduceAdd, Int.reduceLT, Int.reduceNeg, yac, List.nil_append, List.append_nil]; exact fault s9 _ _ s _ w _ fs9 he (by rw [hop, hdrop, ybG, if_neg hz, if_neg hsk, if_pos he]) D9 K9' I9' hbk9 C9 (by simp [yaa, g4]) (by simp [yaa, g5]) (by simp [yaa, g6']) (by simp [yaa, g7])
           · refine KD.ret c9 ?_; simp only [k31_a, WD, WKV, Nat.reduceLT, Nat.reduceEqDiff, ↓reduceIte, reduceCtorEq, Nat.reduceAdd, Int.reduceLT, Int.reduceNeg, yac, h30, g4, g5, g6', g7, m1, m2, m3, m4, m5, m6, m7, m8, m9, wFA (b + 4) 2 (by omega), wFA (b + 4) 3 (by omega), hwi]; exact ⟨i + 1, ⟨by simp [yaa], by omega, (ybJ L[i] dd).2, fs9, s.more (yaX L[i]) (ybJ L[i] dd).1.2, w', ps9, D9, hso.1, by have := hso.2; omega, by simp [yaa, h8, OpS.more, hbr], C9, O9, P9, L9, K9', I9', hbk9, by rw [hop, hdrop, ybG, if_neg hz, if_neg hsk, if_neg (by omega)], hrow9, hfree9, hlv9, N9⟩, by omega⟩
   · have hlt' : ¬ (i : Int) < (L.length : Nat) := (by omega); have hdrop : L.drop i = [] := List.drop_of_length_le (by omega); rw [hdrop, ybG] at hop; have h1w : one w = true := O.o.row.one
     have last : ∀ (u1 : St) (f : Nat), KS (yay r rm fs) σ u1 → (∀ x, KS x u u1 → True) → u1.objs[b]? = some (.cells [.optr (b + 4) 0]) → u1.objs[b + 1]? = some (.cells [w]) → u1.objs[b + 2]? = some (.cells [.int .i64 (f : Nat)]) → u1.objs[b + 3]? = some (.cells [.int .i64 0]) → u1.objs[b + 4]? = some (.cells (yaB r per s.wf s.next 0)) → DiskAt u1 r dd rm fu → f = s.from →
         ∃ t1 t2 t3 t4, yak Tryz.prog u1 54 (.optr b 0) (.optr (b + 4) 0) = some t1 ∧ yak Tryz.prog t1 60 (.optr (b + 1) 0) w = some t2 ∧ yak Tryz.prog t2 3 (.optr (b + 2) 0) (.int .i64 (f : Nat)) = some t3 ∧ yak Tryz.prog t3 33 (.optr (b + 3) 0) (.int .i64 0) = some t4 ∧
           yad Tryz.prog t1.objs 60 (.optr (b + 1) 0) = some w ∧ yad Tryz.prog t1.objs 3 (.optr (b + 2) 0) = some (.int .i64 (f : Nat)) ∧ yad Tryz.prog t2.objs 3 (.optr (b + 2) 0) = some (.int .i64 (f : Nat)) ∧
           ∀ (e' : Nat → V), e' 4 = .optr b 0 → e' 5 = .optr (b + 1) 0 → e' 6 = .optr (b + 2) 0 → e' 7 = .optr (b + 3) 0 → fnDK Tryz.prog prims 84 [ResultVar.cell 4 54, ResultVar.cell 5 60, ResultVar.cell 6 3, ResultVar.cell 7 33] P .ret e' t4 [(70, [V.optr (b + 3) 0, V.optr b 0, V.optr (b + 1) 0, V.optr (b + 2) 0])] := by
       intro u1 f K1 _ c0 c1 c2 c3 c4 D1 hfr; obtain ⟨t1, y1, a1, x1⟩ := ya7 (u := .optr (b + 4) 0) c0 SWp rfl; obtain ⟨t2, y2, a2, x2⟩ := ya7 (u := w) (x1.ko _ _ (by simp) c1) SRs h1w; obtain ⟨t3, y3, a3, x3⟩ := ya7 (u := .int .i64 (f : Nat)) (x2.ko _ _ (by simp) (x1.ko _ _ (by simp) c2)) S3 rfl; obtain ⟨t4, y4, a4, x4⟩ := ya7 (u := .int .i64 0) (x3.ko _ _ (by simp) (x2.ko _ _ (by simp) (x1.ko _ _ (by simp) c3))) SEr rfl; have KK : KS [b, b + 1, b + 2, b + 3] u1 t4 := (((x1.over (by simp)).trans' (x2.over (by simp))).trans' (x3.over (by simp))).trans' (x4.over (by simp)); refine ⟨t1, t2, t3, t4, y1, y2, y3, y4, yaq (x1.ko _ _ (by simp) c1) GRs, yaq (x1.ko _ _ (by simp) c2) G3, yaq (x2.ko _ _ (by simp) (x1.ko _ _ (by simp) c2)) G3, fun e' k4 k5 k6 k7 => ?_⟩; have z0 := x4.ko _ _ (by simp) (x3.ko _ _ (by simp) (x2.ko _ _ (by simp) a1)); have z1 := x4.ko _ _ (by simp) (x3.ko _ _ (by simp) a2); have z2 := x4.ko _ _ (by simp) a3
       have D4' : DiskAt t4 r dd rm fu := D1.keep KK (fun x hx => by
         intro hm; simp at hm; rcases hm with rfl | rfl | rfl | rfl
         · exact hbk 0 (by omega) hx
         · exact hbk 1 (by omega) hx
         · exact hbk 2 (by omega) hx
         · exact hbk 3 (by omega) hx)
       have K4' : KS (yay r rm fs) σ t4 := K1.trans KK (fun x hx => by simp at hx; exact .inr (by omega)); refine ⟨t4, Leave.cons (yj1 a4) Leave.nil, [.optr (b + 4) 0, w, .int .i64 (f : Nat), .int .i64 0], ?_, hP _ _ ?_⟩
       · rw [yaV (by decide), k4, yaq z0 GWp, yaV (by decide), k5, yaq z1 GRs, yaV (by decide), k6, yaq z2 G3, yaV (by decide), k7, yaq a4 GEr, ycN]
       · rw [hop]; exact ⟨fu, D4', K4', I, .inr ⟨rfl, b + 4, w, ps, by rw [hfr]; rfl, O.pts, O.b, hps, KK.ko _ _ (by simp) c4, by omega, hbk 4 (by omega)⟩⟩
     by_cases hf0 : s.first = 0
     · have hf0' : ((s.first : Nat) : Int) = 0 := (by omega); obtain ⟨u1, y0, a0, x0⟩ := ya7 (u := .int .i64 1) C.c2 S3 rfl; have C0 := x0.ko _ _ (by simp) C.c0; have C1 := x0.ko _ _ (by simp) C.c1; have C3 := x0.ko _ _ (by simp) C.c3; have C4 := x0.ko _ _ (by simp) C.c4; obtain ⟨t1, t2, t3, t4, y1, y2, y3, y4, m1, m2, m3, fin⟩ := last u1 1 (K.trans x0 (fun x hx => by simp at hx; exact .inr (by omega))) (fun _ _ => trivial) C0 C1 a0 C3 C4 (D.keep x0 (fun x hx hm => by simp at hm; subst hm; exact hbk 2 (by omega) hx)) (by unfold OpS.from; rw [if_pos hf0]); have y3 : yak Tryz.prog t2 3 (.optr (b + 2) 0) (.int .i64 1) = some t3 := y3; have m2 : yad Tryz.prog t1.objs 3 (.optr (b + 2) 0) = some (.int .i64 1) := m2; have m3 : yad Tryz.prog t2.objs 3 (.optr (b + 2) 0) = some (.int .i64 1) := m3; simp only [k31_a, WD, WKV, Nat.reduceLT, Nat.reduceEqDiff, ↓reduceIte, reduceCtorEq, Nat.reduceAdd, Int.reduceLT, Int.reduceNeg, yac, h30, g29, hlt', decide_false, decide_true, eq_self, g4, g5, g6', g7, ld2, hf0', y0, yaq C0 GWp, yaq C1 GRs, yaq a0 G3, y1, y2, y3, y4, m1, m2, m3, List.nil_append, List.append_nil]; exact fin _ (by simp [yaa, g4]) (by simp [yaa, g5]) (by simp [yaa, g6']) (by simp [yaa, g7])
     · have hf0' : ¬ ((s.first : Nat) : Int) = 0 := (by omega); obtain ⟨t1, t2, t3, t4, y1, y2, y3, y4, m1, m2, m3, fin⟩ := last u s.first K (fun _ _ => trivial) C.c0 C.c1 C.c2 C.c3 C.c4 D (by unfold OpS.from; rw [if_neg hf0]); simp only [k31_a, WD, WKV, Nat.reduceLT, Nat.reduceEqDiff, ↓reduceIte, reduceCtorEq, Nat.reduceAdd, Int.reduceLT, Int.reduceNeg, yac, h30, g29, hlt', decide_false, g4, g5, g6', g7, ld0, ld1, ld2, hf0', y1, y2, y3, y4, m1, m2, m3, List.nil_append, List.append_nil]; exact fin _ (by simp [yaa, g4]) (by simp [yaa, g5]) (by simp [yaa, g6']) (by simp [yaa, g7])
structure Jn where
 per : Int
 wf : Nat
 next : Nat
 sick : Nat
def Jn.cells (j : Jn) (r : Nat) : List V := yaB r j.per j.wf j.next j.sick
def Jn.to (j : Jn) : Nat := if j.per ≤ (j.next : Int) - j.wf then j.next else j.wf
def yct (b : List UInt8) (j : Jn) (d : Dk) : (Nat × Nat) × Jn × Dk :=
 if 65536 < b.length then ((0, 3), j, d) else
 if j.sick ≠ 0 then ((0, j.sick), j, d) else
 if ya0 106 1 (j.to : Nat) = [] then ((0, 22), j, d) else
 let a := yaf (ya0 106 1 (j.to : Nat)) (yar b) d
 if a.1 = 3 ∨ a.1 = 22 then ((0, 22), j, a.2) else
 let y : Nat × Dk := if a.1 = 0 then yaO (ya0 106 1 (j.to : Nat)) a.2 else a
 if y.1 ≠ 0 then ((0, y.1), { j with sick := y.1 }, y.2) else ((j.next, 0), { j with wf := j.to, next := j.next + 1 }, y.2)
theorem TWp : Tryz.prog.underlying 54 = some (.pointer 93) := by kernel_rfl
theorem GDp : ybc Tryz.prog 26 = some false := by kernel_rfl
theorem ymC {σ : St} {r rm p : Nat} {d : Dk} {fs : List Ent} {j : Jn} {x : V} {b : List UInt8} (h : DiskAt σ r d rm fs) (hok : d.Ok) (hw : d.writes ≤ 1000000000) (hp : σ.objs[p]? = some (.cells (j.cells r))) (hpf : p ∉ yay r rm fs) (hb : BtsV x b) (hl : b.length ≤ 100000000) (hj : j.wf ≤ j.next) (hn : j.next ≤ 4000000000) :
   ∃ q σ', Does Tryz.prog prims 27 [.optr p 0, x] σ q σ' ∧ (∃ fs', DiskAt σ' r (yct b j d).2.2 rm fs' ∧ KS (p :: yay r rm fs) σ σ' ∧ (∀ y ∈ yay r rm fs', y ∈ yay r rm fs ∨ σ.objs.length ≤ y) ∧ p ∉ yay r rm fs' ∧ σ'.objs[p]? = some (.cells ((yct b j d).2.1.cells r)) ∧ q = .ret (.tuple [.int .i64 ((yct b j d).1.1 : Nat), .int .i64 ((yct b j d).1.2 : Nat)])) := by
 suffices key : ∀ P : VRes → St → Prop, (∀ q σ', (∃ fs', DiskAt σ' r (yct b j d).2.2 rm fs' ∧ KS (p :: yay r rm fs) σ σ' ∧ (∀ y ∈ yay r rm fs', y ∈ yay r rm fs ∨ σ.objs.length ≤ y) ∧ p ∉ yay r rm fs' ∧ σ'.objs[p]? = some (.cells ((yct b j d).2.1.cells r)) ∧ q = .ret (.tuple [.int .i64 ((yct b j d).1.1 : Nat), .int .i64 ((yct b j d).1.2 : Nat)])) → P q σ') → ∃ q σ', Does Tryz.prog prims 27 [.optr p 0, x] σ q σ' ∧ P q σ' from key _ fun _ _ h => h
 intro P hP; apply k27_is.does (by simp); obtain ⟨q1, s1, c1, v1, rfl, b1, k1⟩ := ylF (σ := σ) hb hl; have D1 := h.pushes (k1.ks []); have K1 : KS [] σ s1 := k1.ks []; have P1 := K1.ko _ _ (by simp) hp; have lS : ∀ s : St, s.objs[p]? = some (.cells (j.cells r)) → yad Tryz.prog s.objs 33 (.optr p 4) = some (.int .i64 (j.sick : Nat)) := fun s h => by rw [yab h GEr]; rfl
 have lN : ∀ s : St, s.objs[p]? = some (.cells (j.cells r)) → yad Tryz.prog s.objs 3 (.optr p 3) = some (.int .i64 (j.next : Nat)) := fun s h => by rw [yab h G3]; rfl
 have lF : ∀ s : St, s.objs[p]? = some (.cells (j.cells r)) → yad Tryz.prog s.objs 3 (.optr p 2) = some (.int .i64 (j.wf : Nat)) := fun s h => by rw [yab h G3]; rfl
 have lP : ∀ s : St, s.objs[p]? = some (.cells (j.cells r)) → yad Tryz.prog s.objs 3 (.optr p 1) = some (.int .i64 j.per) := fun s h => by rw [yab h G3]; rfl
 have lD : ∀ s : St, s.objs[p]? = some (.cells (j.cells r)) → yad Tryz.prog s.objs 26 (.optr p 0) = some (.optr r 0) := fun s h => by rw [yab h GDp]; rfl
 have I1 : ∀ y ∈ yay r rm fs, y ∈ yay r rm fs ∨ σ.objs.length ≤ y := fun y hy => .inl hy; simp only [k27_a, WKV, Nat.reduceLT, Nat.reduceEqDiff, ↓reduceIte, reduceCtorEq, Nat.reduceAdd, Int.reduceLT, Int.reduceNeg, yac, gD0, gD1, yaJ, ybe TWp]; refine KD.ret c1 ?_; by_cases h3 : 65536 < b.length
 · have eF : (ybI b).2 = 3 := (by unfold ybI; rw [if_pos h3]); have eA : yct b j d = ((0, 3), j, d) := (by unfold yct; rw [if_pos h3]); have n3 : ¬ ((3 : Nat) : Int) = 0 := (by omega); simp only [k27_a, WKV, Nat.reduceLT, Nat.reduceEqDiff, ↓reduceIte, reduceCtorEq, Nat.reduceAdd, Int.reduceLT, Int.reduceNeg, yac, eF, n3, decide_false, Bool.not_false]; exact hP _ _ (by rw [eA]; exact ⟨fs, D1, K1.nils, I1, hpf, P1, rfl⟩)
 have eF : ybI b = (yar b, 0) := (by unfold ybI; rw [if_neg h3]); rw [eF] at b1; have b1 : BtsV v1 (yar b) := b1; simp only [k27_a, WKV, Nat.reduceLT, Nat.reduceEqDiff, ↓reduceIte, reduceCtorEq, Nat.reduceAdd, Int.reduceLT, Int.reduceNeg, yac, eF, Int.natCast_zero, eq_self, decide_true, Bool.not_true, wFA p 4 (by omega), lS s1 P1]; by_cases hs : j.sick = 0
 rotate_left
 · have hs' : ¬ ((j.sick : Nat) : Int) = 0 := (by omega); have eA : yct b j d = ((0, j.sick), j, d) := (by unfold yct; rw [if_neg h3, if_pos hs]); simp only [k27_a, WKV, Nat.reduceLT, Nat.reduceEqDiff, ↓reduceIte, reduceCtorEq, Nat.reduceAdd, Int.reduceLT, Int.reduceNeg, yac, hs', decide_false, Bool.not_false, wFA p 4 (by omega), lS s1 P1]; exact hP _ _ (by rw [eA]; exact ⟨fs, D1, K1.nils, I1, hpf, P1, rfl⟩)
 have hs' : ((j.sick : Nat) : Int) = 0 := (by omega); have hws : IntKind.i64.wrap (((j.next : Nat) : Int) - ((j.wf : Nat) : Int)) = ((j.next : Nat) : Int) - ((j.wf : Nat) : Int) := yae (by omega) (by omega); obtain ⟨K, hK⟩ : ∃ K, K = yjh Tryz.prog prims 97 ((.seq (.region k27_r11) (.seq (.seq (.region k27_r12) (.cond (.tmp 51) (.seq (.region k27_r13) .ret) .skip)) (.seq (.region k27_r14) (.seq (.seq (.region k27_r15) (.cond (.tmp 64) (.seq (.region k27_r16) .ret) .skip)) (.seq (.seq (.region k27_r17) (.cond (.tmp 66) (.region k27_r18) .skip)) (.seq (.seq (.region k27_r19) (.cond (.tmp 74) (.seq (.region k27_r20) (.seq (.region k27_r21) .ret)) .skip)) (.seq (.region k27_r22) (.seq (.region k27_r23) .ret)))))))) : CC) (fnK Tryz.prog 97 [ResultVar.tmp 4, ResultVar.tmp 5] P) := ⟨_, rfl⟩; obtain ⟨J, hJ⟩ : ∃ J, J = yjh Tryz.prog prims 97 ((.seq (.seq (.region k27_r19) (.cond (.tmp 74) (.seq (.region k27_r20) (.seq (.region k27_r21) .ret)) .skip)) (.seq (.region k27_r22) (.seq (.region k27_r23) .ret))) : CC) (fnK Tryz.prog 97 [ResultVar.tmp 4, ResultVar.tmp 5] P) := ⟨_, rfl⟩; obtain ⟨nm, hnm⟩ : ∃ nm, nm = ya0 106 1 (j.to : Nat) := ⟨_, rfl⟩
 -- behind the writes
 have back : ∀ (e : Nat → V) (s : St) (y : Nat × Dk) (fy : List Ent), e 0 = .optr p 0 → e 8 = .int .i64 (j.to : Nat) → e 7 = .int .i64 (y.1 : Nat) → DiskAt s r y.2 rm fy → KS (p :: yay r rm fs) σ s → (∀ z ∈ yay r rm fy, z ∈ yay r rm fs ∨ σ.objs.length ≤ z) → p ∉ yay r rm fy → s.objs[p]? = some (.cells (j.cells r)) → yct b j d = (if y.1 ≠ 0 then ((0, y.1), { j with sick := y.1 }, y.2) else ((j.next, 0), { j with wf := j.to, next := j.next + 1 }, y.2)) → J .normal e s := by
   intro e s y fy g0 g8 g7 Dy Ky Iy hpy Py eA; rw [hJ]; by_cases hy : y.1 = 0
   · have hy' : ((y.1 : Nat) : Int) = 0 := (by omega); rw [if_neg (by omega)] at eA; obtain ⟨t1, ht1⟩ : ∃ t1 : St, t1 = ⟨s.objs.set p (.cells (yaB r j.per j.to j.next j.sick)), s.toks⟩ := ⟨_, rfl⟩; have y1 : yak Tryz.prog s 3 (.optr p 2) (.int .i64 (j.to : Nat)) = some t1 := (by rw [yag Py S3 rfl (by simp [Jn.cells, yaB]), ht1]; rfl); have z1 : t1.objs[p]? = some (.cells (yaB r j.per j.to j.next j.sick)) := (by rw [ht1]; exact yaM Py); have x1 : KS [p] s t1 := (by rw [ht1]; exact KS.set (.inl (by simp)) _); obtain ⟨t2, ht2⟩ : ∃ t2 : St, t2 = ⟨t1.objs.set p (.cells (yaB r j.per j.to (j.next + 1) j.sick)), t1.toks⟩ := ⟨_, rfl⟩; have hwn : IntKind.i64.wrap (((j.next : Nat) : Int) + 1) = ((j.next + 1 : Nat) : Int) := (by rw [yae (by omega) (by omega)]; omega); have hwm : IntKind.i64.wrap (((j.next + 1 : Nat) : Int) - 1) = ((j.next : Nat) : Int) := (by rw [yae (by omega) (by omega)]; omega); have y2 : yak Tryz.prog t1 3 (.optr p 3) (.int .i64 ((j.next + 1 : Nat) : Int)) = some t2 := (by rw [yag z1 S3 rfl (by simp [yaB]), ht2]; rfl); have z2 : t2.objs[p]? = some (.cells (yaB r j.per j.to (j.next + 1) j.sick)) := (by rw [ht2]; exact yaM z1); have x2 : KS [p] t1 t2 := (by rw [ht2]; exact KS.set (.inl (by simp)) _); have l2 : yad Tryz.prog t2.objs 3 (.optr p 3) = some (.int .i64 ((j.next + 1 : Nat) : Int)) := (by rw [yab z2 G3]; rfl); have KK := x1.trans' x2; simp only [k27_a, WKV, Nat.reduceLT, Nat.reduceEqDiff, ↓reduceIte, reduceCtorEq, Nat.reduceAdd, Int.reduceLT, Int.reduceNeg, yac, g0, g7, g8, hy', eq_self, decide_true, Bool.not_true, wFA p 3 (by omega), wFA p 2 (by omega), lN s Py, hwn, y1, y2, l2, hwm]; refine hP _ _ ?_; rw [eA]; exact ⟨fy, Dy.keep KK (fun x hx hm => by simp at hm; subst hm; exact hpy hx), Ky.trans KK (fun x hx => by simp at hx; subst hx; exact .inl (by simp)), Iy, hpy, z2, rfl⟩
   · have hy' : ¬ ((y.1 : Nat) : Int) = 0 := (by omega); rw [if_pos hy] at eA; obtain ⟨t1, ht1⟩ : ∃ t1 : St, t1 = ⟨s.objs.set p (.cells (yaB r j.per j.wf j.next y.1)), s.toks⟩ := ⟨_, rfl⟩; have y1 : yak Tryz.prog s 33 (.optr p 4) (.int .i64 (y.1 : Nat)) = some t1 := (by rw [yag Py SEr rfl (by simp [Jn.cells, yaB]), ht1]; rfl); have z1 : t1.objs[p]? = some (.cells (yaB r j.per j.wf j.next y.1)) := (by rw [ht1]; exact yaM Py); have x1 : KS [p] s t1 := (by rw [ht1]; exact KS.set (.inl (by simp)) _); simp only [k27_a, WKV, Nat.reduceLT, Nat.reduceEqDiff, ↓reduceIte, reduceCtorEq, Nat.reduceAdd, Int.reduceLT, Int.reduceNeg, yac, g0, g7, hy', decide_false, Bool.not_false, wFA p 4 (by omega), y1]; refine hP _ _ ?_; rw [eA]; exact ⟨fy, Dy.keep x1 (fun x hx hm => by simp at hm; subst hm; exact hpy hx), Ky.trans x1 (fun x hx => by simp at hx; subst hx; exact .inl (by simp)), Iy, hpy, z1, rfl⟩
 have tail : ∀ (e : Nat → V), e 0 = .optr p 0 → e 8 = .int .i64 (j.to : Nat) → e 6 = v1 → K .normal e s1 := by
   intro e g0 g8 g6; rw [hK]; have oe : ycl (Value.string { data := #[] }) = some (.str []) := rfl; simp only [k27_a, WKV, Nat.reduceLT, Nat.reduceEqDiff, ↓reduceIte, reduceCtorEq, Nat.reduceAdd, Int.reduceLT, Int.reduceNeg, yac, g8]; refine KD.ret (yeb (j.to : Nat)) ?_; rw [← hnm]; by_cases hnn : nm = []
   · have eA : yct b j d = ((0, 22), j, d) := (by unfold yct; rw [if_neg h3, if_neg (by omega), ← hnm, if_pos hnn]); simp only [k27_a, WKV, Nat.reduceLT, Nat.reduceEqDiff, ↓reduceIte, reduceCtorEq, Nat.reduceAdd, Int.reduceLT, Int.reduceNeg, yac, oe, sbE, hnn, eq_self, decide_true]; exact hP _ _ (by rw [eA]; exact ⟨fs, D1, K1.nils, I1, hpf, P1, rfl⟩)
   obtain ⟨q2, s2, c2, rfl, fs2, D2, K2, I2⟩ := ygn (n := nm) D1 hok (by omega) (.inl b1 : RB s1 v1 _) (by rw [yhw]; omega); have P2 := K2.ko _ _ hpf P1; have hla := (gA0.1 P1).1
   have hpf2 : p ∉ yay r rm fs2 := fun hx => by
     rcases I2 _ hx with h | h
     · exact hpf h
     · omega
   have I2' : ∀ z ∈ yay r rm fs2, z ∈ yay r rm fs ∨ σ.objs.length ≤ z := fun z hz => by
     rcases I2 z hz with h | h
     · exact .inl h
     · have := K1.le; exact .inr (by omega)
   have K2' : KS (p :: yay r rm fs) σ s2 := K1.nils.trans K2 (fun z hz => .inl (List.mem_cons_of_mem _ hz)); simp only [k27_a, WKV, Nat.reduceLT, Nat.reduceEqDiff, ↓reduceIte, reduceCtorEq, Nat.reduceAdd, Int.reduceLT, Int.reduceNeg, yac, oe, sbE, hnn, decide_false, g0, g6, wFA p 0 (by omega), lD s1 P1]; refine KD.ret c2 ?_; by_cases hfull : (yaf nm (yar b) d).1 = 3 ∨ (yaf nm (yar b) d).1 = 22
   · have eA : yct b j d = ((0, 22), j, (yaf nm (yar b) d).2) := (by unfold yct; rw [if_neg h3, if_neg (by omega), ← hnm, if_neg hnn]; simp only; rw [if_pos hfull]); have done := hP (.ret (.tuple [.int .i64 0, .int .i64 22])) s2 (by rw [eA]; exact ⟨fs2, D2, K2', I2', hpf2, P2, rfl⟩); rcases hfull with h | h
     · rw [h]; have e3 : (((3 : Nat) : Int) = 3) = True := eq_true rfl; simp only [k27_a, WKV, Nat.reduceLT, Nat.reduceEqDiff, ↓reduceIte, reduceCtorEq, Nat.reduceAdd, Int.reduceLT, Int.reduceNeg, yac, e3, decide_true, eq_self]; exact done
     · rw [h]; have e3 : ¬ ((22 : Nat) : Int) = 3 := (by omega); have e22 : (((22 : Nat) : Int) = 22) = True := eq_true rfl; simp only [k27_a, WKV, Nat.reduceLT, Nat.reduceEqDiff, ↓reduceIte, reduceCtorEq, Nat.reduceAdd, Int.reduceLT, Int.reduceNeg, yac, e3, e22, decide_true, decide_false, eq_self]; exact done
   · have n3 : ¬ (((yaf nm (yar b) d).1 : Nat) : Int) = 3 := (by omega); have n22 : ¬ (((yaf nm (yar b) d).1 : Nat) : Int) = 22 := by omega
     have eA : yct b j d = (if (if (yaf nm (yar b) d).1 = 0 then yaO nm (yaf nm (yar b) d).2 else yaf nm (yar b) d).1 ≠ 0 then ((0, (if (yaf nm (yar b) d).1 = 0 then yaO nm (yaf nm (yar b) d).2 else yaf nm (yar b) d).1), { j with sick := (if (yaf nm (yar b) d).1 = 0 then yaO nm (yaf nm (yar b) d).2 else yaf nm (yar b) d).1 }, (if (yaf nm (yar b) d).1 = 0 then yaO nm (yaf nm (yar b) d).2 else yaf nm (yar b) d).2) else ((j.next, 0), { j with wf := j.to, next := j.next + 1 }, (if (yaf nm (yar b) d).1 = 0 then yaO nm (yaf nm (yar b) d).2 else yaf nm (yar b) d).2)) := by
       unfold yct; rw [if_neg h3, if_neg (by omega), ← hnm, if_neg hnn]; simp only; rw [if_neg hfull]
     simp only [k27_a, WKV, Nat.reduceLT, Nat.reduceEqDiff, ↓reduceIte, reduceCtorEq, Nat.reduceAdd, Int.reduceLT, Int.reduceNeg, yac, n3, n22, decide_false, Bool.not_false]; rw [← hJ]; by_cases h0 : (yaf nm (yar b) d).1 = 0
     · have h0' : (((yaf nm (yar b) d).1 : Nat) : Int) = 0 := (by omega); obtain ⟨ok2, hw2⟩ := yeL (n := nm) (b := yar b) hok; obtain ⟨q3, s3, c3, rfl, fs3, D3, K3, I3⟩ := ygj (n := nm) D2 ok2 (by omega); simp only [k27_a, WKV, Nat.reduceLT, Nat.reduceEqDiff, ↓reduceIte, reduceCtorEq, Nat.reduceAdd, Int.reduceLT, Int.reduceNeg, yac, h0', eq_self, decide_true, g0, wFA p 0 (by omega), lD s2 P2]; refine KD.ret c3 ?_; simp only [k27_a, WKV, Nat.reduceLT, Nat.reduceEqDiff, ↓reduceIte, reduceCtorEq, Nat.reduceAdd, Int.reduceLT, Int.reduceNeg, yac]; have hla2 := (gA0.1 P2).1; refine back _ s3 (yaO nm (yaf nm (yar b) d).2) fs3 (by simp [yaa, g0]) (by simp [yaa, g8]) (by simp [yaa]) D3 (K2'.trans K3 (fun z hz => ?_)) (fun z hz => ?_) (fun hx => ?_) (K3.ko _ _ hpf2 P2) (by rw [eA, if_pos h0])
       · rcases I2' z hz with h | h
         · exact .inl (List.mem_cons_of_mem _ h)
         · exact .inr h
       · rcases I3 z hz with h | h
         · exact I2' z h
         · have := K2'.le; exact .inr (by omega)
       · rcases I3 _ hx with h | h
         · exact hpf2 h
         · omega
     · have h0' : ¬ (((yaf nm (yar b) d).1 : Nat) : Int) = 0 := (by omega); simp only [k27_a, WKV, Nat.reduceLT, Nat.reduceEqDiff, ↓reduceIte, reduceCtorEq, Nat.reduceAdd, Int.reduceLT, Int.reduceNeg, yac, h0', decide_false]; exact back _ s2 (yaf nm (yar b) d) fs2 (by simp [yaa, g0]) (by simp [yaa, g8]) (by simp [yaa]) D2 K2' I2' hpf2 P2 (by rw [eA, if_neg h0])
 simp only [k27_a, WKV, Nat.reduceLT, Nat.reduceEqDiff, ↓reduceIte, reduceCtorEq, Nat.reduceAdd, Int.reduceLT, Int.reduceNeg, yac, hs', decide_true, eq_self, Bool.not_true, wFA p 2 (by omega), wFA p 3 (by omega), wFA p 1 (by omega), lF s1 P1, lN s1 P1, lP s1 P1, hws]; rw [← hK]; by_cases hto : j.per ≤ ((j.next : Nat) : Int) - ((j.wf : Nat) : Int)
 · have e1 : j.to = j.next := (by unfold Jn.to; rw [if_pos hto]); simp only [k27_a, WKV, Nat.reduceLT, Nat.reduceEqDiff, ↓reduceIte, reduceCtorEq, Nat.reduceAdd, Int.reduceLT, Int.reduceNeg, yac, hto, decide_true, wFA p 3 (by omega), lN s1 P1]; exact tail _ (by simp [yaa]) (by simp [yaa, e1]) (by simp [yaa])
 · have e1 : j.to = j.wf := (by unfold Jn.to; rw [if_neg hto]); simp only [k27_a, WKV, Nat.reduceLT, Nat.reduceEqDiff, ↓reduceIte, reduceCtorEq, Nat.reduceAdd, Int.reduceLT, Int.reduceNeg, yac, hto, decide_false]; exact tail _ (by simp [yaa]) (by simp [yaa, e1]) (by simp [yaa])
def yaW (l : List (List UInt8)) : List Nat := (l.map yaX).filter fun n => decide (0 < n)
def ybH (below : Int) : List Nat → Nat → Dk → (Nat × Nat) × Dk
 | a :: b :: l, g, d => if (b : Int) ≤ below then (if (yaj (ya0 106 1 (a : Nat)) d).1 ≠ 0 then ((0, (yaj (ya0 106 1 (a : Nat)) d).1), (yaj (ya0 106 1 (a : Nat)) d).2) else ybH below (b :: l) (g + 1) (yaj (ya0 106 1 (a : Nat)) d).2) else ((g, 0), d)
 | _, g, d => ((g, 0), d)
def ya2 (below : Int) (j : Jn) (d : Dk) : (Nat × Nat) × Jn × Dk :=
 if j.sick ≠ 0 then ((0, j.sick), j, d) else
 let x := ybH below (yaW (yaS d)) 0 d
 if x.1.2 ≠ 0 then (x.1, { j with sick := x.1.2 }, x.2) else (x.1, j, x.2)
theorem WIR : RowT Tryz.prog 94 3 1 8 := ⟨IT.u, by kernel_rfl, ⟨_, (by kernel_rfl : ybl Tryz.prog 3 = some (.int .i64 0)), rfl⟩, by kernel_rfl, by omega⟩
theorem mkInt1 (n : Int) : yas Tryz.prog 94 1 [(0, .int .i64 n)] = some (.slice .exact 1 [.int .i64 n] 1) := by
 have hz : ybl Tryz.prog 3 = some (.int .i64 0) := (by kernel_rfl); have hs : yaQ Tryz.prog 3 = some 1 := (by kernel_rfl); have e : List.range 1 = [0] := (by decide); have hn : yah (V.int .i64 0) = [V.int .i64 0] := rfl; have h1 : one (V.int .i64 n) = true := rfl; simp [yas, IT.u, hs, hz, hn, yau, yc8, ybq, e, yc2 h1, h1]
def OwnI (m : Nat) (u : St) (w : V) (xs : List Nat) : Prop := OwnR 3 1 m u w ((xs.map fun n : Nat => (n : Int)).map ypn) xs.length
theorem OwnI.ints {m : Nat} {u : St} {w : V} {xs : List Nat} (h : OwnI m u w xs) (hx : ∀ x ∈ xs, x ≤ 999999999) : IntsV w (xs.map fun n : Nat => (n : Int)) := by
 refine ⟨?_, fun x hx2 => ?_⟩
 · obtain ⟨h1, ⟨h2, h3⟩ | ⟨p, h2⟩⟩ := OwnR.row h
   · have : xs = [] := List.length_eq_zero_iff.1 h3; exact .inl ⟨h2, by rw [this]; rfl⟩
   · exact .inr ⟨p, by rw [h2]; simp⟩
 · obtain ⟨n, hn, rfl⟩ := List.mem_map.1 hx2; have := hx n hn; unfold ycm; omega
theorem OwnI.app {s u : St} {w : V} {xs : List Nat} (h : OwnI s.toks.length u w xs) (hk : Keep s u) (n : Nat) (hl : xs.length ≤ 1000) :
   ∃ w' u', yaY Tryz.prog u 94 94 w (.slice .exact 1 [.int .i64 (n : Nat)] 1) = some (w', u') ∧ OwnI s.toks.length u' w' (xs ++ [n]) ∧ Keep s u' := by
 obtain ⟨w', u', a1, a2, a3, a4⟩ := OwnR.appendO WIR (σ0 := s) (t2 := 94) h rfl hk (y := .slice .exact 1 [.int .i64 (n : Nat)] 1) (ys := [.int .i64 (n : Nat)]) (l := 1) (by simp [ybu, ycP, IT.u]) rfl rfl (by omega) (by omega); refine ⟨w', u', a1, ?_, a3⟩; unfold OwnI; simpa [ypn] using a2
theorem yfw (l : List (List UInt8)) (x : List UInt8) : yaW (l ++ [x]) = yaW l ++ (if 0 < yaX x then [yaX x] else []) := by
 unfold yaW; rw [List.map_append, List.filter_append]; by_cases h : 0 < yaX x <;> simp [h]
theorem ylY (l : List (List UInt8)) : ∀ x ∈ yaW l, x ≤ 999999999 := by
 intro x hx; unfold yaW at hx; obtain ⟨n, hn, rfl⟩ := List.mem_map.1 (List.mem_filter.1 hx).1; exact yhI n
theorem ydQ (l : List (List UInt8)) : (yaW l).length ≤ l.length := by
 unfold yaW; have := List.length_filter_le (fun n => decide (0 < n)) (l.map yaX); rw [List.length_map] at this; exact this
theorem OwnI.keep {m : Nat} {s s' : St} {w : V} {xs : List Nat} (h : OwnI m s w xs) (hk : ∀ k, yax s.toks k = true → yax s'.toks k = true) : OwnI m s' w xs := OwnR.keep h hk
theorem yjA {σ : St} {r rm p : Nat} {d : Dk} {fs : List Ent} {j : Jn} (below : Int) (h : DiskAt σ r d rm fs) (hok : d.Ok) (hw : d.writes ≤ 1000000000) (hp : σ.objs[p]? = some (.cells (j.cells r))) (hpf : p ∉ yay r rm fs) :
   ∃ q σ', Does Tryz.prog prims 29 [.optr p 0, .int .i64 below] σ q σ' ∧ (∃ fs', DiskAt σ' r (ya2 below j d).2.2 rm fs' ∧ KS (p :: yay r rm fs) σ σ' ∧ (∀ y ∈ yay r rm fs', y ∈ yay r rm fs ∨ σ.objs.length ≤ y) ∧ p ∉ yay r rm fs' ∧ σ'.objs[p]? = some (.cells ((ya2 below j d).2.1.cells r)) ∧ q = .ret (.tuple [.int .i64 ((ya2 below j d).1.1 : Nat), .int .i64 ((ya2 below j d).1.2 : Nat)])) := by
 suffices key : ∀ P : VRes → St → Prop, (∀ q σ', (∃ fs', DiskAt σ' r (ya2 below j d).2.2 rm fs' ∧ KS (p :: yay r rm fs) σ σ' ∧ (∀ y ∈ yay r rm fs', y ∈ yay r rm fs ∨ σ.objs.length ≤ y) ∧ p ∉ yay r rm fs' ∧ σ'.objs[p]? = some (.cells ((ya2 below j d).2.1.cells r)) ∧ q = .ret (.tuple [.int .i64 ((ya2 below j d).1.1 : Nat), .int .i64 ((ya2 below j d).1.2 : Nat)])) → P q σ') → ∃ q σ', Does Tryz.prog prims 29 [.optr p 0, .int .i64 below] σ q σ' ∧ P q σ' from key _ fun _ _ h => h
 intro P hP; apply k29_is.does (by simp); have lS : ∀ s : St, s.objs[p]? = some (.cells (j.cells r)) → yad Tryz.prog s.objs 33 (.optr p 4) = some (.int .i64 (j.sick : Nat)) := fun s h => by rw [yab h GEr]; rfl
 have lD : ∀ s : St, s.objs[p]? = some (.cells (j.cells r)) → yad Tryz.prog s.objs 26 (.optr p 0) = some (.optr r 0) := fun s h => by rw [yab h GDp]; rfl
 simp only [k29_a, WKV, Nat.reduceLT, Nat.reduceEqDiff, ↓reduceIte, reduceCtorEq, Nat.reduceAdd, Int.reduceLT, Int.reduceNeg, yac, gD0, gD1, yaJ, ybe TWp, wFA p 4 (by omega), lS σ hp]; by_cases hs : j.sick = 0
 rotate_left
 · have hs' : ¬ ((j.sick : Nat) : Int) = 0 := (by omega); have eA : ya2 below j d = ((0, j.sick), j, d) := (by unfold ya2; rw [if_pos hs]); simp only [k29_a, WKV, Nat.reduceLT, Nat.reduceEqDiff, ↓reduceIte, reduceCtorEq, Nat.reduceAdd, Int.reduceLT, Int.reduceNeg, yac, hs', decide_false, Bool.not_false, wFA p 4 (by omega), lS σ hp]; exact hP _ _ (by rw [eA]; exact ⟨fs, h, KS.refl _ _, fun y hy => .inl hy, hpf, hp, rfl⟩)
 have hs' : ((j.sick : Nat) : Int) = 0 := (by omega); obtain ⟨q7, s7, c7, v7, o7, rfl, n7, K7, I7⟩ := yff h hok; obtain ⟨L, hL⟩ : ∃ L, L = yaS d := ⟨_, rfl⟩; have hL16 := ybS hok; rw [← hL] at n7 hL16
 have eP : ya2 below j d = (let x := ybH below (yaW L) 0 d; if x.1.2 ≠ 0 then (x.1, { j with sick := x.1.2 }, x.2) else (x.1, j, x.2)) := by unfold ya2; rw [if_neg (by omega), ← hL]
 have R7 : RowS s7 1 v7 (L.map V.str) L.length := yeE n7; simp only [k29_a, WKV, Nat.reduceLT, Nat.reduceEqDiff, ↓reduceIte, reduceCtorEq, Nat.reduceAdd, Int.reduceLT, Int.reduceNeg, yac, hs', eq_self, decide_true, Bool.not_true, wFA p 0 (by omega), lD σ hp]; refine KD.ret c7 ?_; simp only [k29_a, WKV, Nat.reduceLT, Nat.reduceEqDiff, ↓reduceIte, reduceCtorEq, Nat.reduceAdd, Int.reduceLT, Int.reduceNeg, yac, R7.len TSS, ybd]; refine Ev.loopF (fun (i : Nat) e u => e 30 = .int .i64 (i : Nat) ∧ i ≤ L.length ∧ OwnI s7.toks.length u (e 6) (yaW (L.take i)) ∧ KS [] s7 u) (fun i => L.length - i) 0 ?_ ?_
 · refine ⟨by simp [yaa], Nat.zero_le _, ?_, KS.refl _ _⟩; simp only [yaa, List.take_zero]; exact OwnR.nil
 rintro i e u ⟨h30, hi, hO, hK⟩ hf; have g0 : e 0 = .optr p 0 := (hf 0 (by decide)).trans (by simp [yaa]); have g1 : e 1 = .int .i64 below := (hf 1 (by decide)).trans (by simp [yaa]); have g28 : e 28 = v7 := (hf 28 (by decide)).trans (by simp [yaa]); have g29 : e 29 = .int .i64 (L.length : Nat) := (hf 29 (by decide)).trans (by simp [yaa]); clear hf; have hrow := ybT n7 (fun x _ hx => by simp at hx) hK; by_cases hlt : i < L.length
 · have hlt' : (i : Int) < (L.length : Nat) := (by omega); have hwi : IntKind.i64.wrap ((i : Int) + 1) = ((i + 1 : Nat) : Int) := (by rw [yae (by omega) (by omega)]; omega); have RU : RowS u 1 v7 (L.map V.str) L.length := yeE hrow; obtain ⟨pa, ha, hla⟩ := RU.strAt hlt; have hla := hla u (KS.refl _ _); obtain ⟨q8, s8, c8, rfl, K8⟩ := yfx (σ := u) L[i]; have htake : L.take (i + 1) = L.take i ++ [L[i]] := List.take_succ_eq_append_getElem hlt
   have hlen : (yaW (L.take i)).length ≤ 16 := by
     have := ydQ (L.take i); rw [List.length_take] at this; omega
   simp only [k29_a, WKV, Nat.reduceLT, Nat.reduceEqDiff, ↓reduceIte, reduceCtorEq, Nat.reduceAdd, Int.reduceLT, Int.reduceNeg, yac, h30, g28, g29, hlt', decide_true, ha, hla]; refine KD.ret c8 ?_; by_cases hz : 0 < yaX L[i]
   · have hz' : (0 : Int) < ((yaX L[i] : Nat) : Int) := (by omega); have hK8 : KS [] s7 s8 := hK.trans' K8; obtain ⟨w', u', a1, a2, a3⟩ := (hO.keep K8.tk).app hK8.keep (yaX L[i]) (by omega); simp only [k29_a, WKV, Nat.reduceLT, Nat.reduceEqDiff, ↓reduceIte, reduceCtorEq, Nat.reduceAdd, Int.reduceLT, Int.reduceNeg, yac, h30, hz', decide_true, mkInt1, a1, hwi]; refine ⟨i + 1, ⟨by simp [yaa], by omega, ?_, a3.ks []⟩, by omega⟩; rw [htake, yfw, if_pos hz]; simpa [yaa] using a2
   · have hz' : ¬ (0 : Int) < ((yaX L[i] : Nat) : Int) := (by omega); simp only [k29_a, WKV, Nat.reduceLT, Nat.reduceEqDiff, ↓reduceIte, reduceCtorEq, Nat.reduceAdd, Int.reduceLT, Int.reduceNeg, yac, h30, hz', decide_false, hwi]; refine ⟨i + 1, ⟨by simp [yaa], by omega, ?_, hK.trans' K8⟩, by omega⟩; rw [htake, yfw, if_neg hz, List.append_nil]; simpa [yaa] using hO.keep K8.tk
 · have hlt' : ¬ (i : Int) < (L.length : Nat) := (by omega); have htake : L.take i = L := List.take_of_length_le (by omega); rw [htake] at hO; obtain ⟨ST, hST⟩ : ∃ ST, ST = yaW L := ⟨_, rfl⟩; have hle := ylY L; have hlen := ydQ L; rw [← hST] at hO hle hlen eP; obtain ⟨w, hww⟩ : ∃ w, w = e 6 := ⟨_, rfl⟩; have hI : IntsV w (ST.map fun n : Nat => (n : Int)) := (by rw [hww]; exact hO.ints hle); have hlI := hI.len IT; simp only [k29_a, WKV, Nat.reduceLT, Nat.reduceEqDiff, ↓reduceIte, reduceCtorEq, Nat.reduceAdd, Int.reduceLT, Int.reduceNeg, yac, h30, g29, hlt', decide_false]; have hK7 : KS [] σ u := K7.trans' hK; refine Ev.loopF (fun (i : Nat) e2 s => e2 11 = .int .i64 (i : Nat) ∧ e2 10 = .int .i64 (i : Nat) ∧ i ≤ ST.length ∧ ∃ (dd : Dk) (fu : List Ent), DiskAt s r dd rm fu ∧ dd.Ok ∧ dd.writes ≤ 1000000000 + i ∧ ybH below ST 0 d = ybH below (ST.drop i) i dd ∧ KS (yay r rm fs) σ s ∧ (∀ y ∈ yay r rm fu, y ∈ yay r rm fs ∨ σ.objs.length ≤ y) ∧ p ∉ yay r rm fu ∧ s.objs[p]? = some (.cells (j.cells r))) (fun i => ST.length - i) 0 ?_ ?_
   · exact ⟨by simp [yaa], by simp [yaa], Nat.zero_le _, d, fs, h.pushes hK7, hok, by omega, by rw [List.drop_zero], hK7.nils, fun y hy => .inl hy, hpf, hK7.ko _ _ (by simp) hp⟩
   rintro i2 e2 s ⟨h11, h10, hi2, dd, fu, D, ok, hwr, hpr, K, I, hpf2, Ps⟩ hf; have k0 : e2 0 = .optr p 0 := (hf 0 (by decide)).trans (by simp [yaa, g0]); have k1 : e2 1 = .int .i64 below := (hf 1 (by decide)).trans (by simp [yaa, g1]); have k6 : e2 6 = w := (hf 6 (by decide)).trans (by simp [yaa, hww]); clear hf; have hwi : IntKind.i64.wrap ((i2 : Int) + 1) = ((i2 + 1 : Nat) : Int) := (by rw [yae (by omega) (by omega)]; omega); have hlm : (ST.map fun n : Nat => (n : Int)).length = ST.length := List.length_map ..
   have stop : ybH below (ST.drop i2) i2 dd = ((i2, 0), dd) → P (.ret (.tuple [.int .i64 (i2 : Nat), .int .i64 0])) s := by
     intro hst; rw [hpr, hst] at eP; simp only at eP; rw [if_neg (by simp)] at eP; refine hP _ _ ?_; rw [eP]; exact ⟨fu, D, K.over (fun x hx => List.mem_cons_of_mem _ hx), I, hpf2, Ps, rfl⟩
   by_cases h2 : i2 + 1 < ST.length
   · have h2' : ((i2 + 1 : Nat) : Int) < ((ST.map fun n : Nat => (n : Int)).length : Nat) := (by omega); have ha1 := hI.addr IT (k := .i64) (n := ((i2 + 1 : Nat) : Int)) (by omega) (by omega); have ha0 := hI.addr IT (k := .i64) (n := ((i2 : Nat) : Int)) (by omega) (by omega)
     have hl1 : yad Tryz.prog s.objs 3 (.eptr ((ST.map fun n : Nat => (n : Int)).map ypn) ((i2 + 1 : Nat) : Int).toNat) = some (.int .i64 (ST[i2 + 1] : Nat)) := by
       rw [IntsV.load IT (by rw [hlm]; omega : ((i2 + 1 : Nat) : Int).toNat < _)]; simp
     have hl0 : yad Tryz.prog s.objs 3 (.eptr ((ST.map fun n : Nat => (n : Int)).map ypn) ((i2 : Nat) : Int).toNat) = some (.int .i64 (ST[i2] : Nat)) := by
       rw [IntsV.load IT (by rw [hlm]; omega : ((i2 : Nat) : Int).toNat < _)]; simp
     have hdrop : ST.drop i2 = ST[i2] :: ST[i2 + 1] :: ST.drop (i2 + 2) := (by rw [List.drop_eq_getElem_cons (by omega), List.drop_eq_getElem_cons h2]); have hdrop1 : ST.drop (i2 + 1) = ST[i2 + 1] :: ST.drop (i2 + 2) := List.drop_eq_getElem_cons h2; by_cases hb : ((ST[i2 + 1] : Nat) : Int) ≤ below
     · obtain ⟨q9, s9, c9, rfl, fs9, D9, K9, I9⟩ := yf8 (n := ya0 106 1 (ST[i2] : Nat)) D ok (by omega); obtain ⟨ok9, hw9⟩ := ycx (n := ya0 106 1 (ST[i2] : Nat)) ok; have hla := (gA0.1 hp).1; have Ps9 := K9.ko _ _ hpf2 Ps; have K9' : KS (yay r rm fs) σ s9 := K.trans K9 (fun x hx => I x hx)
       have I9' : ∀ y ∈ yay r rm fs9, y ∈ yay r rm fs ∨ σ.objs.length ≤ y := fun y hy => by
         rcases I9 y hy with h | h
         · exact I y h
         · have := K.le; exact .inr (by omega)
       have hpf9 : p ∉ yay r rm fs9 := fun hx => by
         rcases I9 _ hx with h | h
         · exact hpf2 h
         · have := K.le; omega
       simp only [k29_a, WKV, Nat.reduceLT, Nat.reduceEqDiff, ↓reduceIte, reduceCtorEq, Nat.reduceAdd, Int.reduceLT, Int.reduceNeg, yac, h11, h10, k0, k1, k6, hwi, hlI, h2', decide_true, ha1, ha0, hl1, hl0, hb, wFA p 0 (by omega), lD s Ps]; refine KD.ret (yeb (ST[i2] : Nat)) ?_; simp only [k29_a, WKV, Nat.reduceLT, Nat.reduceEqDiff, ↓reduceIte, reduceCtorEq, Nat.reduceAdd, Int.reduceLT, Int.reduceNeg, yac]; refine KD.ret c9 ?_; by_cases hz : (yaj (ya0 106 1 (ST[i2] : Nat)) dd).1 = 0
       · have hz' : (((yaj (ya0 106 1 (ST[i2] : Nat)) dd).1 : Nat) : Int) = 0 := (by omega); simp only [k29_a, WKV, Nat.reduceLT, Nat.reduceEqDiff, ↓reduceIte, reduceCtorEq, Nat.reduceAdd, Int.reduceLT, Int.reduceNeg, yac, h11, h10, hz', eq_self, decide_true, Bool.not_true, hwi, lD s Ps]; refine ⟨i2 + 1, ⟨by simp [yaa], by simp [yaa], by omega, (yaj (ya0 106 1 (ST[i2] : Nat)) dd).2, fs9, D9, ok9, by omega, ?_, K9', I9', hpf9, Ps9⟩, by omega⟩; rw [hpr, hdrop, ybH, if_pos hb, if_neg (by omega), hdrop1]
       · have hz' : ¬ (((yaj (ya0 106 1 (ST[i2] : Nat)) dd).1 : Nat) : Int) = 0 := (by omega); obtain ⟨t1, ht1⟩ : ∃ t1 : St, t1 = ⟨s9.objs.set p (.cells (yaB r j.per j.wf j.next (yaj (ya0 106 1 (ST[i2] : Nat)) dd).1)), s9.toks⟩ := ⟨_, rfl⟩; have y1 : yak Tryz.prog s9 33 (.optr p 4) (.int .i64 ((yaj (ya0 106 1 (ST[i2] : Nat)) dd).1 : Nat)) = some t1 := (by rw [yag Ps9 SEr rfl (by simp [Jn.cells, yaB]), ht1]; rfl); have z1 : t1.objs[p]? = some (.cells (yaB r j.per j.wf j.next (yaj (ya0 106 1 (ST[i2] : Nat)) dd).1)) := (by rw [ht1]; exact yaM Ps9); have x1 : KS [p] s9 t1 := (by rw [ht1]; exact KS.set (.inl (by simp)) _); simp only [k29_a, WKV, Nat.reduceLT, Nat.reduceEqDiff, ↓reduceIte, reduceCtorEq, Nat.reduceAdd, Int.reduceLT, Int.reduceNeg, yac, k0, hz', decide_false, Bool.not_false, wFA p 4 (by omega), y1, lD s Ps]; refine hP _ _ ?_; rw [hpr, hdrop, ybH, if_pos hb, if_pos hz] at eP; simp only at eP; rw [if_pos hz] at eP; rw [eP]; exact ⟨fs9, D9.keep x1 (fun x hx hm => by simp at hm; subst hm; exact hpf9 hx), (K9'.over (fun x hx => List.mem_cons_of_mem _ hx)).trans x1 (fun x hx => by simp at hx; subst hx; exact .inl (by simp)), I9', hpf9, z1, rfl⟩
     · simp only [k29_a, WKV, Nat.reduceLT, Nat.reduceEqDiff, ↓reduceIte, reduceCtorEq, Nat.reduceAdd, Int.reduceLT, Int.reduceNeg, yac, h11, h10, k0, k1, k6, hwi, hlI, h2', decide_true, ha1, hl1, hb, decide_false]; exact stop (by rw [hdrop, ybH, if_neg hb])
   · have h2' : ¬ ((i2 + 1 : Nat) : Int) < ((ST.map fun n : Nat => (n : Int)).length : Nat) := (by omega); simp only [k29_a, WKV, Nat.reduceLT, Nat.reduceEqDiff, ↓reduceIte, reduceCtorEq, Nat.reduceAdd, Int.reduceLT, Int.reduceNeg, yac, h11, h10, k6, hwi, hlI, h2', decide_false]; refine stop ?_; have hl : (ST.drop i2).length ≤ 1 := by rw [List.length_drop]; omega
     match hd : ST.drop i2 with
     | [] => rfl
     | [a] => rfl
     | a :: b :: l => rw [hd] at hl; simp at hl
theorem ymT {L : List (List UInt8)} {v : V} (h : RowV 1 v (L.map V.str) L.length) {i : Nat} (hi : i < L.length) : yai Tryz.prog 70 v (.int .i64 (i : Int)) = some (.eptr (L.map V.str) i) := by
 have := h.addr TSS SS9 (by omega) (kk := .i64) (i := (i : Int)) (by omega) (by omega); simpa using this
theorem ym4 {L : List (List UInt8)} {i : Nat} (hi : i < L.length) {objs : List Ob} : yad Tryz.prog objs 9 (.eptr (L.map V.str) i) = some (.str L[i]) := by
 have ha : ybc Tryz.prog 9 = some false := (by kernel_rfl); simp [yad, ya1, ycp, ha, hi]
theorem str_ix {b : UInt8} {t : List UInt8} {i : Nat} (hi : i < t.length) : yeB Tryz.prog 9 (.str (b :: t)) (.int .i64 ((i + 1 : Nat) : Int)) = some (.int .u8 ((t[i].toNat : Nat) : Int)) := by
 simp [yeB, T9, hi]; omega
theorem yph {l : List UInt8} {c : UInt8} : (l ++ [c]).all ycQ = (l.all ycQ && ycQ c) := by simp
theorem yny {t : List UInt8} {pre : UInt8} (ht : t.length = 9) (h : t.all ycQ = false) : ygP pre (pre :: t) = none := by
 unfold ygP; simp only; rw [if_neg (by rintro ⟨_, _, h3⟩; rw [h] at h3; cases h3)]
theorem ypY {t : List UInt8} {pre : UInt8} (ht : t.length = 9) (h : t.all ycQ = true) : ygP pre (pre :: t) = some (yfP 0 t) := by
 unfold ygP; simp only; rw [if_pos ⟨trivial, ht, h⟩]
theorem yoq {t : List UInt8} {i : Nat} (hi : i < t.length) (h : ycQ t[i] = false) : t.all ycQ = false := by
 rw [List.all_eq_false]; exact ⟨t[i], List.getElem_mem hi, by rw [h]; simp⟩
theorem yeZ {σ : St} (name : List UInt8) : Does Tryz.prog prims 69 [.str name] σ (.ret (.int .i64 (yaX name : Nat))) σ := by
 apply k69_is.ret (by simp); have hl := yqw name; by_cases h10 : name.length = 10
 · obtain ⟨b, t, rfl⟩ : ∃ b t, name = b :: t := by
     cases name with
     | nil => simp at h10
     | cons b t => exact ⟨b, t, rfl⟩
   have ht9 : t.length = 9 := (by simpa using h10); have h10' : (((b :: t).length : Nat) : Int) = 10 := (by omega); have hix : yeB Tryz.prog 9 (.str (b :: t)) (.int .i64 0) = some (.int .u8 ((b.toNat : Nat) : Int)) := (by simp [yeB, T9]); by_cases hb : b = 106
   · subst hb; have hb' : (((106 : UInt8).toNat : Nat) : Int) = 106 := (by decide); simp only [k69_a, WKV, Nat.reduceLT, Nat.reduceEqDiff, ↓reduceIte, reduceCtorEq, Nat.reduceAdd, Int.reduceLT, Int.reduceNeg, yac, gD0, gD1, hl, h10', eq_self, decide_true, decide_false, Bool.not_true, hix, hb']; refine Ev.loopF (fun (i : Nat) e s => e 4 = .int .i64 ((i + 1 : Nat) : Int) ∧ i ≤ 9 ∧ s = σ ∧ e 3 = .int .i64 ((yfP 0 (t.take i) : Nat) : Int) ∧ (t.take i).all ycQ = true) (fun i => 9 - i) 0 ?_ ?_
     · exact ⟨by simp [yaa], by omega, rfl, by simp [yaa, yfP], by simp⟩
     rintro i e s ⟨h4, hi, rfl, h3, hall⟩ hf; have g0 : e 0 = .str (106 :: t) := (hf 0 (by decide)).trans (by simp [yaa]); clear hf; by_cases hlt : i < 9
     · have hlt' : ((i + 1 : Nat) : Int) < 10 := (by omega); have hit : i < t.length := (by omega); have hwi : IntKind.i64.wrap (((i + 1 : Nat) : Int) + 1) = ((i + 1 + 1 : Nat) : Int) := (by rw [yae (by omega) (by omega)]; omega); have hx := str_ix (b := 106) hit; have htk : t.take (i + 1) = t.take i ++ [t[i]] := List.take_succ_eq_append_getElem hit; by_cases c1 : t[i].toNat < 48
       · have c1' : ((t[i].toNat : Nat) : Int) < 48 := (by omega); have hn := yny (pre := 106) ht9 (yoq hit (by simp [ycQ]; omega)); simp only [k69_a, WKV, Nat.reduceLT, Nat.reduceEqDiff, ↓reduceIte, reduceCtorEq, Nat.reduceAdd, Int.reduceLT, Int.reduceNeg, yac, gD0, gD1, h4, g0, hlt', decide_true, hx, c1']
         unfold yaX; rw [hn]; try rfl
       by_cases c2 : 57 < t[i].toNat
       · have c1' : ¬ ((t[i].toNat : Nat) : Int) < 48 := (by omega); have c2' : (57 : Int) < ((t[i].toNat : Nat) : Int) := (by omega); have hn := yny (pre := 106) ht9 (yoq hit (by simp [ycQ]; omega)); simp only [k69_a, WKV, Nat.reduceLT, Nat.reduceEqDiff, ↓reduceIte, reduceCtorEq, Nat.reduceAdd, Int.reduceLT, Int.reduceNeg, yac, gD0, gD1, h4, g0, hlt', decide_true, decide_false, hx, c1', c2']
         unfold yaX; rw [hn]; try rfl
       have c1' : ¬ ((t[i].toNat : Nat) : Int) < 48 := (by omega); have c2' : ¬ (57 : Int) < ((t[i].toNat : Nat) : Int) := (by omega); have hb9 := (yky (t.take i) hall).2; have hp9 : 10 ^ (t.take i).length ≤ 10 ^ 9 := Nat.pow_le_pow_right (by decide) (by rw [List.length_take]; omega); have hv : yfP 0 (t.take i) ≤ 1000000000 := (by omega); have hw1 : IntKind.i64.wrap (((yfP 0 (t.take i) : Nat) : Int) * 10) = ((yfP 0 (t.take i) * 10 : Nat) : Int) := by rw [yae (by omega) (by omega)]; omega
       have hw2 : IntKind.u8.wrap (((t[i].toNat : Nat) : Int) - 48) = ((t[i].toNat - 48 : Nat) : Int) := by
         rw [show ((t[i].toNat : Nat) : Int) - 48 = ((t[i].toNat - 48 : Nat) : Int) from by omega]; unfold IntKind.wrap; simp [IntKind.bits, IntKind.signed, IntKind.max, IntKind.min]; omega
       have hcv : ycH Tryz.prog 5 3 (.int .u8 ((t[i].toNat - 48 : Nat) : Int)) = some (.int .i64 ((t[i].toNat - 48 : Nat) : Int)) := by
         have h := ynF (UInt8.ofNat (t[i].toNat - 48))
         have e : (UInt8.ofNat (t[i].toNat - 48)).toNat = t[i].toNat - 48 := by
           rw [UInt8.toNat_ofNat']; omega
         rw [e] at h; exact h
       have hvs : yfP 0 (t.take (i + 1)) = yfP 0 (t.take i) * 10 + (t[i].toNat - 48) := (by rw [htk, yev]; simp [yfP]); have hw3 : IntKind.i64.wrap (((yfP 0 (t.take i) * 10 : Nat) : Int) + ((t[i].toNat - 48 : Nat) : Int)) = ((yfP 0 (t.take (i + 1)) : Nat) : Int) := (by rw [hvs, yae (by omega) (by omega)]; omega); have hd : ycQ t[i] = true := (by simp [ycQ]; omega); simp only [k69_a, WKV, Nat.reduceLT, Nat.reduceEqDiff, ↓reduceIte, reduceCtorEq, Nat.reduceAdd, Int.reduceLT, Int.reduceNeg, yac, gD0, gD1, h4, g0, h3, hlt', decide_true, decide_false, hx, c1', c2', hw1, hw2, hcv, hw3, hwi]; exact ⟨i + 1, ⟨by simp [yaa], by omega, by simp [yaa], by rw [htk, yph, hall, hd]; rfl⟩, by omega⟩
     · have hlt' : ¬ ((i + 1 : Nat) : Int) < 10 := (by omega); have htk : t.take i = t := List.take_of_length_le (by omega); rw [htk] at h3 hall; have hn := ypY (pre := 106) ht9 hall; simp only [k69_a, WKV, Nat.reduceLT, Nat.reduceEqDiff, ↓reduceIte, reduceCtorEq, Nat.reduceAdd, Int.reduceLT, Int.reduceNeg, yac, gD0, gD1, h4, h3, hlt', decide_false]
       unfold yaX; rw [hn]; try rfl
   · have hb' : ¬ ((b.toNat : Nat) : Int) = 106 := fun h => hb (by apply UInt8.toNat_inj.1; have : (106 : UInt8).toNat = 106 := rfl; omega)
     have hn : ygP 106 (b :: t) = none := by
       unfold ygP; simp only; rw [if_neg (fun h => hb h.1)]
     simp only [k69_a, WKV, Nat.reduceLT, Nat.reduceEqDiff, ↓reduceIte, reduceCtorEq, Nat.reduceAdd, Int.reduceLT, Int.reduceNeg, yac, gD0, gD1, hl, h10', eq_self, decide_true, decide_false, Bool.not_true, Bool.not_false, hix, hb']
     unfold yaX; rw [hn]; try rfl
 · have h10' : ¬ ((name.length : Nat) : Int) = 10 := by omega
   have hn : ygP 106 name = none := by
     unfold ygP
     cases name with
     | nil => rfl
     | cons b t => simp only; rw [if_neg (fun h => h10 (by simp [h.2.1]))]
   simp only [k69_a, WKV, Nat.reduceLT, Nat.reduceEqDiff, ↓reduceIte, reduceCtorEq, Nat.reduceAdd, Int.reduceLT, Int.reduceNeg, yac, gD0, gD1, hl, h10', decide_false, Bool.not_false]
   unfold yaX; rw [hn]; try rfl
theorem RefAt.power {σ : St} {r : Nat} {d : Dk} {q : Option Nat} {rs : List RE} (h : RefAt σ r d q rs) : yad Tryz.prog σ.objs 4 (.optr r 2) = some (.bool d.on) := by
 obtain ⟨fv, o, _⟩ := h.hd; rw [yab o G4]; rfl
theorem ye5 {P : Program} {pr : Prim} {N : Nat} {a b : CC} {Q : VX → (Nat → V) → St → Prop} : yjh P pr N (.seq a b) Q = yjh P pr N a (yjh P pr N b Q) := by
 funext x e σ
 cases x
 · rw [ydf, ydf, yjr]
 · rw [ydR, ydR, ydR]
 · rw [yeQ, yeQ, yeQ]
 · rw [ye0, ye0, ye0]
structure RIn (σ : St) (r : Nat) (q : Option Nat) (s : St) (d : Dk) (q' : Option Nat) (rs' : List RE) : Prop where
 at' : RefAt s r d q' rs'
 ks : KS (r :: q.toList) σ s
 gr : ∀ x ∈ r :: q'.toList, x ∈ r :: q.toList ∨ σ.objs.length ≤ x
theorem RIn.refl {σ : St} {r : Nat} {d : Dk} {q : Option Nat} {rs : List RE} (h : RefAt σ r d q rs) : RIn σ r q σ d q rs := ⟨h, KS.refl _ _, fun x hx => .inl hx⟩
theorem RIn.still {σ s s' : St} {r : Nat} {d : Dk} {q q' : Option Nat} {rs' : List RE} (h : RIn σ r q s d q' rs') (k : KS [] s s') : RIn σ r q s' d q' rs' :=
 ⟨h.at'.pushes k, h.ks.trans' k.nils, h.gr⟩
theorem ylM {σ : St} {r rm r2 : Nat} {d : Dk} {fs : List Ent} {q : Option Nat} {rs : List RE} (h : DiskAt σ r d rm fs) (h2 : RefAt σ r2 d q rs) (hok : d.Ok) :
   ∃ p σ', Does Tryz.prog prims 34 [.optr r 0, .optr r2 0] σ p σ' ∧ (p = .ret (.bool true) ∧ KS [] σ σ') := by
 apply k34_is.does (by simp); obtain ⟨p1, s1, d1, v5, q5, rfl, n5, K1, I1⟩ := yff h hok; obtain ⟨p2, s2, d2, v6, rfl, n6, K2⟩ := yem (h2.pushes K1) hok; have Kσ2 : KS [] σ s2 := K1.trans' K2; have R5 : RowS s2 1 v5 ((yaS d).map V.str) (yaS d).length := (yeE n5).keep K2.keep; have R6 : RowS s2 1 v6 ((yaS d).map V.str) (yaS d).length := .inl n6; have D2 := h.pushes Kσ2; have F2 := h2.pushes Kσ2; have hdown := yiw D2; have hwr := yjR D2; obtain ⟨fv, o2, hR2⟩ := F2.hd; have lp : yad Tryz.prog s2.objs 4 (.optr r2 2) = some (.bool d.on) := (by rw [yab o2 G4]; rfl); have lc : yad Tryz.prog s2.objs 3 (.optr r2 3) = some (.int .i64 (d.writes : Nat)) := (by rw [yab o2 G3]; rfl); have hbb : ((!d.on) == d.on) = false := by cases d.on <;> rfl
 simp only [k34_a, WKV, Nat.reduceLT, Nat.reduceEqDiff, ↓reduceIte, reduceCtorEq, Nat.reduceAdd, Int.reduceLT, Int.reduceNeg, yac, gD0, gD1]; refine KD.ret d1 ?_; simp only [k34_a, WKV, Nat.reduceLT, Nat.reduceEqDiff, ↓reduceIte, reduceCtorEq, Nat.reduceAdd, Int.reduceLT, Int.reduceNeg, yac, gD0, gD1]; refine KD.ret d2 ?_; simp only [k34_a, WKV, Nat.reduceLT, Nat.reduceEqDiff, ↓reduceIte, reduceCtorEq, Nat.reduceAdd, Int.reduceLT, Int.reduceNeg, yac, gD0, gD1, R5.len TSS, R6.len TSS, eq_self, decide_true, Bool.not_true]; refine KD.ret hdown ?_; simp only [k34_a, WKV, Nat.reduceLT, Nat.reduceEqDiff, ↓reduceIte, reduceCtorEq, Nat.reduceAdd, Int.reduceLT, Int.reduceNeg, yac, gD0, gD1, rFA r2 2 (by omega), lp, eqlB 4 rfl, hbb]; refine KD.ret hwr ?_; simp only [k34_a, WKV, Nat.reduceLT, Nat.reduceEqDiff, ↓reduceIte, reduceCtorEq, Nat.reduceAdd, Int.reduceLT, Int.reduceNeg, yac, gD0, gD1, rFA r2 2 (by omega), rFA r2 3 (by omega), lp, lc, eq_self, decide_true, Bool.not_true, R5.len TSS]; refine Ev.loopF (fun (i : Nat) e s => e 41 = .int .i64 (i : Nat) ∧ i ≤ (yaS d).length ∧ KS [] s2 s) (fun i => (yaS d).length - i) 0 ⟨by simp [yaa], Nat.zero_le _, KS.refl _ _⟩ ?_; rintro i e s ⟨h41, hi, hk⟩ hf; have g0 : e 0 = .optr r 0 := (hf 0 (by decide)).trans (by simp [yaa]); have g1 : e 1 = .optr r2 0 := (hf 1 (by decide)).trans (by simp [yaa]); have g5 : e 5 = v5 := (hf 5 (by decide)).trans (by simp [yaa]); have g6 : e 6 = v6 := (hf 6 (by decide)).trans (by simp [yaa]); have g40 : e 40 = .int .i64 ((yaS d).length : Nat) := (hf 40 (by decide)).trans (by simp [yaa]); clear hf; by_cases hlt : i < (yaS d).length
 · have hlt' : (i : Int) < (yaS d).length := (by omega); have hn16 := ybS hok; have hwi : IntKind.i64.wrap ((i : Int) + 1) = ((i + 1 : Nat) : Int) := (by rw [show ((i : Int) + 1) = ((i + 1 : Nat) : Int) from by omega]; exact ya8 (by omega)); obtain ⟨a5, a5a, a5l⟩ := R5.strAt hlt; obtain ⟨a6, a6a, a6l⟩ := R6.strAt hlt; obtain ⟨p3, s3, d3, v8, q8, rfl, n8, K3, I3⟩ := yil (n := (yaS d)[i]) (D2.pushes hk) hok; obtain ⟨p4, s4, d4, v10, rfl, n10, K4⟩ := yho (n := (yaS d)[i]) ((F2.pushes hk).pushes K3) hok; have hk3 := hk.trans' K3; have hk4 := hk3.trans' K4; have hrb : RB s4 v8 (yav (yaS d)[i] d).2 := yhR (ycA n8 fun x hx o ho => K4.ko _ _ (by simp) ho); have hsame := yhg hrb (.inl n10 : RB s4 v10 _) (by have := ydM hok (yaS d)[i]; omega); rw [decide_eq_true rfl] at hsame; simp only [k34_a, WKV, Nat.reduceLT, Nat.reduceEqDiff, ↓reduceIte, reduceCtorEq, Nat.reduceAdd, Int.reduceLT, Int.reduceNeg, yac, h41, g40, g5, g0, hlt', decide_true, a5a, a5l s hk]; refine KD.ret d3 ?_; simp only [k34_a, WKV, Nat.reduceLT, Nat.reduceEqDiff, ↓reduceIte, reduceCtorEq, Nat.reduceAdd, Int.reduceLT, Int.reduceNeg, yac, g6, g1, a6a, a6l s3 hk3]; refine KD.ret d4 ?_; simp only [k34_a, WKV, Nat.reduceLT, Nat.reduceEqDiff, ↓reduceIte, reduceCtorEq, Nat.reduceAdd, Int.reduceLT, Int.reduceNeg, yac, g5, g6, a5a, a6a, a5l s4 hk4, a6l s4 hk4, sbN, eq_self, decide_true, Bool.not_true]; refine KD.ret hsame ?_; simp only [k34_a, WKV, Nat.reduceLT, Nat.reduceEqDiff, ↓reduceIte, reduceCtorEq, Nat.reduceAdd, Int.reduceLT, Int.reduceNeg, yac, g5, g6, a5a, a6a, a5l s4 hk4, a6l s4 hk4, h41, hwi, Bool.not_true]; exact ⟨i + 1, ⟨by simp [yaa], by omega, hk4⟩, by omega⟩
 · have hlt' : ¬ (i : Int) < (yaS d).length := (by omega); simp only [k34_a, WKV, Nat.reduceLT, Nat.reduceEqDiff, ↓reduceIte, reduceCtorEq, Nat.reduceAdd, Int.reduceLT, Int.reduceNeg, yac, h41, g40, hlt', decide_false]; exact Kσ2.trans' hk
theorem yfb {cs : List V} {i : Nat} {v : V} (h : (cs.drop i).take 1 = [v]) : cs[i]? = some v := by
 have : ((cs.drop i).take 1)[0]? = some v := (by rw [h]; rfl); simpa using this
structure FA where
 name : List UInt8
 bv : V
 b : List UInt8
def FA.cells (f : FA) : List V := [.str f.name, f.bv]
structure FA.Ok (f : FA) : Prop where
 b : BtsV f.bv f.b
 bl : f.b.length ≤ 2000000
structure OA where
 kind : Int
 n : Int
 k : Int
 bv : V
 b : List UInt8
def OA.cells (o : OA) : List V := [.int .i64 o.kind, .int .i64 o.n, .int .i64 o.k, o.bv]
structure OA.Ok (o : OA) : Prop where
 b : BtsV o.bv o.b
 bl : o.b.length ≤ 2000000
 n : ycm o.n
 k : ycm o.k
theorem FA.cells_len (f : FA) : f.cells.length = 2 := rfl
theorem OA.cells_len (o : OA) : o.cells.length = 4 := rfl
theorem FA.one {f : FA} (h : BtsV f.bv f.b) : f.cells.all Q.one = true := by
 simp only [FA.cells, List.all_cons, List.all_nil, h.one, Bool.and_true]; rfl
theorem OA.one {o : OA} (h : BtsV o.bv o.b) : o.cells.all Q.one = true := by
 simp only [OA.cells, List.all_cons, List.all_nil, h.one, Bool.and_true]; rfl
theorem yeh {σ : St} {q : Nat} {f : FA} (h : σ.objs[q]? = some (.cells f.cells)) : yad Tryz.prog σ.objs 9 (.optr q 0) = some (.str f.name) ∧ yad Tryz.prog σ.objs 30 (.optr q 1) = some f.bv := by
 have g9 : ybc Tryz.prog 9 = some false := (by kernel_rfl); refine ⟨?_, ?_⟩
 · rw [yab h g9]; rfl
 · rw [yab h pGB]; rfl
theorem ypP {σ : St} {q : Nat} {o : OA} (h : σ.objs[q]? = some (.cells o.cells)) : yad Tryz.prog σ.objs 3 (.optr q 0) = some (.int .i64 o.kind) ∧ yad Tryz.prog σ.objs 3 (.optr q 1) = some (.int .i64 o.n) ∧ yad Tryz.prog σ.objs 3 (.optr q 2) = some (.int .i64 o.k) ∧ yad Tryz.prog σ.objs 30 (.optr q 3) = some o.bv := by
 refine ⟨?_, ?_, ?_, ?_⟩
 · rw [yab h G3]; rfl
 · rw [yab h G3]; rfl
 · rw [yab h G3]; rfl
 · rw [yab h pGB]; rfl
def FsV (w : V) (l : List FA) : Prop := RowV 2 w (l.flatMap FA.cells) l.length
def OsV (w : V) (l : List OA) : Prop := RowV 4 w (l.flatMap OA.cells) l.length
theorem FOFi4 : fieldsOf Tryz.prog 53 = [(9, 0), (30, 1)] := by kernel_rfl
theorem FOOp4 : fieldsOf Tryz.prog 56 = [(3, 0), (3, 1), (3, 2), (30, 3)] := by kernel_rfl
theorem yqr : Tryz.prog.cellsOf 53 = 2 := by kernel_rfl
theorem yp2 : Tryz.prog.cellsOf 56 = 4 := by kernel_rfl
theorem TFs4 : Tryz.prog.underlying 50 = some (.slice 53) := by kernel_rfl
theorem TOs4 : Tryz.prog.underlying 51 = some (.slice 56) := by kernel_rfl
theorem SFi4 : yaQ Tryz.prog 53 = some 2 := by kernel_rfl
theorem SOp4 : yaQ Tryz.prog 56 = some 4 := by kernel_rfl
theorem GFi4 : ybc Tryz.prog 53 = some true := by kernel_rfl
theorem GOp4 : ybc Tryz.prog 56 = some true := by kernel_rfl
theorem ZFi4 : ybl Tryz.prog 53 = some (.agg [.str [], .nils]) := by kernel_rfl
theorem ymm : ybl Tryz.prog 56 = some (.agg [.int .i64 0, .int .i64 0, .int .i64 0, .nils]) := by kernel_rfl
theorem fi40 (r : Nat) : yan Tryz.prog 53 (.optr r 0) 0 = some (.optr r 0) := by kernel_rfl
theorem yp5 (r : Nat) : yan Tryz.prog 53 (.optr r 0) 1 = some (.optr r 1) := by kernel_rfl
theorem yj6 (r : Nat) : yan Tryz.prog 56 (.optr r 0) 0 = some (.optr r 0) := by kernel_rfl
theorem yjB (r : Nat) : yan Tryz.prog 56 (.optr r 0) 1 = some (.optr r 1) := by kernel_rfl
theorem yli (r : Nat) : yan Tryz.prog 56 (.optr r 0) 2 = some (.optr r 2) := by kernel_rfl
theorem yjq (r : Nat) : yan Tryz.prog 56 (.optr r 0) 3 = some (.optr r 3) := by kernel_rfl
theorem fi_VT4 {k : Nat} {cs : List V} (h : VT Tryz.prog k 53 cs) : ∃ o : FA, cs = o.cells ∧ BtsV o.bv o.b := by
 obtain ⟨k', hl, hf⟩ := yiA FOFi4 h; rw [yqr] at hl; simp only [List.mem_cons, List.not_mem_nil, or_false, forall_eq_or_imp, forall_eq, COs, COb] at hf; obtain ⟨f0, f1⟩ := hf; obtain ⟨s, h0, w0⟩ := VT_str T9 f0; obtain ⟨w, bs, h1, hb⟩ := ypq f1; refine ⟨⟨s, w, bs⟩, ?_, hb⟩; have h0 := yfb h0; have h1 := yfb h1
 match cs, hl with
 | [x0, x1], _ =>
   simp at h0 h1; simp [FA.cells, h0, h1]
theorem op_VT4 {k : Nat} {cs : List V} (h : VT Tryz.prog k 56 cs) : ∃ o : OA, cs = o.cells ∧ BtsV o.bv o.b ∧ ycm o.n ∧ ycm o.k := by
 obtain ⟨k', hl, hf⟩ := yiA FOOp4 h; rw [yp2] at hl; simp only [List.mem_cons, List.not_mem_nil, or_false, forall_eq_or_imp, forall_eq, COi, COb] at hf; obtain ⟨f0, f1, f2, f3⟩ := hf; obtain ⟨a, h0, w0⟩ := yko T3 f0; obtain ⟨n, h1, w1⟩ := yko T3 f1; obtain ⟨m, h2, w2⟩ := yko T3 f2; obtain ⟨w, bs, h3, hb⟩ := ypq f3; refine ⟨⟨a, n, m, w, bs⟩, ?_, hb, yhM w1, yhM w2⟩; have h0 := yfb h0; have h1 := yfb h1; have h2 := yfb h2; have h3 := yfb h3
 match cs, hl with
 | [x0, x1, x2, x3], _ =>
   simp at h0 h1 h2 h3; simp [OA.cells, h0, h1, h2, h3]
theorem yqe {x : V} (h : yoX Tryz.prog 50 x) (hb : ycG x ≤ 2000000) : ∃ l, FsV x l ∧ (∀ o ∈ l, o.Ok) ∧ l.length ≤ ycG x := by
 obtain ⟨k, hv⟩ : ∃ k, VT Tryz.prog k 50 [x] := by
   unfold yoX at h; rw [TFs4] at h; exact h
 obtain ⟨k', hc⟩ := yhJ TFs4 hv; rcases hc with hc | ⟨vs, len, hc, h1, h2, h3⟩
 · injection hc with hc; subst hc; exact ⟨[], ⟨rfl, .inl ⟨rfl, rfl⟩⟩, fun o ho => (by cases ho), by simp⟩
 · injection hc with hc; subst hc; rw [yqr] at h1 h3 ⊢
   obtain ⟨l, rfl, hl, hR⟩ := yib (f := FA.cells) (R := fun o : FA => BtsV o.bv o.b) len vs h1 fun i hi => by
     obtain ⟨o, e, ho⟩ := fi_VT4 (h3 i hi); exact ⟨o, e, ho⟩
   subst hl; have hbl := ykC FA.cells_len (by omega) l; refine ⟨l, ⟨ydZ FA.cells_len l, .inr ⟨.ro, rfl⟩⟩, fun o ho => ?_, ?_⟩
   · have b1 := hR o ho; have h4 := yh2 (f := FA.cells) ho; have h5 := yle b1; simp only [FA.cells, ya9] at h4; rw [yqr] at hb; simp only [ycG] at hb; exact ⟨b1, by omega⟩
   · simp only [ycG]; omega
theorem yqf {x : V} (h : yoX Tryz.prog 51 x) (hb : ycG x ≤ 2000000) : ∃ l, OsV x l ∧ (∀ o ∈ l, o.Ok) ∧ l.length ≤ ycG x := by
 obtain ⟨k, hv⟩ : ∃ k, VT Tryz.prog k 51 [x] := by
   unfold yoX at h; rw [TOs4] at h; exact h
 obtain ⟨k', hc⟩ := yhJ TOs4 hv; rcases hc with hc | ⟨vs, len, hc, h1, h2, h3⟩
 · injection hc with hc; subst hc; exact ⟨[], ⟨rfl, .inl ⟨rfl, rfl⟩⟩, fun o ho => (by cases ho), by simp⟩
 · injection hc with hc; subst hc; rw [yp2] at h1 h3 ⊢
   obtain ⟨l, rfl, hl, hR⟩ := yib (f := OA.cells) (R := fun o : OA => BtsV o.bv o.b ∧ ycm o.n ∧ ycm o.k) len vs h1 fun i hi => by
     obtain ⟨o, e, ho⟩ := op_VT4 (h3 i hi); exact ⟨o, e, ho⟩
   subst hl; have hbl := ykC OA.cells_len (by omega) l; refine ⟨l, ⟨ydZ OA.cells_len l, .inr ⟨.ro, rfl⟩⟩, fun o ho => ?_, ?_⟩
   · obtain ⟨b1, b2, b3⟩ := hR o ho; have h4 := yh2 (f := OA.cells) ho; have h5 := yle b1; simp only [OA.cells, ya9] at h4; rw [yp2] at hb; simp only [ycG] at hb; exact ⟨b1, by omega, b2, b3⟩
   · simp only [ycG]; omega
theorem FsV.len4 {v : V} {l : List FA} (h : FsV v l) : ydn Tryz.prog 50 v = some (.int .i64 l.length) := RowV.len h TFs4
theorem OsV.len4 {v : V} {l : List OA} (h : OsV v l) : ydn Tryz.prog 51 v = some (.int .i64 l.length) := RowV.len h TOs4
theorem FsV.addr4 {v : V} {l : List FA} (h : FsV v l) {i : Nat} (hi : i < l.length) : yai Tryz.prog 50 v (.int .i64 i) = some (.eptr (l.flatMap FA.cells) (i * 2)) := by
 have := RowV.addr h TFs4 SFi4 (by omega) (kk := .i64) (i := i) (by omega) (by omega)
 rwa [Int.toNat_natCast] at this
theorem OsV.addr4 {v : V} {l : List OA} (h : OsV v l) {i : Nat} (hi : i < l.length) : yai Tryz.prog 51 v (.int .i64 i) = some (.eptr (l.flatMap OA.cells) (i * 4)) := by
 have := RowV.addr h TOs4 SOp4 (by omega) (kk := .i64) (i := i) (by omega) (by omega)
 rwa [Int.toNat_natCast] at this
theorem FsV.load4 {l : List FA} {i : Nat} (hi : i < l.length) {objs : List Ob} : yad Tryz.prog objs 53 (.eptr (l.flatMap FA.cells) (i * 2)) = some (.agg l[i].cells) := yik FA.cells_len hi GFi4 SFi4
theorem OsV.load4 {l : List OA} {i : Nat} (hi : i < l.length) {objs : List Ob} : yad Tryz.prog objs 56 (.eptr (l.flatMap OA.cells) (i * 4)) = some (.agg l[i].cells) := yik OA.cells_len hi GOp4 SOp4
theorem ypJ {σ : St} {o : FA} (h : BtsV o.bv o.b) : yak Tryz.prog ⟨σ.objs ++ [.cells [.str [], .nils]], σ.toks⟩ 53 (.optr σ.objs.length 0) (.agg o.cells) = some ⟨σ.objs ++ [.cells o.cells], σ.toks⟩ := by
 rw [ycY (cs := [.str [], .nils]) (cs' := o.cells) (yap _ _) (by rw [SFi4]; rfl) rfl (FA.one h)]; simp
theorem ypo {σ : St} {o : OA} (h : BtsV o.bv o.b) : yak Tryz.prog ⟨σ.objs ++ [.cells [.int .i64 0, .int .i64 0, .int .i64 0, .nils]], σ.toks⟩ 56 (.optr σ.objs.length 0) (.agg o.cells) = some ⟨σ.objs ++ [.cells o.cells], σ.toks⟩ := by
 rw [ycY (cs := [.int .i64 0, .int .i64 0, .int .i64 0, .nils]) (cs' := o.cells) (yap _ _) (by rw [SOp4]; rfl) rfl (OA.one h)]; simp
theorem yl9 {σ : St} {wf wo : V} {lf : List FA} {lo : List OA} (hwf : FsV wf lf) (hwo : OsV wo lo) (hof : ∀ o ∈ lf, o.Ok) (hoo : ∀ o ∈ lo, o.Ok) (hlf : lf.length ≤ 2000000) (hlo : lo.length ≤ 2000000) :
   ∃ p σ', Does Tryz.prog prims 26 [wf, wo] σ p σ' ∧ ∃ b, p = .ret (.bool b) ∧ KS [] σ σ' := by
 apply k26_is.does (by simp); have hzf : yah (V.agg [.str [], .nils]) = [.str [], .nils] := rfl; have hzo : yah (V.agg [.int .i64 0, .int .i64 0, .int .i64 0, .nils]) = [.int .i64 0, .int .i64 0, .int .i64 0, .nils] := rfl; simp only [k26_a, WKV, Nat.reduceLT, Nat.reduceEqDiff, ↓reduceIte, reduceCtorEq, Nat.reduceAdd, Int.reduceLT, Int.reduceNeg, yac, gD0, gD1, hwf.len4]; refine Ev.loopF (fun (i : Nat) e s => ∃ n : Nat, e 12 = .int .i64 (i : Nat) ∧ i ≤ lf.length ∧ KS [] σ s ∧ e 5 = .int .i64 (n : Nat) ∧ n ≤ 65536) (fun i => lf.length - i) 0 ⟨0, by simp [yaa], Nat.zero_le _, KS.refl _ _, by simp [yaa], by omega⟩ ?_; rintro i e s ⟨n, h12, hi, hk, h5, hn⟩ hf; have g0 : e 0 = wf := (hf 0 (by decide)).trans (by simp [yaa]); have g1 : e 1 = wo := (hf 1 (by decide)).trans (by simp [yaa]); have g10 : e 10 = wf := (hf 10 (by decide)).trans (by simp [yaa]); have g11 : e 11 = .int .i64 (lf.length : Nat) := (hf 11 (by decide)).trans (by simp [yaa]); clear hf; by_cases hlt : i < lf.length
 · have hlt' : (i : Int) < (lf.length : Nat) := (by omega); have hwi : IntKind.i64.wrap ((i : Int) + 1) = ((i + 1 : Nat) : Int) := (by rw [show ((i : Int) + 1) = ((i + 1 : Nat) : Int) from by omega]; exact ya8 (by omega)); have hO := hof lf[i] (List.getElem_mem hlt); obtain ⟨s1, hs1⟩ : ∃ s1 : St, s1 = ⟨s.objs ++ [.cells lf[i].cells], s.toks⟩ := ⟨_, rfl⟩; have hst := ypJ (σ := s) hO.b; rw [← hs1] at hst; have K1 : KS [] s s1 := (by rw [hs1]; exact KS.push _ _ _); have ob : s1.objs[s.objs.length]? = some (.cells lf[i].cells) := (by rw [hs1]; exact yap _ _); have hlb := hO.bl; have w2 : IntKind.i64.wrap ((n : Int) + ((lf[i].b.length : Nat) : Int)) = ((n + lf[i].b.length : Nat) : Int) := (by rw [yae (by omega) (by omega)]; omega); by_cases hbig : 65536 < n + lf[i].b.length
   · have hbig' : (65536 : Int) < ((n + lf[i].b.length : Nat) : Int) := (by omega); simp only [k26_a, WKV, Nat.reduceLT, Nat.reduceEqDiff, ↓reduceIte, reduceCtorEq, Nat.reduceAdd, Int.reduceLT, Int.reduceNeg, yac, gD0, gD1, h12, g11, g10, h5, hlt', decide_true, hwf.addr4 hlt, FsV.load4 hlt, ZFi4, ycn, hzf, hst, yp5, (yeh ob).2, hO.b.len T22, w2, hbig']; exact ⟨true, rfl, hk.trans' K1⟩
   · have hbig' : ¬ (65536 : Int) < ((n + lf[i].b.length : Nat) : Int) := (by omega); simp only [k26_a, WKV, Nat.reduceLT, Nat.reduceEqDiff, ↓reduceIte, reduceCtorEq, Nat.reduceAdd, Int.reduceLT, Int.reduceNeg, yac, gD0, gD1, h12, g11, g10, h5, hlt', decide_true, decide_false, hwf.addr4 hlt, FsV.load4 hlt, ZFi4, ycn, hzf, hst, yp5, (yeh ob).2, hO.b.len T22, w2, hbig', hwi]; exact ⟨i + 1, ⟨n + lf[i].b.length, by simp [yaa], by omega, hk.trans' K1, by simp [yaa], by omega⟩, by omega⟩
 have hlt' : ¬ (i : Int) < (lf.length : Nat) := (by omega); simp only [k26_a, WKV, Nat.reduceLT, Nat.reduceEqDiff, ↓reduceIte, reduceCtorEq, Nat.reduceAdd, Int.reduceLT, Int.reduceNeg, yac, gD0, gD1, h12, g11, g1, hlt', decide_false, hwo.len4]; refine Ev.loopF (fun (i : Nat) e s => ∃ n : Nat, e 26 = .int .i64 (i : Nat) ∧ i ≤ lo.length ∧ KS [] σ s ∧ e 5 = .int .i64 (n : Nat) ∧ n ≤ 4194304) (fun i => lo.length - i) 0 ⟨n, by simp [yaa], Nat.zero_le _, hk, by simp [yaa, h5], by omega⟩ ?_; rintro j e2 u ⟨m, h26, hj, hk2, h52, hm⟩ hf; have m0 : e2 0 = wf := (hf 0 (by decide)).trans (by simp [yaa, g0]); have m1 : e2 1 = wo := (hf 1 (by decide)).trans (by simp [yaa, g1]); have g24 : e2 24 = wo := (hf 24 (by decide)).trans (by simp [yaa]); have g25 : e2 25 = .int .i64 (lo.length : Nat) := (hf 25 (by decide)).trans (by simp [yaa]); clear hf; by_cases hlj : j < lo.length
 · have hlj' : (j : Int) < (lo.length : Nat) := (by omega); have hwi : IntKind.i64.wrap ((j : Int) + 1) = ((j + 1 : Nat) : Int) := (by rw [show ((j : Int) + 1) = ((j + 1 : Nat) : Int) from by omega]; exact ya8 (by omega)); have hO := hoo lo[j] (List.getElem_mem hlj); obtain ⟨s1, hs1⟩ : ∃ s1 : St, s1 = ⟨u.objs ++ [.cells lo[j].cells], u.toks⟩ := ⟨_, rfl⟩; have hst := ypo (σ := u) hO.b; rw [← hs1] at hst; have K1 : KS [] u s1 := (by rw [hs1]; exact KS.push _ _ _); have ob : s1.objs[u.objs.length]? = some (.cells lo[j].cells) := (by rw [hs1]; exact yap _ _); have hlb := hO.bl; have w2 : IntKind.i64.wrap ((m : Int) + ((lo[j].b.length : Nat) : Int)) = ((m + lo[j].b.length : Nat) : Int) := (by rw [yae (by omega) (by omega)]; omega); by_cases hbig : 262144 < m + lo[j].b.length
   · have hbig' : (262144 : Int) < ((m + lo[j].b.length : Nat) : Int) := (by omega); simp only [k26_a, WKV, Nat.reduceLT, Nat.reduceEqDiff, ↓reduceIte, reduceCtorEq, Nat.reduceAdd, Int.reduceLT, Int.reduceNeg, yac, gD0, gD1, h26, g25, g24, h52, hlj', decide_true, hwo.addr4 hlj, OsV.load4 hlj, ymm, ycn, hzo, hst, yjq, (ypP ob).2.2.2, hO.b.len T22, w2, hbig']; exact ⟨true, rfl, hk2.trans' K1⟩
   · have hbig' : ¬ (262144 : Int) < ((m + lo[j].b.length : Nat) : Int) := (by omega); simp only [k26_a, WKV, Nat.reduceLT, Nat.reduceEqDiff, ↓reduceIte, reduceCtorEq, Nat.reduceAdd, Int.reduceLT, Int.reduceNeg, yac, gD0, gD1, h26, g25, g24, h52, hlj', decide_true, decide_false, hwo.addr4 hlj, OsV.load4 hlj, ymm, ycn, hzo, hst, yjq, (ypP ob).2.2.2, hO.b.len T22, w2, hbig', hwi]; exact ⟨j + 1, ⟨m + lo[j].b.length, by simp [yaa], by omega, hk2.trans' K1, by simp [yaa], by omega⟩, by omega⟩
 have hlj' : ¬ (j : Int) < (lo.length : Nat) := (by omega); by_cases h256 : (512 : Int) < (lo.length : Nat)
 · simp only [k26_a, WKV, Nat.reduceLT, Nat.reduceEqDiff, ↓reduceIte, reduceCtorEq, Nat.reduceAdd, Int.reduceLT, Int.reduceNeg, yac, gD0, gD1, h26, g25, m1, hlj', decide_false, decide_true, hwo.len4, h256]; exact ⟨true, rfl, hk2⟩
 · by_cases h16 : (16 : Int) < (lf.length : Nat)
   · simp only [k26_a, WKV, Nat.reduceLT, Nat.reduceEqDiff, ↓reduceIte, reduceCtorEq, Nat.reduceAdd, Int.reduceLT, Int.reduceNeg, yac, gD0, gD1, h26, g25, m1, m0, hlj', decide_false, decide_true, hwo.len4, h256, hwf.len4, h16]; exact ⟨true, rfl, hk2⟩
   · simp only [k26_a, WKV, Nat.reduceLT, Nat.reduceEqDiff, ↓reduceIte, reduceCtorEq, Nat.reduceAdd, Int.reduceLT, Int.reduceNeg, yac, gD0, gD1, h26, g25, m1, m0, hlj', decide_false, decide_true, hwo.len4, h256, hwf.len4, h16]; exact ⟨false, rfl, hk2⟩
structure Two (s : St) (r rm r2 : Nat) (d : Dk) (fs : List Ent) (q : Option Nat) (rs : List RE) : Prop where
 D : DiskAt s r d rm fs
 R : RefAt s r2 d q rs
 ok : d.Ok
 dj : ∀ x ∈ yay r rm fs, x ∉ r2 :: q.toList
theorem Two.pushes {s s' : St} {r rm r2 : Nat} {d : Dk} {fs : List Ent} {q : Option Nat} {rs : List RE} (h : Two s r rm r2 d fs q rs) (k : KS [] s s') : Two s' r rm r2 d fs q rs := ⟨h.D.pushes k, h.R.pushes k, h.ok, h.dj⟩
structure Half (s : St) (r rm r2 : Nat) (d1 d : Dk) (fs : List Ent) (q : Option Nat) (rs : List RE) : Prop where
 D : DiskAt s r d1 rm fs
 R : RefAt s r2 d q rs
 dj : ∀ x ∈ yay r rm fs, x ∉ r2 :: q.toList
theorem Two.half {s s1 : St} {r rm r2 : Nat} {d d1 : Dk} {fs : List Ent} {q : Option Nat} {rs : List RE} (h : Two s r rm r2 d fs q rs) (N : Next s r rm fs s1 d1) : ∃ fs1, Half s1 r rm r2 d1 d fs1 q rs ∧ KS (yay r rm fs) s s1 := by
 obtain ⟨fs1, D1, K1, I1⟩ := N; refine ⟨fs1, ⟨D1, h.R.keep K1 fun x hx hx2 => h.dj x hx2 hx, fun x hx hx2 => ?_⟩, K1⟩; rcases I1 x hx with h1 | h1
 · exact h.dj x h1 hx2
 · have := h.R.lt x hx2; omega
structure Off2 (a r rm r2 : Nat) (fs : List Ent) (q : Option Nat) : Prop where
 f : a ∉ yay r rm fs
 q : a ∉ r2 :: q.toList
theorem Two.off {s : St} {r rm r2 : Nat} {d : Dk} {fs : List Ent} {q : Option Nat} {rs : List RE} (h : Two s r rm r2 d fs q rs) {a : Nat} (ha : s.objs.length ≤ a) : Off2 a r rm r2 fs q :=
 ⟨fun hx => by have := h.D.lt _ hx; omega, fun hx => by have := h.R.lt _ hx; omega⟩
theorem Two.call1 {s s1 : St} {a r rm r2 : Nat} {o : Ob} {d d1 : Dk} {fs : List Ent} {q : Option Nat} {rs : List RE} (h : Two s r rm r2 d fs q rs) (ho : s.objs[a]? = some o) (hf : Off2 a r rm r2 fs q) (N : Next s r rm fs s1 d1) : ∃ fs1, Half s1 r rm r2 d1 d fs1 q rs ∧ s1.objs[a]? = some o ∧ Off2 a r rm r2 fs1 q := by
 obtain ⟨fs1, D1, K1, I1⟩ := N; obtain ⟨fs2, D2, K2⟩ := h.half ⟨fs1, D1, K1, I1⟩; have ha := (gA0.1 ho).1; refine ⟨fs1, ⟨D1, h.R.keep K1 fun x hx hx2 => h.dj x hx2 hx, fun x hx hx2 => ?_⟩, K1.ko _ _ hf.f ho, ⟨fun hx => ?_, hf.q⟩⟩
 · rcases I1 x hx with h1 | h1
   · exact h.dj x h1 hx2
   · have := h.R.lt x hx2; omega
 · rcases I1 _ hx with h1 | h1
   · exact hf.f h1
   · omega
theorem Half.call2 {s s1 : St} {a r rm r2 : Nat} {o : Ob} {d1 d : Dk} {fs : List Ent} {q : Option Nat} {rs : List RE} (h : Half s r rm r2 d1 d fs q rs) (ok : d1.Ok) (ho : s.objs[a]? = some o) (hf : Off2 a r rm r2 fs q) (N : RNext s r2 q s1 d1) : ∃ q1 rs1, Two s1 r rm r2 d1 fs q1 rs1 ∧ s1.objs[a]? = some o ∧ Off2 a r rm r2 fs q1 := by
 obtain ⟨q1, rs1, R1, K1, I1⟩ := N; have ha := (gA0.1 ho).1; refine ⟨q1, rs1, ⟨h.D.keep K1 h.dj, R1, ok, fun x hx hx2 => ?_⟩, K1.ko _ _ hf.q ho, ⟨hf.f, fun hx => ?_⟩⟩
 · rcases I1 x hx2 with h1 | h1
   · exact h.dj x hx h1
   · have := h.D.lt x hx; omega
 · rcases I1 _ hx with h1 | h1
   · exact hf.q h1
   · omega
theorem yne {s : St} {r : Nat} {d : Dk} {q : Option Nat} {rs : List RE} (h : RefAt s r d q rs) : ∃ s1, yak Tryz.prog s 4 (.optr r 2) (.bool true) = some s1 ∧ RNext s r q s1 { d with on := true } := by
 obtain ⟨fv, o, hR⟩ := h.hd; have st := yag (P := Tryz.prog) (off := 2) (t := 4) (v := .bool true) o S4 rfl (by simp)
 exact ⟨_, st, (h.headN (d2 := { d with on := true }) rfl o hR rfl).1⟩
theorem yj2 {s : St} {r : Nat} {d : Dk} {q : Option Nat} {rs : List RE} (h : RefAt s r d q rs) (n : Int) : ∃ s1, yak Tryz.prog s 3 (.optr r 1) (.int .i64 n) = some s1 ∧ RNext s r q s1 { d with room := n } := by
 obtain ⟨fv, o, hR⟩ := h.hd; have st := yag (P := Tryz.prog) (off := 1) (t := 3) (v := .int .i64 n) o S3 rfl (by simp)
 exact ⟨_, st, (h.headN (d2 := { d with room := n }) rfl o hR rfl).1⟩
theorem on_ok {d : Dk} (h : d.Ok) : ({ d with on := true } : Dk).Ok := h.head rfl h.arm h.rm h.kp
theorem yp1 {d : Dk} (h : d.Ok) {n : Int} (hn : ycm n) : ({ d with room := n } : Dk).Ok := h.head rfl h.arm hn h.kp
theorem arm_ok {d : Dk} (h : d.Ok) {n k : Int} (hn : ycm n) (hk : ycm k) : (yjo n k d).Ok := h.head rfl (by unfold ycm at hn; show ((n.toNat : Nat) : Int) ≤ _; omega) h.rm hk
theorem yjz (k : Int) (d : Dk) : (ydG k d).writes = d.writes := by unfold ydG; split <;> rfl
theorem RIn.nextA {σ s s' : St} {a r : Nat} {o : Ob} {d d' : Dk} {q q' : Option Nat} {rs' : List RE} (h : RIn σ r q s d q' rs') (N : RNext s r q' s' d') (ho : s.objs[a]? = some o) (ha : a ∉ r :: q'.toList) : ∃ q2 rs2, RIn σ r q s' d' q2 rs2 ∧ s'.objs[a]? = some o ∧ a ∉ r :: q2.toList ∧ KS (r :: q'.toList) s s' := by
 obtain ⟨q2, rs2, h1, h2, h3⟩ := N; have hl := (gA0.1 ho).1; refine ⟨q2, rs2, ⟨h1, h.ks.trans h2 h.gr, fun x hx => ?_⟩, h2.ko _ _ ha ho, fun hx => ?_, h2⟩
 · rcases h3 x hx with h4 | h4
   · exact h.gr x h4
   · have := h.ks.le; exact .inr (by omega)
 · rcases h3 _ hx with h4 | h4
   · exact ha h4
   · omega
theorem RIn.put {σ s s' : St} {a r : Nat} {d : Dk} {q q' : Option Nat} {rs' : List RE} (h : RIn σ r q s d q' rs') (k : KS [a] s s') (ha : a ∉ r :: q'.toList) (hl : σ.objs.length ≤ a) : RIn σ r q s' d q' rs' :=
 ⟨h.at'.keep k fun x hx hx2 => ha (by rw [List.mem_singleton] at hx2; rw [← hx2]; exact hx), h.ks.trans k fun x hx => by rw [List.mem_singleton] at hx; exact .inr (by omega), h.gr⟩
theorem RIn.toks {σ s s' : St} {r : Nat} {d : Dk} {q q' : Option Nat} {rs' : List RE} (h : RIn σ r q s d q' rs') (ho : s'.objs = s.objs) (hk : KS [] ⟨s.objs, σ.toks⟩ s') : RIn σ r q s' d q' rs' := by
 refine ⟨⟨?_, h.at'.ok, h.at'.fl, h.at'.ne⟩, ⟨fun x o hx hy => by rw [ho]; exact h.ks.ko x o hx hy, by rw [ho]; exact h.ks.le, hk.tl, hk.tk⟩, h.gr⟩; rw [ho]; exact h.at'.hd
theorem RIn.tk {σ s : St} {r : Nat} {d : Dk} {q q' : Option Nat} {rs' : List RE} (h : RIn σ r q s d q' rs') : KS [] ⟨s.objs, σ.toks⟩ s := ⟨fun _ _ _ h => h, Nat.le_refl _, h.ks.tl, h.ks.tk⟩
def yaH (n : List UInt8) (d : Dk) : Nat × Dk := if (ybb (yav n d).2).2 < (yav n d).2.length then yaL n ((ybb (yav n d).2).2 : Nat) d else (0, d)
theorem ylr (n : List UInt8) (d : Dk) : ybJ n d = if (yaH n d).1 ≠ 0 then (((yaH n d).1, []), (yaH n d).2) else if (yaO n (yaH n d).2).1 ≠ 0 then (((yaO n (yaH n d).2).1, []), (yaO n (yaH n d).2).2) else ((0, (ybb (yav n d).2).1), (yaO n (yaH n d).2).2) := by
 by_cases h : yao d n = 0
 · have h1 : (yav n d).1 = 0 := (by unfold yav; rw [if_neg (by omega)]); unfold ybJ yaH; rw [if_neg (by omega)]
 · have h1 : yav n d = (yao d n, []) := (by unfold yav; rw [if_pos h]); have h2 : yaH n d = (0, d) := (by unfold yaH; rw [h1]; simp); have h3 : yaO n d = (yao d n, d) := (by unfold yaO; rw [if_pos h]); unfold ybJ; rw [h1, h2]; simp only; rw [if_pos h, if_neg (by omega), h3]; simp only; rw [if_pos h]
theorem ymw {n : List UInt8} {d : Dk} (h : d.Ok) : (yaH n d).2.Ok ∧ (yaH n d).2.writes ≤ d.writes + 1 := by
 unfold yaH; split
 · exact yhU h
 · exact ⟨h, by simp only; omega⟩
theorem wR (p k : Nat) (hk : k < 5) : yan Tryz.prog 68 (.optr p 0) k = some (.optr p k) := by
 match k, hk with
 | 0, _ => exact (by kernel_rfl : yan Tryz.prog 68 (.optr p 0) 0 = some (.optr p 0))
 | 1, _ => exact (by kernel_rfl : yan Tryz.prog 68 (.optr p 0) 1 = some (.optr p 1))
 | 2, _ => exact (by kernel_rfl : yan Tryz.prog 68 (.optr p 0) 2 = some (.optr p 2))
 | 3, _ => exact (by kernel_rfl : yan Tryz.prog 68 (.optr p 0) 3 = some (.optr p 3))
 | 4, _ => exact (by kernel_rfl : yan Tryz.prog 68 (.optr p 0) 4 = some (.optr p 4))
theorem bldR (r : Nat) (per : Int) : ydA Tryz.prog 68 [(0, .optr r 0), (1, .int .i64 per), (2, .int .i64 1), (3, .int .i64 1)] = some (.agg [.optr r 0, .int .i64 per, .int .i64 1, .int .i64 1, .int .i64 0]) := by kernel_rfl
theorem TRw : Tryz.prog.underlying 55 = some (.pointer 68) := by kernel_rfl
theorem GRd : ybc Tryz.prog 28 = some false := by kernel_rfl
def yoz (σ : St) (r p : Nat) (per : Int) (q : Option Nat) (L : List (List UInt8)) (d : Dk) (i : Nat) (e : Nat → V) (u : St) : Prop := e 39 = .int .i64 (i : Nat) ∧ i ≤ L.length ∧ ∃ (dd : Dk) (qu : Option Nat) (ru : List RE) (s : OpS) (ps : List BV), RIn σ r q u dd qu ru ∧ dd.Ok ∧ dd.writes ≤ 100000000 + 3 * i ∧ e 11 = .int .i64 (s.first : Nat) ∧ e 12 = .bool s.brk ∧ u.objs[p]? = some (.cells (yaB r per s.wf s.next 0)) ∧ p ∉ r :: qu.toList ∧ OwnB σ.toks.length u (e 10) ps ∧ ps.map Prod.snd = s.recs ∧ ps.length ≤ 1048576 * i ∧ yaI per d = ybG (L.drop i) s dd ∧ s.next ≤ 2000000000
set_option maxHeartbeats 2000000 in
theorem yhb {σ : St} {r : Nat} {d : Dk} {q : Option Nat} {rs : List RE} (per : Int) (hper : ycm per) (h : RefAt σ r d q rs) (hok : d.Ok) (hw : d.writes ≤ 100000000) :
   ∃ z σ', Does Tryz.prog prims 32 [.optr r 0, .int .i64 per] σ z σ' ∧ ∃ q' rs', RIn σ r q σ' (yaI per d).2 q' rs' ∧ (((yaI per d).1.1 ≠ 0 ∧ z = .ret (.tuple [.nilp, .nils, .int .i64 0, .int .i64 ((yaI per d).1.1 : Nat)])) ∨ ((yaI per d).1.1 = 0 ∧ ∃ p w ps, z = .ret (.tuple [.optr p 0, w, .int .i64 ((yaI per d).1.2.from : Nat), .int .i64 0]) ∧ PtsV w ps ∧ (∀ x ∈ ps, BtsV x.1 x.2) ∧ ps.map Prod.snd = (yaI per d).1.2.recs ∧ σ'.objs[p]? = some (.cells (yaB r per (yaI per d).1.2.wf (yaI per d).1.2.next 0)) ∧ σ.objs.length ≤ p ∧ p ∉ r :: q'.toList)) := by
 suffices key : ∀ P : VRes → St → Prop, (∀ z σ', (∃ q' rs', RIn σ r q σ' (yaI per d).2 q' rs' ∧ (((yaI per d).1.1 ≠ 0 ∧ z = .ret (.tuple [.nilp, .nils, .int .i64 0, .int .i64 ((yaI per d).1.1 : Nat)])) ∨ ((yaI per d).1.1 = 0 ∧ ∃ p w ps, z = .ret (.tuple [.optr p 0, w, .int .i64 ((yaI per d).1.2.from : Nat), .int .i64 0]) ∧ PtsV w ps ∧ (∀ x ∈ ps, BtsV x.1 x.2) ∧ ps.map Prod.snd = (yaI per d).1.2.recs ∧ σ'.objs[p]? = some (.cells (yaB r per (yaI per d).1.2.wf (yaI per d).1.2.next 0)) ∧ σ.objs.length ≤ p ∧ p ∉ r :: q'.toList))) → P z σ') → ∃ z σ', Does Tryz.prog prims 32 [.optr r 0, .int .i64 per] σ z σ' ∧ P z σ' from key _ fun _ _ h => h
 intro P hP; apply k32_is.does (by simp); have hpw := h.power; have early : ∀ (e : Nat) (ss : OpS), e ≠ 0 → yaI per d = ((e, ss), d) → P (.ret (.tuple [.nilp, .nils, .int .i64 0, .int .i64 (e : Nat)])) σ := fun e ss he hD => hP _ _ (by rw [hD]; exact ⟨q, rs, RIn.refl h, .inl ⟨he, rfl⟩⟩); by_cases h1 : per < 1
 · have hD : yaI per d = ((1, op0), d) := (by unfold yaI; rw [if_pos h1]); simp only [k32_a, WKV, Nat.reduceLT, Nat.reduceEqDiff, ↓reduceIte, reduceCtorEq, Nat.reduceAdd, Int.reduceLT, Int.reduceNeg, yac, gD0, gD1, yaJ, ybd, h1, decide_true]; exact early 1 op0 (by decide) hD
 cases hon : d.on with
 | false =>
   rw [hon] at hpw; have hD : yaI per d = ((20, op0), d) := (by unfold yaI; rw [if_neg h1, if_pos hon]); simp only [k32_a, WKV, Nat.reduceLT, Nat.reduceEqDiff, ↓reduceIte, reduceCtorEq, Nat.reduceAdd, Int.reduceLT, Int.reduceNeg, yac, gD0, gD1, yaJ, ybd, h1, decide_false, rFA r 2 (by omega), hpw, Bool.not_false]; exact early 20 op0 (by decide) hD
 | true =>
   rw [hon] at hpw; have hD : yaI per d = ybG (yaS d) op0 d := (by unfold yaI; rw [if_neg h1, if_neg (by simp [hon])]); obtain ⟨p, hp⟩ : ∃ p, p = σ.objs.length := ⟨_, rfl⟩; obtain ⟨s1, hs1⟩ : ∃ s1 : St, s1 = ⟨σ.objs ++ [Ob.cells [.optr r 0, .int .i64 per, .int .i64 1, .int .i64 1, .int .i64 0]], σ.toks⟩ := ⟨_, rfl⟩; have K1 : KS [] σ s1 := (by rw [hs1]; exact KS.push _ _ _); have w1 : s1.objs[p]? = some (.cells (yaB r per 1 1 0)) := (by rw [hs1, hp]; exact yap _ _); have hvc : yah (V.agg [.optr r 0, .int .i64 per, .int .i64 1, .int .i64 1, .int .i64 0]) = [.optr r 0, .int .i64 per, .int .i64 1, .int .i64 1, .int .i64 0] := rfl; have R1 := (RIn.refl h).still K1; obtain ⟨p7, s7, c7, v7, rfl, r7, K7⟩ := yem R1.at' hok; have R7 := R1.still K7; obtain ⟨L, hL⟩ : ∃ L, L = yaS d := ⟨_, rfl⟩; have hL16 := ybS hok; rw [← hL] at r7 hL16 hD; have hlv := r7.len TSS; have hpn : p ∉ r :: q.toList := fun hx => by have := h.lt _ hx; omega
   simp only [k32_a, WKV, Nat.reduceLT, Nat.reduceEqDiff, ↓reduceIte, reduceCtorEq, Nat.reduceAdd, Int.reduceLT, Int.reduceNeg, yac, gD0, gD1, yaJ, ybd, h1, decide_false, rFA r 2 (by omega), hpw, Bool.not_true, bldR, ycn, hvc, ← hs1, ← hp]; refine KD.ret c7 ?_; simp only [k32_a, WKV, Nat.reduceLT, Nat.reduceEqDiff, ↓reduceIte, reduceCtorEq, Nat.reduceAdd, Int.reduceLT, Int.reduceNeg, yac, gD0, gD1, hlv]; refine Ev.loopF (yoz σ r p per q L d) (fun i => L.length - i) 0 ?_ ?_
   · unfold yoz; exact ⟨by simp [yaa], Nat.zero_le _, d, q, rs, op0, [], R7, hok, by omega, by simp [yaa, op0], by simp [yaa, op0], K7.ko _ _ (by simp) w1, hpn, OwnB.nil, rfl, by simp, by rw [List.drop_zero]; exact hD, by simp [op0]⟩
   rintro i e u ⟨h39, hi, dd, qu, ru, s, ps, RU, ok, hwr, h11, h12, hc, hpu, O, hps, hpl, hop, hnx⟩ hf; have g0 : e 0 = .optr r 0 := (hf 0 (by decide)).trans (by simp [yaa]); have g8 : e 8 = .nilp := (hf 8 (by decide)).trans (by simp [yaa]); have g9 : e 9 = .optr p 0 := (hf 9 (by decide)).trans (by simp [yaa]); have g37 : e 37 = v7 := (hf 37 (by decide)).trans (by simp [yaa]); have g38 : e 38 = .int .i64 (L.length : Nat) := (hf 38 (by decide)).trans (by simp [yaa]); clear hf; have fault : ∀ (er : Nat) (st : OpS) (u2 : St) (d2 : Dk) (q2 : Option Nat) (rs2 : List RE), er ≠ 0 → yaI per d = ((er, st), d2) → RIn σ r q u2 d2 q2 rs2 → P (.ret (.tuple [.nilp, .nils, .int .i64 0, .int .i64 (er : Nat)])) u2 := fun er st u2 d2 q2 rs2 he hO R2 => hP _ _ (by rw [hO]; exact ⟨q2, rs2, R2, .inl ⟨he, rfl⟩⟩); have ldN : ∀ (u2 : St) (wf nx : Nat), u2.objs[p]? = some (.cells (yaB r per wf nx 0)) → yad Tryz.prog u2.objs 3 (.optr p 3) = some (.int .i64 (nx : Nat)) := fun u2 wf nx h => by rw [yab h G3]; rfl
   by_cases hlt : i < L.length
   · have hlt' : (i : Int) < (L.length : Nat) := (by omega); have hwi : IntKind.i64.wrap ((i : Int) + 1) = ((i + 1 : Nat) : Int) := (by rw [yae (by omega) (by omega)]; omega); have hdrop : L.drop i = L[i] :: L.drop (i + 1) := List.drop_eq_getElem_cons hlt; simp only [k32_a, WKV, Nat.reduceLT, Nat.reduceEqDiff, ↓reduceIte, reduceCtorEq, Nat.reduceAdd, Int.reduceLT, Int.reduceNeg, yac, gD0, gD1, h39, g37, g38, hlt', decide_true, ymT r7 hlt, ym4 hlt]; refine KD.ret (yeZ L[i]) ?_; by_cases hz : yaX L[i] = 0
     · have hz' : ((yaX L[i] : Nat) : Int) = 0 := (by omega); simp only [k32_a, WKV, Nat.reduceLT, Nat.reduceEqDiff, ↓reduceIte, reduceCtorEq, Nat.reduceAdd, Int.reduceLT, Int.reduceNeg, yac, gD0, gD1, h39, hz', eq_self, decide_true, hwi]; exact ⟨i + 1, by unfold yoz; exact ⟨by simp [yaa], by omega, dd, qu, ru, s, ps, RU, ok, by omega, by simp [yaa, h11], by simp [yaa, h12], hc, hpu, by simpa [yaa] using O, hps, by omega, by rw [hop, hdrop, ybG, if_pos hz], hnx⟩, by omega⟩
     have hz' : ¬ ((yaX L[i] : Nat) : Int) = 0 := (by omega); by_cases hsk : s.skips (yaX L[i])
     · obtain ⟨p9, s9, c9, rfl, N9⟩ := yfH (n := L[i]) RU.at' ok (by omega); obtain ⟨ok9, hw9⟩ := ycx (n := L[i]) ok; obtain ⟨q9, rs9, R9, hc9, hp9, K9⟩ := RU.nextA N9 hc hpu; have hfp : (0 : Int) < ((s.first : Nat) : Int) := (by have := hsk.1; omega); have O9 := O.keep K9.tk
       have hgo : (yaj L[i] dd).1 = 0 → yaI per d = ybG (L.drop (i + 1)) { s with brk := true } (yaj L[i] dd).2 := fun e9 => by rw [hop, hdrop, ybG, if_neg hz, if_pos hsk, if_neg (by omega)]
       have hno : (yaj L[i] dd).1 ≠ 0 → yaI per d = (((yaj L[i] dd).1, s), (yaj L[i] dd).2) := fun e9 => by rw [hop, hdrop, ybG, if_neg hz, if_pos hsk, if_pos e9]
       cases hbr : s.brk with
       | true =>
         rw [hbr] at h12; simp only [k32_a, WKV, Nat.reduceLT, Nat.reduceEqDiff, ↓reduceIte, reduceCtorEq, Nat.reduceAdd, Int.reduceLT, Int.reduceNeg, yac, gD0, gD1, h39, h11, h12, g0, g9, hz', hfp, decide_true, decide_false]; refine KD.ret c9 ?_; by_cases e9 : (yaj L[i] dd).1 = 0
         · have e9' : (((yaj L[i] dd).1 : Nat) : Int) = 0 := (by omega); simp only [k32_a, WKV, Nat.reduceLT, Nat.reduceEqDiff, ↓reduceIte, reduceCtorEq, Nat.reduceAdd, Int.reduceLT, Int.reduceNeg, yac, gD0, gD1, h39, e9', eq_self, decide_true, Bool.not_true, hwi]
           exact ⟨i + 1, by unfold yoz; exact ⟨by simp [yaa], by omega, _, q9, rs9, { s with brk := true }, ps, R9, ok9, by omega, by simp [yaa, h11], by simp [yaa], hc9, hp9, by simpa [yaa] using O9, hps, by omega, hgo e9, hnx⟩, by omega⟩
         · have e9' : ¬ (((yaj L[i] dd).1 : Nat) : Int) = 0 := (by omega); simp only [k32_a, WKV, Nat.reduceLT, Nat.reduceEqDiff, ↓reduceIte, reduceCtorEq, Nat.reduceAdd, Int.reduceLT, Int.reduceNeg, yac, gD0, gD1, g8, e9', decide_false, Bool.not_false, ybd]; exact fault _ _ _ _ q9 rs9 e9 (hno e9) R9
       | false =>
         rw [hbr] at h12
         have hnn : ¬ ((yaX L[i] : Nat) : Int) = ((s.next : Nat) : Int) := by
           rcases hsk.2 with h | h
           · rw [hbr] at h; cases h
           · omega
         simp only [k32_a, WKV, Nat.reduceLT, Nat.reduceEqDiff, ↓reduceIte, reduceCtorEq, Nat.reduceAdd, Int.reduceLT, Int.reduceNeg, yac, gD0, gD1, h39, h11, h12, g0, g9, hz', hfp, wR p 3 (by omega), ldN u _ _ hc, hnn, decide_true, decide_false, Bool.not_false]; refine KD.ret c9 ?_; by_cases e9 : (yaj L[i] dd).1 = 0
         · have e9' : (((yaj L[i] dd).1 : Nat) : Int) = 0 := (by omega); simp only [k32_a, WKV, Nat.reduceLT, Nat.reduceEqDiff, ↓reduceIte, reduceCtorEq, Nat.reduceAdd, Int.reduceLT, Int.reduceNeg, yac, gD0, gD1, h39, e9', eq_self, decide_true, Bool.not_true, hwi]
           exact ⟨i + 1, by unfold yoz; exact ⟨by simp [yaa], by omega, _, q9, rs9, { s with brk := true }, ps, R9, ok9, by omega, by simp [yaa, h11], by simp [yaa], hc9, hp9, by simpa [yaa] using O9, hps, by omega, hgo e9, hnx⟩, by omega⟩
         · have e9' : ¬ (((yaj L[i] dd).1 : Nat) : Int) = 0 := (by omega); simp only [k32_a, WKV, Nat.reduceLT, Nat.reduceEqDiff, ↓reduceIte, reduceCtorEq, Nat.reduceAdd, Int.reduceLT, Int.reduceNeg, yac, gD0, gD1, g8, e9', decide_false, Bool.not_false, ybd]; exact fault _ _ _ _ q9 rs9 e9 (hno e9) R9
     -- a segment
     have hrl := ydM ok L[i]; have hnl := yhI L[i]; have hsl := yj4 (n := L[i]) ok; have hso := yir (n := L[i]) ok; have hsr := ylr L[i] dd; obtain ⟨okT, hwT⟩ := ymw (n := L[i]) ok; obtain ⟨p2, s2, c2, v2, rfl, b2, J2⟩ := yho (n := L[i]) RU.at' ok; have hRec := yeW (yav L[i] dd).2; obtain ⟨p3, s3, c3, w3, ps3, rfl, O3, hps3, J3⟩ := yh6 (σ := s2) b2 (by omega) hRec; have R3 := (RU.still J2).still (J3.ks []); have hc3 := (J3.ks []).ko _ _ (by simp) (J2.ko _ _ (by simp) hc); have hOu3 : OwnB σ.toks.length s3 (e 10) ps := (O.keep J2.tk).keep (J3.ks []).tk; have hlb := b2.len T22; have hl3 := O3.pts.len; have hgo : ∀ l, (ybJ L[i] dd).1 = (0, l) → yaI per d = ybG (L.drop (i + 1)) (s.more (yaX L[i]) l) (ybJ L[i] dd).2 := fun l hl => by rw [hop, hdrop, ybG, if_neg hz, if_neg hsk, hl, if_neg (by simp)]
     have hno : (ybJ L[i] dd).1.1 ≠ 0 → yaI per d = (((ybJ L[i] dd).1.1, s), (ybJ L[i] dd).2) := fun h => by rw [hop, hdrop, ybG, if_neg hz, if_neg hsk, if_pos h]
     -- behind what was taken off
     have sync : ∀ (s4 : St) (q4 : Option Nat) (rs4 : List RE), (yaH L[i] dd).1 = 0 → RIn σ r q s4 (yaH L[i] dd).2 q4 rs4 → s4.objs[p]? = some (.cells (yaB r per s.wf s.next 0)) → p ∉ r :: q4.toList → OwnB σ.toks.length s4 (e 10) ps →
         ∃ s5, Does Tryz.prog prims 12 [.optr r 0, .str L[i]] s4 (.ret (.int .i64 ((yaO L[i] (yaH L[i] dd).2).1 : Nat))) s5 ∧ (((yaO L[i] (yaH L[i] dd).2).1 ≠ 0 ∧ P (.ret (.tuple [.nilp, .nils, .int .i64 0, .int .i64 ((yaO L[i] (yaH L[i] dd).2).1 : Nat)])) s5) ∨
           ((yaO L[i] (yaH L[i] dd).2).1 = 0 ∧ ∃ (w7 : V) (t1 t2 t3 : St) (q5 : Option Nat) (rs5 : List RE), yaY Tryz.prog s5 60 60 (e 10) w3 = some (w7, t1) ∧ yak Tryz.prog t1 3 (.optr p 2) (.int .i64 (yaX L[i] : Nat)) = some t2 ∧ IntKind.i64.wrap (((yaX L[i] : Nat) : Int) + (ps3.length : Nat)) = ((yaX L[i] + ps3.length : Nat) : Int) ∧ yak Tryz.prog t2 3 (.optr p 3) (.int .i64 ((yaX L[i] + ps3.length : Nat) : Int)) = some t3 ∧
             RIn σ r q t3 (ybJ L[i] dd).2 q5 rs5 ∧ t3.objs[p]? = some (.cells (yaB r per (s.more (yaX L[i]) (ybb (yav L[i] dd).2).1).wf (s.more (yaX L[i]) (ybb (yav L[i] dd).2).1).next 0)) ∧ p ∉ r :: q5.toList ∧ OwnB σ.toks.length t3 w7 (ps ++ ps3) ∧ (ps ++ ps3).map Prod.snd = (s.more (yaX L[i]) (ybb (yav L[i] dd).2).1).recs ∧ (ps ++ ps3).length ≤ 1048576 * (i + 1) ∧ yaI per d = ybG (L.drop (i + 1)) (s.more (yaX L[i]) (ybb (yav L[i] dd).2).1) (ybJ L[i] dd).2 ∧ (s.more (yaX L[i]) (ybb (yav L[i] dd).2).1).next ≤ 2000000000)) := by
       intro s4 q4 rs4 hT0 R4 hc4 hp4 hO4; obtain ⟨p5, s5, c5, rfl, N5⟩ := yfd (n := L[i]) R4.at' okT (by omega); obtain ⟨q5, rs5, R5, hc5, hp5, K5⟩ := R4.nextA N5 hc4 hp4; rw [if_neg (by omega)] at hsr; refine ⟨s5, c5, ?_⟩; by_cases e5 : (yaO L[i] (yaH L[i] dd).2).1 = 0
       · right; rw [if_neg (by omega)] at hsr; have e1 : (ybJ L[i] dd).1 = (0, (ybb (yav L[i] dd).2).1) := (by rw [hsr]); have e2 : (ybJ L[i] dd).2 = (yaO L[i] (yaH L[i] dd).2).2 := (by rw [hsr]); have hl3' : ps3.length = (ybb (yav L[i] dd).2).1.length := (by rw [← hps3, List.length_map]); rw [e1] at hsl; simp only at hsl; have hO5 : OwnB σ.toks.length s5 (e 10) ps := hO4.keep K5.tk; obtain ⟨w7, t1, a1, a2, a3, a4⟩ := hO5.apps (σ := σ) R5.tk O3.pts O3.b (by have : 1048576 * i ≤ 1048576 * 16 := Nat.mul_le_mul_left _ (by omega); omega); have Rt1 := R5.toks a4 a3; have hct1 : t1.objs[p]? = some (.cells (yaB r per s.wf s.next 0)) := (by rw [a4]; exact hc5); obtain ⟨t2, ht2⟩ : ∃ t2 : St, t2 = ⟨t1.objs.set p (.cells (yaB r per (yaX L[i]) s.next 0)), t1.toks⟩ := ⟨_, rfl⟩; have y2 : yak Tryz.prog t1 3 (.optr p 2) (.int .i64 (yaX L[i] : Nat)) = some t2 := (by rw [yag hct1 S3 rfl (by simp [yaB]), ht2]; rfl); have z2 : t2.objs[p]? = some (.cells (yaB r per (yaX L[i]) s.next 0)) := (by rw [ht2]; exact yaM hct1); have x2 : KS [p] t1 t2 := (by rw [ht2]; exact KS.set (.inl (by simp)) _); obtain ⟨t3, ht3⟩ : ∃ t3 : St, t3 = ⟨t2.objs.set p (.cells (yaB r per (yaX L[i]) (yaX L[i] + ps3.length) 0)), t2.toks⟩ := ⟨_, rfl⟩; have y3 : yak Tryz.prog t2 3 (.optr p 3) (.int .i64 ((yaX L[i] + ps3.length : Nat) : Int)) = some t3 := (by rw [yag z2 S3 rfl (by simp [yaB]), ht3]; rfl); have z3 : t3.objs[p]? = some (.cells (yaB r per (yaX L[i]) (yaX L[i] + ps3.length) 0)) := (by rw [ht3]; exact yaM z2); have x3 : KS [p] t2 t3 := (by rw [ht3]; exact KS.set (.inl (by simp)) _); refine ⟨e5, w7, t1, t2, t3, q5, rs5, a1, y2, by rw [yae (by omega) (by omega)]; omega, y3, ?_, ?_, hp5, (a2.keep x2.tk).keep x3.tk, ?_, ?_, hgo _ e1, ?_⟩
         · rw [e2]; exact (Rt1.put x2 hp5 (by omega)).put x3 hp5 (by omega)
         · rw [z3, hl3']; rfl
         · rw [List.map_append, hps, hps3]; rfl
         · rw [List.length_append]; omega
         · simp only [OpS.more]; omega
       · left; rw [if_pos e5] at hsr; refine ⟨e5, ?_⟩; have e1 : (ybJ L[i] dd).1.1 = (yaO L[i] (yaH L[i] dd).2).1 := (by rw [hsr]); have e2 : (ybJ L[i] dd).2 = (yaO L[i] (yaH L[i] dd).2).2 := (by rw [hsr]); have hn := hno (by rw [e1]; exact e5); rw [e1, e2] at hn; exact fault _ _ _ _ q5 rs5 e5 hn R5
     by_cases hf0 : s.first = 0
     · have hfp : ¬ (0 : Int) < ((s.first : Nat) : Int) := (by omega); have hf0' : ((s.first : Nat) : Int) = 0 := (by omega); simp only [k32_a, WKV, Nat.reduceLT, Nat.reduceEqDiff, ↓reduceIte, reduceCtorEq, Nat.reduceAdd, Int.reduceLT, Int.reduceNeg, yac, gD0, gD1, h39, h11, g0, hz', hfp, hf0', eq_self, decide_true, decide_false]; refine KD.ret c2 ?_; simp only [k32_a, WKV, Nat.reduceLT, Nat.reduceEqDiff, ↓reduceIte, reduceCtorEq, Nat.reduceAdd, Int.reduceLT, Int.reduceNeg, yac, gD0, gD1]; refine KD.ret c3 ?_; by_cases ht : (ybb (yav L[i] dd).2).2 < (yav L[i] dd).2.length
       · have ht' : (((ybb (yav L[i] dd).2).2 : Nat) : Int) < (((yav L[i] dd).2.length : Nat) : Int) := (by omega); have hTe : yaH L[i] dd = yaL L[i] ((ybb (yav L[i] dd).2).2 : Nat) dd := (by unfold yaH; rw [if_pos ht]); obtain ⟨p4, s4, c4, rfl, N4⟩ := ygd (n := L[i]) (k := ((ybb (yav L[i] dd).2).2 : Nat)) R3.at' ok (by omega); obtain ⟨q4, rs4, R4, hc4, hp4, K4⟩ := R3.nextA N4 hc3 hpu; rw [← hTe] at c4 R4; simp only [k32_a, WKV, Nat.reduceLT, Nat.reduceEqDiff, ↓reduceIte, reduceCtorEq, Nat.reduceAdd, Int.reduceLT, Int.reduceNeg, yac, gD0, gD1, g0, hlb, ht', decide_true]; refine KD.ret c4 ?_; by_cases e4 : (yaH L[i] dd).1 = 0
         · have e4' : (((yaH L[i] dd).1 : Nat) : Int) = 0 := (by omega); obtain ⟨s5, c5, hres⟩ := sync s4 q4 rs4 e4 R4 hc4 hp4 (hOu3.keep K4.tk); simp only [k32_a, WKV, Nat.reduceLT, Nat.reduceEqDiff, ↓reduceIte, reduceCtorEq, Nat.reduceAdd, Int.reduceLT, Int.reduceNeg, yac, gD0, gD1, g0, e4', eq_self, decide_true, Bool.not_true]; refine KD.ret c5 ?_; rcases hres with ⟨e5, hPe⟩ | ⟨e5, w7, t1, t2, t3, q5, rs5, m1, m2, m3, m4, m5, m6, m7, m8, m9, m10, m11, m12⟩
           · have e5' : ¬ (((yaO L[i] (yaH L[i] dd).2).1 : Nat) : Int) = 0 := (by omega); simp only [k32_a, WKV, Nat.reduceLT, Nat.reduceEqDiff, ↓reduceIte, reduceCtorEq, Nat.reduceAdd, Int.reduceLT, Int.reduceNeg, yac, gD0, gD1, g8, e5', decide_false, Bool.not_false, ybd]; exact hPe
           · have e5' : (((yaO L[i] (yaH L[i] dd).2).1 : Nat) : Int) = 0 := (by omega); simp only [k32_a, WKV, Nat.reduceLT, Nat.reduceEqDiff, ↓reduceIte, reduceCtorEq, Nat.reduceAdd, Int.reduceLT, Int.reduceNeg, yac, gD0, gD1, h39, g9, e5', eq_self, decide_true, Bool.not_true, m1, wR p 2 (by omega), wR p 3 (by omega), m2, hl3, m3, m4, hwi]; exact ⟨i + 1, by unfold yoz; exact ⟨by simp [yaa], by omega, (ybJ L[i] dd).2, q5, rs5, s.more (yaX L[i]) (ybb (yav L[i] dd).2).1, ps ++ ps3, m5, hso.1, by have := hso.2; omega, by simp [yaa, OpS.more, h11, hf0], by simp [yaa, h12, OpS.more], m6, m7, by simpa [yaa] using m8, m9, m10, m11, m12⟩, by omega⟩
         · have e4' : ¬ (((yaH L[i] dd).1 : Nat) : Int) = 0 := (by omega); simp only [k32_a, WKV, Nat.reduceLT, Nat.reduceEqDiff, ↓reduceIte, reduceCtorEq, Nat.reduceAdd, Int.reduceLT, Int.reduceNeg, yac, gD0, gD1, g8, e4', decide_false, Bool.not_false, ybd]; rw [if_pos e4] at hsr; have e1 : (ybJ L[i] dd).1.1 = (yaH L[i] dd).1 := (by rw [hsr]); have e2 : (ybJ L[i] dd).2 = (yaH L[i] dd).2 := (by rw [hsr]); have hn := hno (by rw [e1]; exact e4); rw [e1, e2] at hn; exact fault _ _ _ _ q4 rs4 e4 hn R4
       · have ht' : ¬ (((ybb (yav L[i] dd).2).2 : Nat) : Int) < (((yav L[i] dd).2.length : Nat) : Int) := (by omega); have hTe : yaH L[i] dd = (0, dd) := (by unfold yaH; rw [if_neg ht]); obtain ⟨s5, c5, hres⟩ := sync s3 qu ru (by rw [hTe]) (by rw [hTe]; exact R3) hc3 hpu hOu3; simp only [k32_a, WKV, Nat.reduceLT, Nat.reduceEqDiff, ↓reduceIte, reduceCtorEq, Nat.reduceAdd, Int.reduceLT, Int.reduceNeg, yac, gD0, gD1, g0, hlb, ht', decide_false]; refine KD.ret c5 ?_; rcases hres with ⟨e5, hPe⟩ | ⟨e5, w7, t1, t2, t3, q5, rs5, m1, m2, m3, m4, m5, m6, m7, m8, m9, m10, m11, m12⟩
         · have e5' : ¬ (((yaO L[i] (yaH L[i] dd).2).1 : Nat) : Int) = 0 := (by omega); simp only [k32_a, WKV, Nat.reduceLT, Nat.reduceEqDiff, ↓reduceIte, reduceCtorEq, Nat.reduceAdd, Int.reduceLT, Int.reduceNeg, yac, gD0, gD1, g8, e5', decide_false, Bool.not_false, ybd]; exact hPe
         · have e5' : (((yaO L[i] (yaH L[i] dd).2).1 : Nat) : Int) = 0 := (by omega); simp only [k32_a, WKV, Nat.reduceLT, Nat.reduceEqDiff, ↓reduceIte, reduceCtorEq, Nat.reduceAdd, Int.reduceLT, Int.reduceNeg, yac, gD0, gD1, h39, g9, e5', eq_self, decide_true, Bool.not_true, m1, wR p 2 (by omega), wR p 3 (by omega), m2, hl3, m3, m4, hwi]; exact ⟨i + 1, by unfold yoz; exact ⟨by simp [yaa], by omega, (ybJ L[i] dd).2, q5, rs5, s.more (yaX L[i]) (ybb (yav L[i] dd).2).1, ps ++ ps3, m5, hso.1, by have := hso.2; omega, by simp [yaa, OpS.more, h11, hf0], by simp [yaa, h12, OpS.more], m6, m7, by simpa [yaa] using m8, m9, m10, m11, m12⟩, by omega⟩
     · have hfp : (0 : Int) < ((s.first : Nat) : Int) := (by omega); have hf0' : ¬ ((s.first : Nat) : Int) = 0 := by omega
       have hbr : s.brk = false := by
         cases hb : s.brk with
         | false => rfl
         | true => exact absurd ⟨by omega, .inl hb⟩ hsk
       have hnn : ((yaX L[i] : Nat) : Int) = ((s.next : Nat) : Int) := by
         have : yaX L[i] = s.next := Classical.byContradiction fun h => hsk ⟨by omega, .inr h⟩; omega
       have hnt : (((yaX L[i] : Nat) : Int) = ((s.next : Nat) : Int)) = True := eq_true hnn; clear hnn; have h12b := h12; rw [hbr] at h12b; simp only [k32_a, WKV, Nat.reduceLT, Nat.reduceEqDiff, ↓reduceIte, reduceCtorEq, Nat.reduceAdd, Int.reduceLT, Int.reduceNeg, yac, gD0, gD1, h39, h11, h12b, g0, g9, hz', hfp, hf0', wR p 3 (by omega), ldN u _ _ hc, hnt, decide_true, decide_false, Bool.not_true]; refine KD.ret c2 ?_; simp only [k32_a, WKV, Nat.reduceLT, Nat.reduceEqDiff, ↓reduceIte, reduceCtorEq, Nat.reduceAdd, Int.reduceLT, Int.reduceNeg, yac, gD0, gD1]; refine KD.ret c3 ?_; by_cases ht : (ybb (yav L[i] dd).2).2 < (yav L[i] dd).2.length
       · have ht' : (((ybb (yav L[i] dd).2).2 : Nat) : Int) < (((yav L[i] dd).2.length : Nat) : Int) := (by omega); have hTe : yaH L[i] dd = yaL L[i] ((ybb (yav L[i] dd).2).2 : Nat) dd := (by unfold yaH; rw [if_pos ht]); obtain ⟨p4, s4, c4, rfl, N4⟩ := ygd (n := L[i]) (k := ((ybb (yav L[i] dd).2).2 : Nat)) R3.at' ok (by omega); obtain ⟨q4, rs4, R4, hc4, hp4, K4⟩ := R3.nextA N4 hc3 hpu; rw [← hTe] at c4 R4; simp only [k32_a, WKV, Nat.reduceLT, Nat.reduceEqDiff, ↓reduceIte, reduceCtorEq, Nat.reduceAdd, Int.reduceLT, Int.reduceNeg, yac, gD0, gD1, g0, hlb, ht', decide_true]; refine KD.ret c4 ?_; by_cases e4 : (yaH L[i] dd).1 = 0
         · have e4' : (((yaH L[i] dd).1 : Nat) : Int) = 0 := (by omega); obtain ⟨s5, c5, hres⟩ := sync s4 q4 rs4 e4 R4 hc4 hp4 (hOu3.keep K4.tk); simp only [k32_a, WKV, Nat.reduceLT, Nat.reduceEqDiff, ↓reduceIte, reduceCtorEq, Nat.reduceAdd, Int.reduceLT, Int.reduceNeg, yac, gD0, gD1, g0, e4', eq_self, decide_true, Bool.not_true]; refine KD.ret c5 ?_; rcases hres with ⟨e5, hPe⟩ | ⟨e5, w7, t1, t2, t3, q5, rs5, m1, m2, m3, m4, m5, m6, m7, m8, m9, m10, m11, m12⟩
           · have e5' : ¬ (((yaO L[i] (yaH L[i] dd).2).1 : Nat) : Int) = 0 := (by omega); simp only [k32_a, WKV, Nat.reduceLT, Nat.reduceEqDiff, ↓reduceIte, reduceCtorEq, Nat.reduceAdd, Int.reduceLT, Int.reduceNeg, yac, gD0, gD1, g8, e5', decide_false, Bool.not_false, ybd]; exact hPe
           · have e5' : (((yaO L[i] (yaH L[i] dd).2).1 : Nat) : Int) = 0 := (by omega); simp only [k32_a, WKV, Nat.reduceLT, Nat.reduceEqDiff, ↓reduceIte, reduceCtorEq, Nat.reduceAdd, Int.reduceLT, Int.reduceNeg, yac, gD0, gD1, h39, g9, e5', eq_self, decide_true, Bool.not_true, m1, wR p 2 (by omega), wR p 3 (by omega), m2, hl3, m3, m4, hwi]; exact ⟨i + 1, by unfold yoz; exact ⟨by simp [yaa], by omega, (ybJ L[i] dd).2, q5, rs5, s.more (yaX L[i]) (ybb (yav L[i] dd).2).1, ps ++ ps3, m5, hso.1, by have := hso.2; omega, by simp [yaa, OpS.more, h11, hf0], by simp [yaa, h12, OpS.more], m6, m7, by simpa [yaa] using m8, m9, m10, m11, m12⟩, by omega⟩
         · have e4' : ¬ (((yaH L[i] dd).1 : Nat) : Int) = 0 := (by omega); simp only [k32_a, WKV, Nat.reduceLT, Nat.reduceEqDiff, ↓reduceIte, reduceCtorEq, Nat.reduceAdd, Int.reduceLT, Int.reduceNeg, yac, gD0, gD1, g8, e4', decide_false, Bool.not_false, ybd]; rw [if_pos e4] at hsr; have e1 : (ybJ L[i] dd).1.1 = (yaH L[i] dd).1 := (by rw [hsr]); have e2 : (ybJ L[i] dd).2 = (yaH L[i] dd).2 := (by rw [hsr]); have hn := hno (by rw [e1]; exact e4); rw [e1, e2] at hn; exact fault _ _ _ _ q4 rs4 e4 hn R4
       · have ht' : ¬ (((ybb (yav L[i] dd).2).2 : Nat) : Int) < (((yav L[i] dd).2.length : Nat) : Int) := (by omega); have hTe : yaH L[i] dd = (0, dd) := (by unfold yaH; rw [if_neg ht]); obtain ⟨s5, c5, hres⟩ := sync s3 qu ru (by rw [hTe]) (by rw [hTe]; exact R3) hc3 hpu hOu3; simp only [k32_a, WKV, Nat.reduceLT, Nat.reduceEqDiff, ↓reduceIte, reduceCtorEq, Nat.reduceAdd, Int.reduceLT, Int.reduceNeg, yac, gD0, gD1, g0, hlb, ht', decide_false]; refine KD.ret c5 ?_; rcases hres with ⟨e5, hPe⟩ | ⟨e5, w7, t1, t2, t3, q5, rs5, m1, m2, m3, m4, m5, m6, m7, m8, m9, m10, m11, m12⟩
         · have e5' : ¬ (((yaO L[i] (yaH L[i] dd).2).1 : Nat) : Int) = 0 := (by omega); simp only [k32_a, WKV, Nat.reduceLT, Nat.reduceEqDiff, ↓reduceIte, reduceCtorEq, Nat.reduceAdd, Int.reduceLT, Int.reduceNeg, yac, gD0, gD1, g8, e5', decide_false, Bool.not_false, ybd]; exact hPe
         · have e5' : (((yaO L[i] (yaH L[i] dd).2).1 : Nat) : Int) = 0 := (by omega); simp only [k32_a, WKV, Nat.reduceLT, Nat.reduceEqDiff, ↓reduceIte, reduceCtorEq, Nat.reduceAdd, Int.reduceLT, Int.reduceNeg, yac, gD0, gD1, h39, g9, e5', eq_self, decide_true, Bool.not_true, m1, wR p 2 (by omega), wR p 3 (by omega), m2, hl3, m3, m4, hwi]; exact ⟨i + 1, by unfold yoz; exact ⟨by simp [yaa], by omega, (ybJ L[i] dd).2, q5, rs5, s.more (yaX L[i]) (ybb (yav L[i] dd).2).1, ps ++ ps3, m5, hso.1, by have := hso.2; omega, by simp [yaa, OpS.more, h11, hf0], by simp [yaa, h12, OpS.more], m6, m7, by simpa [yaa] using m8, m9, m10, m11, m12⟩, by omega⟩
   · have hlt' : ¬ (i : Int) < (L.length : Nat) := (by omega); have hdrop : L.drop i = [] := List.drop_of_length_le (by omega); rw [hdrop, ybG] at hop; by_cases hf0 : s.first = 0
     · have hf0' : ((s.first : Nat) : Int) = 0 := (by omega); simp only [k32_a, WKV, Nat.reduceLT, Nat.reduceEqDiff, ↓reduceIte, reduceCtorEq, Nat.reduceAdd, Int.reduceLT, Int.reduceNeg, yac, gD0, gD1, h39, g38, g9, h11, hlt', decide_false, decide_true, hf0', eq_self]; refine hP _ _ ?_; rw [hop]; exact ⟨qu, ru, RU, .inr ⟨rfl, p, e 10, ps, by unfold OpS.from; rw [if_pos hf0]; rfl, O.pts, O.b, hps, hc, by omega, hpu⟩⟩
     · have hf0' : ¬ ((s.first : Nat) : Int) = 0 := (by omega); simp only [k32_a, WKV, Nat.reduceLT, Nat.reduceEqDiff, ↓reduceIte, reduceCtorEq, Nat.reduceAdd, Int.reduceLT, Int.reduceNeg, yac, gD0, gD1, h39, g38, g9, h11, hlt', decide_false, hf0']; refine hP _ _ ?_; rw [hop]; exact ⟨qu, ru, RU, .inr ⟨rfl, p, e 10, ps, by unfold OpS.from; rw [if_neg hf0], O.pts, O.b, hps, hc, by omega, hpu⟩⟩
def RJn (σ : St) (r p : Nat) (q : Option Nat) (σ' : St) (d' : Dk) (j' : Jn) : Prop := ∃ q' rs', RefAt σ' r d' q' rs' ∧ KS (p :: r :: q.toList) σ σ' ∧ (∀ y ∈ r :: q'.toList, y ∈ r :: q.toList ∨ σ.objs.length ≤ y) ∧ p ∉ r :: q'.toList ∧ σ'.objs[p]? = some (.cells (j'.cells r))
theorem RJn.of {σ s : St} {r p : Nat} {q q' : Option Nat} {d' : Dk} {rs' : List RE} {j' : Jn} (h : RIn σ r q s d' q' rs') (hp : p ∉ r :: q'.toList) (ho : s.objs[p]? = some (.cells (j'.cells r))) : RJn σ r p q s d' j' :=
 ⟨q', rs', h.at', h.ks.over (fun x hx => List.mem_cons_of_mem _ hx), h.gr, hp, ho⟩
theorem RJn.set {σ s s' : St} {r p : Nat} {q q' : Option Nat} {d' : Dk} {rs' : List RE} {j' : Jn} (h : RIn σ r q s d' q' rs') (hp : p ∉ r :: q'.toList) (k : KS [p] s s') (ho : s'.objs[p]? = some (.cells (j'.cells r))) : RJn σ r p q s' d' j' :=
 ⟨q', rs', h.at'.keep k fun x hx hx2 => hp (by rw [List.mem_singleton] at hx2; rw [← hx2]; exact hx), (h.ks.over (fun x hx => List.mem_cons_of_mem _ hx)).trans k fun x hx => by rw [List.mem_singleton] at hx; subst hx; exact .inl (by simp), h.gr, hp, ho⟩
theorem ylW {σ : St} {r p : Nat} {d : Dk} {q : Option Nat} {rs : List RE} {j : Jn} {x : V} {b : List UInt8} (h : RefAt σ r d q rs) (hok : d.Ok) (hw : d.writes ≤ 1000000000) (hp : σ.objs[p]? = some (.cells (j.cells r))) (hpf : p ∉ r :: q.toList) (hb : BtsV x b) (hl : b.length ≤ 100000000) (hj : j.wf ≤ j.next) (hn : j.next ≤ 4000000000) :
   ∃ z σ', Does Tryz.prog prims 28 [.optr p 0, x] σ z σ' ∧ (RJn σ r p q σ' (yct b j d).2.2 (yct b j d).2.1 ∧ z = .ret (.tuple [.int .i64 ((yct b j d).1.1 : Nat), .int .i64 ((yct b j d).1.2 : Nat)])) := by
 suffices key : ∀ P : VRes → St → Prop, (∀ z σ', (RJn σ r p q σ' (yct b j d).2.2 (yct b j d).2.1 ∧ z = .ret (.tuple [.int .i64 ((yct b j d).1.1 : Nat), .int .i64 ((yct b j d).1.2 : Nat)])) → P z σ') → ∃ z σ', Does Tryz.prog prims 28 [.optr p 0, x] σ z σ' ∧ P z σ' from key _ fun _ _ h => h
 intro P hP; apply k28_is.does (by simp); obtain ⟨z1, s1, c1, v1, rfl, b1, k1⟩ := yga (σ := σ) hb hl; have R1 := (RIn.refl h).still (k1.ks []); have K1 : KS [] σ s1 := k1.ks []; have P1 := K1.ko _ _ (by simp) hp; have lS : ∀ s : St, s.objs[p]? = some (.cells (j.cells r)) → yad Tryz.prog s.objs 33 (.optr p 4) = some (.int .i64 (j.sick : Nat)) := fun s h => by rw [yab h GEr]; rfl
 have lN : ∀ s : St, s.objs[p]? = some (.cells (j.cells r)) → yad Tryz.prog s.objs 3 (.optr p 3) = some (.int .i64 (j.next : Nat)) := fun s h => by rw [yab h G3]; rfl
 have lF : ∀ s : St, s.objs[p]? = some (.cells (j.cells r)) → yad Tryz.prog s.objs 3 (.optr p 2) = some (.int .i64 (j.wf : Nat)) := fun s h => by rw [yab h G3]; rfl
 have lP : ∀ s : St, s.objs[p]? = some (.cells (j.cells r)) → yad Tryz.prog s.objs 3 (.optr p 1) = some (.int .i64 j.per) := fun s h => by rw [yab h G3]; rfl
 have lD : ∀ s : St, s.objs[p]? = some (.cells (j.cells r)) → yad Tryz.prog s.objs 28 (.optr p 0) = some (.optr r 0) := fun s h => by rw [yab h GRd]; rfl
 obtain ⟨K, hK⟩ : ∃ K, K = yjh Tryz.prog prims 94 ((.seq (.region k28_r9) (.seq (.seq (.region k28_r10) (.cond (.tmp 49) (.seq (.region k28_r11) .ret) .skip)) (.seq (.region k28_r12) (.seq (.seq (.region k28_r13) (.cond (.tmp 62) (.seq (.region k28_r14) .ret) .skip)) (.seq (.seq (.region k28_r15) (.cond (.tmp 64) (.region k28_r16) .skip)) (.seq (.seq (.region k28_r17) (.cond (.tmp 72) (.seq (.region k28_r18) (.seq (.region k28_r19) .ret)) .skip)) (.seq (.region k28_r20) (.seq (.region k28_r21) (.seq (.region k28_r22) .ret))))))))) : CC) (fnK Tryz.prog 94 [ResultVar.tmp 4, ResultVar.tmp 5] P) := ⟨_, rfl⟩; obtain ⟨J, hJ⟩ : ∃ J, J = yjh Tryz.prog prims 94 ((.seq (.seq (.region k28_r17) (.cond (.tmp 72) (.seq (.region k28_r18) (.seq (.region k28_r19) .ret)) .skip)) (.seq (.region k28_r20) (.seq (.region k28_r21) (.seq (.region k28_r22) .ret)))) : CC) (fnK Tryz.prog 94 [ResultVar.tmp 4, ResultVar.tmp 5] P) := ⟨_, rfl⟩; simp only [ye5] at hK hJ; rw [← hJ] at hK; have oe : ycl (Value.string { data := #[] }) = some (.str []) := rfl; simp only [k28_a, WKV, Nat.reduceLT, Nat.reduceEqDiff, ↓reduceIte, reduceCtorEq, Nat.reduceAdd, Int.reduceLT, Int.reduceNeg, yac, gD0, gD1]; refine KD.ret c1 ?_; by_cases h3 : 65536 < b.length
 · have eF : (ybI b).2 = 3 := (by unfold ybI; rw [if_pos h3]); have eA : yct b j d = ((0, 3), j, d) := (by unfold yct; rw [if_pos h3]); have n3 : ¬ ((3 : Nat) : Int) = 0 := (by omega); simp only [k28_a, WKV, Nat.reduceLT, Nat.reduceEqDiff, ↓reduceIte, reduceCtorEq, Nat.reduceAdd, Int.reduceLT, Int.reduceNeg, yac, gD0, gD1, eF, n3, decide_false, Bool.not_false]; exact hP _ _ (by rw [eA]; exact ⟨RJn.of R1 hpf P1, rfl⟩)
 have eF : ybI b = (yar b, 0) := (by unfold ybI; rw [if_neg h3]); rw [eF] at b1; have b1 : BtsV v1 (yar b) := b1; by_cases hs : j.sick = 0
 rotate_left
 · have hs' : ¬ ((j.sick : Nat) : Int) = 0 := (by omega); have eA : yct b j d = ((0, j.sick), j, d) := (by unfold yct; rw [if_neg h3, if_pos hs]); simp only [k28_a, WKV, Nat.reduceLT, Nat.reduceEqDiff, ↓reduceIte, reduceCtorEq, Nat.reduceAdd, Int.reduceLT, Int.reduceNeg, yac, gD0, gD1, eF, Int.natCast_zero, eq_self, decide_true, Bool.not_true, hs', decide_false, Bool.not_false, wR p 4 (by omega), lS s1 P1]; exact hP _ _ (by rw [eA]; exact ⟨RJn.of R1 hpf P1, rfl⟩)
 have hs' : ((j.sick : Nat) : Int) = 0 := (by omega); have hws : IntKind.i64.wrap (((j.next : Nat) : Int) - ((j.wf : Nat) : Int)) = ((j.next : Nat) : Int) - ((j.wf : Nat) : Int) := yae (by omega) (by omega); obtain ⟨nm, hnm⟩ : ∃ nm, nm = ya0 106 1 (j.to : Nat) := ⟨_, rfl⟩
 have back : ∀ (e : Nat → V) (s : St) (y : Nat × Dk) (qy : Option Nat) (ry : List RE), e 0 = .optr p 0 → e 8 = .int .i64 (j.to : Nat) → e 7 = .int .i64 (y.1 : Nat) → RIn σ r q s y.2 qy ry → p ∉ r :: qy.toList → s.objs[p]? = some (.cells (j.cells r)) → yct b j d = (if y.1 ≠ 0 then ((0, y.1), { j with sick := y.1 }, y.2) else ((j.next, 0), { j with wf := j.to, next := j.next + 1 }, y.2)) → J .normal e s := by
   intro e s y qy ry g0 g8 g7 Ry hpy Py eA; rw [hJ]; by_cases hy : y.1 = 0
   · have hy' : ((y.1 : Nat) : Int) = 0 := (by omega); rw [if_neg (by omega)] at eA; obtain ⟨t1, ht1⟩ : ∃ t1 : St, t1 = ⟨s.objs.set p (.cells (yaB r j.per j.to j.next j.sick)), s.toks⟩ := ⟨_, rfl⟩; have y1 : yak Tryz.prog s 3 (.optr p 2) (.int .i64 (j.to : Nat)) = some t1 := (by rw [yag Py S3 rfl (by simp [Jn.cells, yaB]), ht1]; rfl); have z1 : t1.objs[p]? = some (.cells (yaB r j.per j.to j.next j.sick)) := (by rw [ht1]; exact yaM Py); have x1 : KS [p] s t1 := (by rw [ht1]; exact KS.set (.inl (by simp)) _); obtain ⟨t2, ht2⟩ : ∃ t2 : St, t2 = ⟨t1.objs.set p (.cells (yaB r j.per j.to (j.next + 1) j.sick)), t1.toks⟩ := ⟨_, rfl⟩; have hwn : IntKind.i64.wrap (((j.next : Nat) : Int) + 1) = ((j.next + 1 : Nat) : Int) := (by rw [yae (by omega) (by omega)]; omega); have hwm : IntKind.i64.wrap (((j.next + 1 : Nat) : Int) - 1) = ((j.next : Nat) : Int) := (by rw [yae (by omega) (by omega)]; omega); have y2 : yak Tryz.prog t1 3 (.optr p 3) (.int .i64 ((j.next + 1 : Nat) : Int)) = some t2 := (by rw [yag z1 S3 rfl (by simp [yaB]), ht2]; rfl); have z2 : t2.objs[p]? = some (.cells (yaB r j.per j.to (j.next + 1) j.sick)) := (by rw [ht2]; exact yaM z1); have x2 : KS [p] t1 t2 := (by rw [ht2]; exact KS.set (.inl (by simp)) _); have l1 : yad Tryz.prog t1.objs 3 (.optr p 3) = some (.int .i64 (j.next : Nat)) := (by rw [yab z1 G3]; rfl); have l2 : yad Tryz.prog t2.objs 3 (.optr p 3) = some (.int .i64 ((j.next + 1 : Nat) : Int)) := (by rw [yab z2 G3]; rfl); simp only [k28_a, WKV, Nat.reduceLT, Nat.reduceEqDiff, ↓reduceIte, reduceCtorEq, Nat.reduceAdd, Int.reduceLT, Int.reduceNeg, yac, gD0, gD1, g0, g7, g8, hy', eq_self, decide_true, Bool.not_true, wR p 3 (by omega), wR p 2 (by omega), lN s Py, hwn, y1, l1, y2, l2, hwm]; refine hP _ _ ?_; rw [eA]
     exact ⟨RJn.set (j' := { j with wf := j.to, next := j.next + 1 }) Ry hpy (x1.trans' x2) z2, rfl⟩
   · have hy' : ¬ ((y.1 : Nat) : Int) = 0 := (by omega); rw [if_pos hy] at eA; obtain ⟨t1, ht1⟩ : ∃ t1 : St, t1 = ⟨s.objs.set p (.cells (yaB r j.per j.wf j.next y.1)), s.toks⟩ := ⟨_, rfl⟩; have hsz : yaQ Tryz.prog 33 = some 1 := (by kernel_rfl); have y1 : yak Tryz.prog s 33 (.optr p 4) (.int .i64 (y.1 : Nat)) = some t1 := (by rw [yag Py hsz rfl (by simp [Jn.cells, yaB]), ht1]; rfl); have z1 : t1.objs[p]? = some (.cells (yaB r j.per j.wf j.next y.1)) := (by rw [ht1]; exact yaM Py); have x1 : KS [p] s t1 := (by rw [ht1]; exact KS.set (.inl (by simp)) _); simp only [k28_a, WKV, Nat.reduceLT, Nat.reduceEqDiff, ↓reduceIte, reduceCtorEq, Nat.reduceAdd, Int.reduceLT, Int.reduceNeg, yac, gD0, gD1, g0, g7, hy', decide_false, Bool.not_false, wR p 4 (by omega), y1]; refine hP _ _ ?_; rw [eA]
     exact ⟨RJn.set (j' := { j with sick := y.1 }) Ry hpy x1 z1, rfl⟩
 have tail : ∀ (e : Nat → V), e 0 = .optr p 0 → e 8 = .int .i64 (j.to : Nat) → e 6 = v1 → K .normal e s1 := by
   intro e g0 g8 g6; rw [hK]; simp only [k28_a, WKV, Nat.reduceLT, Nat.reduceEqDiff, ↓reduceIte, reduceCtorEq, Nat.reduceAdd, Int.reduceLT, Int.reduceNeg, yac, gD0, gD1, g8]; refine KD.ret (yjD (j.to : Nat)) ?_; rw [← hnm]; by_cases hnn : nm = []
   · have eA : yct b j d = ((0, 22), j, d) := (by unfold yct; rw [if_neg h3, if_neg (by omega), ← hnm, if_pos hnn]); simp only [k28_a, WKV, Nat.reduceLT, Nat.reduceEqDiff, ↓reduceIte, reduceCtorEq, Nat.reduceAdd, Int.reduceLT, Int.reduceNeg, yac, gD0, gD1, oe, sbE, hnn, eq_self, decide_true]; rw [hJ]; simp only [k28_a, WKV, Nat.reduceLT, Nat.reduceEqDiff, ↓reduceIte, reduceCtorEq, Nat.reduceAdd, Int.reduceLT, Int.reduceNeg, yac, gD0, gD1]; exact hP _ _ (by rw [eA]; exact ⟨RJn.of R1 hpf P1, rfl⟩)
   obtain ⟨z2, s2, c2, rfl, N2⟩ := yfF (n := nm) R1.at' hok (by omega) (.inl b1 : RB s1 v1 _) (by rw [yhw]; omega); obtain ⟨q2, rs2, R2, P2, hpf2, K2⟩ := R1.nextA N2 P1 hpf; simp only [k28_a, WKV, Nat.reduceLT, Nat.reduceEqDiff, ↓reduceIte, reduceCtorEq, Nat.reduceAdd, Int.reduceLT, Int.reduceNeg, yac, gD0, gD1, oe, sbE, hnn, decide_false, g0, g6, wR p 0 (by omega), lD s1 P1]; refine KD.ret c2 ?_; by_cases hfull : (yaf nm (yar b) d).1 = 3 ∨ (yaf nm (yar b) d).1 = 22
   · have eA : yct b j d = ((0, 22), j, (yaf nm (yar b) d).2) := (by unfold yct; rw [if_neg h3, if_neg (by omega), ← hnm, if_neg hnn]; simp only; rw [if_pos hfull]); have done := hP (.ret (.tuple [.int .i64 0, .int .i64 22])) s2 (by rw [eA]; exact ⟨RJn.of R2 hpf2 P2, rfl⟩); rcases hfull with h | h
     · rw [h]; have e3 : (((3 : Nat) : Int) = 3) = True := eq_true rfl; simp only [k28_a, WKV, Nat.reduceLT, Nat.reduceEqDiff, ↓reduceIte, reduceCtorEq, Nat.reduceAdd, Int.reduceLT, Int.reduceNeg, yac, gD0, gD1, e3, decide_true, eq_self]; rw [hJ]; simp only [k28_a, WKV, Nat.reduceLT, Nat.reduceEqDiff, ↓reduceIte, reduceCtorEq, Nat.reduceAdd, Int.reduceLT, Int.reduceNeg, yac, gD0, gD1]; exact done
     · rw [h]; have e3 : ¬ ((22 : Nat) : Int) = 3 := (by omega); have e22 : (((22 : Nat) : Int) = 22) = True := eq_true rfl; simp only [k28_a, WKV, Nat.reduceLT, Nat.reduceEqDiff, ↓reduceIte, reduceCtorEq, Nat.reduceAdd, Int.reduceLT, Int.reduceNeg, yac, gD0, gD1, e3, e22, decide_true, decide_false, eq_self]; rw [hJ]; simp only [k28_a, WKV, Nat.reduceLT, Nat.reduceEqDiff, ↓reduceIte, reduceCtorEq, Nat.reduceAdd, Int.reduceLT, Int.reduceNeg, yac, gD0, gD1]; exact done
   · have n3 : ¬ (((yaf nm (yar b) d).1 : Nat) : Int) = 3 := (by omega); have n22 : ¬ (((yaf nm (yar b) d).1 : Nat) : Int) = 22 := by omega
     obtain ⟨y, ey⟩ : ∃ y : Nat × Dk, y = (if (yaf nm (yar b) d).1 = 0 then yaO nm (yaf nm (yar b) d).2 else yaf nm (yar b) d) := ⟨_, rfl⟩
     have eA : yct b j d = (if y.1 ≠ 0 then ((0, y.1), { j with sick := y.1 }, y.2) else ((j.next, 0), { j with wf := j.to, next := j.next + 1 }, y.2)) := by
       unfold yct; rw [if_neg h3, if_neg (by omega), ← hnm, if_neg hnn]; simp only; rw [if_neg hfull, ← ey]
     by_cases h0 : (yaf nm (yar b) d).1 = 0
     · have h0' : (((yaf nm (yar b) d).1 : Nat) : Int) = 0 := (by omega); rw [if_pos h0] at ey; obtain ⟨ok2, hw2⟩ := yeL (n := nm) (b := yar b) hok; obtain ⟨z3, s3, c3, rfl, N3⟩ := yfd (n := nm) R2.at' ok2 (by omega); obtain ⟨q3, rs3, R3, P3, hpf3, K3⟩ := R2.nextA N3 P2 hpf2; rw [← ey] at c3 R3; simp only [k28_a, WKV, Nat.reduceLT, Nat.reduceEqDiff, ↓reduceIte, reduceCtorEq, Nat.reduceAdd, Int.reduceLT, Int.reduceNeg, yac, gD0, gD1, n3, n22, (by decide : ¬ (0 : Int) = 3), (by decide : ¬ (0 : Int) = 22), h0', eq_self, decide_true, decide_false, Bool.not_false, g0, wR p 0 (by omega), lD s2 P2]; refine KD.ret c3 ?_; simp only [k28_a, WKV, Nat.reduceLT, Nat.reduceEqDiff, ↓reduceIte, reduceCtorEq, Nat.reduceAdd, Int.reduceLT, Int.reduceNeg, yac, gD0, gD1]; exact back _ s3 y q3 rs3 (by simp [yaa, g0]) (by simp [yaa, g8]) (by simp [yaa]) R3 hpf3 P3 eA
     · have h0' : ¬ (((yaf nm (yar b) d).1 : Nat) : Int) = 0 := (by omega); rw [if_neg h0] at ey; rw [← ey] at R2; simp only [k28_a, WKV, Nat.reduceLT, Nat.reduceEqDiff, ↓reduceIte, reduceCtorEq, Nat.reduceAdd, Int.reduceLT, Int.reduceNeg, yac, gD0, gD1, n3, n22, h0', decide_false, Bool.not_false]; exact back _ s2 y q2 rs2 (by simp [yaa, g0]) (by simp [yaa, g8]) (by simp [yaa, ey]) R2 hpf2 P2 eA
 by_cases hto : j.per ≤ ((j.next : Nat) : Int) - ((j.wf : Nat) : Int)
 · have e1 : j.to = j.next := (by unfold Jn.to; rw [if_pos hto]); simp only [ye5]; rw [← hJ, ← hK]; simp only [k28_a, WKV, Nat.reduceLT, Nat.reduceEqDiff, ↓reduceIte, reduceCtorEq, Nat.reduceAdd, Int.reduceLT, Int.reduceNeg, yac, gD0, gD1, eF, Int.natCast_zero, hs', decide_true, eq_self, Bool.not_true, wR p 4 (by omega), lS s1 P1, wR p 2 (by omega), wR p 3 (by omega), wR p 1 (by omega), lF s1 P1, lN s1 P1, lP s1 P1, hws, hto, ge_iff_le]; exact tail _ (by simp [yaa]) (by simp [yaa, e1]) (by simp [yaa])
 · have e1 : j.to = j.wf := (by unfold Jn.to; rw [if_neg hto]); simp only [ye5]; rw [← hJ, ← hK]; simp only [k28_a, WKV, Nat.reduceLT, Nat.reduceEqDiff, ↓reduceIte, reduceCtorEq, Nat.reduceAdd, Int.reduceLT, Int.reduceNeg, yac, gD0, gD1, eF, Int.natCast_zero, hs', decide_true, decide_false, eq_self, Bool.not_true, wR p 4 (by omega), lS s1 P1, wR p 2 (by omega), wR p 3 (by omega), wR p 1 (by omega), lF s1 P1, lN s1 P1, lP s1 P1, hws, hto, ge_iff_le]; exact tail _ (by simp [yaa]) (by simp [yaa, e1]) (by simp [yaa])
theorem yn0 {x : List UInt8} (h : yaX x ≠ 0) : ya0 106 1 (yaX x : Nat) = x := by
 unfold yaX at h ⊢
 cases hp : ygP 106 x with
 | none => rw [hp] at h; exact absurd rfl h
 | some m =>
   obtain ⟨h1, h2⟩ := yh5 hp; rw [hp] at h; simp only [Option.getD_some] at h ⊢; unfold ya0; rw [if_neg (by omega), Int.toNat_natCast]; exact h1.symm
theorem yqc {x : List UInt8} (h : yaX x ≠ 0) : x ≠ [] := by
 rintro rfl; exact h rfl
theorem ylP {x : List UInt8} {l : List (List UInt8)} (h : yaX x = 0) : yaW (x :: l) = yaW l := by
 unfold yaW; rw [List.map_cons, List.filter_cons_of_neg (by simp [h])]
theorem yjT {x : List UInt8} {l : List (List UInt8)} (h : yaX x ≠ 0) : yaW (x :: l) = yaX x :: yaW l := by
 unfold yaW; rw [List.map_cons, List.filter_cons_of_pos (by simp; omega)]
theorem yi5 {σ : St} {r p : Nat} {d : Dk} {q : Option Nat} {rs : List RE} {j : Jn} (below : Int) (h : RefAt σ r d q rs) (hok : d.Ok) (hw : d.writes ≤ 1000000000) (hp : σ.objs[p]? = some (.cells (j.cells r))) (hpf : p ∉ r :: q.toList) :
   ∃ z σ', Does Tryz.prog prims 30 [.optr p 0, .int .i64 below] σ z σ' ∧ (RJn σ r p q σ' (ya2 below j d).2.2 (ya2 below j d).2.1 ∧ z = .ret (.tuple [.int .i64 ((ya2 below j d).1.1 : Nat), .int .i64 ((ya2 below j d).1.2 : Nat)])) := by
 suffices key : ∀ P : VRes → St → Prop, (∀ z σ', (RJn σ r p q σ' (ya2 below j d).2.2 (ya2 below j d).2.1 ∧ z = .ret (.tuple [.int .i64 ((ya2 below j d).1.1 : Nat), .int .i64 ((ya2 below j d).1.2 : Nat)])) → P z σ') → ∃ z σ', Does Tryz.prog prims 30 [.optr p 0, .int .i64 below] σ z σ' ∧ P z σ' from key _ fun _ _ h => h
 intro P hP; apply k30_is.does (by simp); have lS : ∀ s : St, s.objs[p]? = some (.cells (j.cells r)) → yad Tryz.prog s.objs 33 (.optr p 4) = some (.int .i64 (j.sick : Nat)) := fun s h => by rw [yab h GEr]; rfl
 have lD : ∀ s : St, s.objs[p]? = some (.cells (j.cells r)) → yad Tryz.prog s.objs 28 (.optr p 0) = some (.optr r 0) := fun s h => by rw [yab h GRd]; rfl
 have oe : ycl (Value.string { data := #[] }) = some (.str []) := rfl; by_cases hs : j.sick = 0
 rotate_left
 · have hs' : ¬ ((j.sick : Nat) : Int) = 0 := (by omega); have eA : ya2 below j d = ((0, j.sick), j, d) := (by unfold ya2; rw [if_pos hs]); simp only [k30_a, WKV, Nat.reduceLT, Nat.reduceEqDiff, ↓reduceIte, reduceCtorEq, Nat.reduceAdd, Int.reduceLT, Int.reduceNeg, yac, gD0, gD1, wR p 4 (by omega), lS σ hp, hs', decide_false, Bool.not_false]; exact hP _ _ (by rw [eA]; exact ⟨RJn.of (RIn.refl h) hpf hp, rfl⟩)
 have hs' : ((j.sick : Nat) : Int) = 0 := (by omega); obtain ⟨z7, s7, c7, v7, rfl, r7, K7⟩ := yem h hok; have R7 := (RIn.refl h).still K7; obtain ⟨L, hL⟩ : ∃ L, L = yaS d := ⟨_, rfl⟩; have hL16 := ybS hok; rw [← hL] at r7 hL16; have hlv := r7.len TSS
 have eP : ya2 below j d = (let x := ybH below (yaW L) 0 d; if x.1.2 ≠ 0 then (x.1, { j with sick := x.1.2 }, x.2) else (x.1, j, x.2)) := by unfold ya2; rw [if_neg (by omega), ← hL]
 simp only [k30_a, WKV, Nat.reduceLT, Nat.reduceEqDiff, ↓reduceIte, reduceCtorEq, Nat.reduceAdd, Int.reduceLT, Int.reduceNeg, yac, gD0, gD1, wR p 4 (by omega), lS σ hp, hs', eq_self, decide_true, Bool.not_true, wR p 0 (by omega), lD σ hp, oe]; refine KD.ret c7 ?_; simp only [k30_a, WKV, Nat.reduceLT, Nat.reduceEqDiff, ↓reduceIte, reduceCtorEq, Nat.reduceAdd, Int.reduceLT, Int.reduceNeg, yac, gD0, gD1, hlv]; refine Ev.loopF (fun (i : Nat) e u => e 27 = .int .i64 (i : Nat) ∧ i ≤ L.length ∧ ∃ (dd : Dk) (qu : Option Nat) (ru : List RE) (g : Nat) (last : List UInt8), RIn σ r q u dd qu ru ∧ dd.Ok ∧ dd.writes ≤ 1000000000 + i ∧ e 6 = .int .i64 (g : Nat) ∧ g ≤ i ∧ e 7 = .str last ∧ u.objs[p]? = some (.cells (j.cells r)) ∧ p ∉ r :: qu.toList ∧ ((last = [] ∧ ybH below (yaW L) 0 d = ybH below (yaW (L.drop i)) g dd) ∨ (yaX last ≠ 0 ∧ ybH below (yaW L) 0 d = ybH below (yaX last :: yaW (L.drop i)) g dd))) (fun i => L.length - i) 0 ?_ ?_
 · exact ⟨by simp [yaa], Nat.zero_le _, d, q, rs, 0, [], R7, hok, by omega, by simp [yaa], by omega, by simp [yaa], K7.ko _ _ (by simp) hp, hpf, .inl ⟨rfl, by rw [List.drop_zero]⟩⟩
 rintro i e u ⟨h27, hi, dd, qu, ru, g, last, RU, ok, hwr, h6, hg, h7, hc, hpu, hst⟩ hf; have g0 : e 0 = .optr p 0 := (hf 0 (by decide)).trans (by simp [yaa]); have g1 : e 1 = .int .i64 below := (hf 1 (by decide)).trans (by simp [yaa]); have g25 : e 25 = v7 := (hf 25 (by decide)).trans (by simp [yaa]); have g26 : e 26 = .int .i64 (L.length : Nat) := (hf 26 (by decide)).trans (by simp [yaa]); clear hf
 have stop : ybH below (yaW L) 0 d = ((g, 0), dd) → P (.ret (.tuple [.int .i64 (g : Nat), .int .i64 0])) u := by
   intro he; rw [he] at eP; simp only at eP; rw [if_neg (by simp)] at eP; exact hP _ _ (by rw [eP]; exact ⟨RJn.of RU hpu hc, rfl⟩)
 by_cases hlt : i < L.length
 · have hlt' : (i : Int) < (L.length : Nat) := (by omega); have hwi : IntKind.i64.wrap ((i : Int) + 1) = ((i + 1 : Nat) : Int) := (by rw [yae (by omega) (by omega)]; omega); have hwg : IntKind.i64.wrap (((g : Nat) : Int) + 1) = ((g + 1 : Nat) : Int) := (by rw [yae (by omega) (by omega)]; omega); have hdrop : L.drop i = L[i] :: L.drop (i + 1) := List.drop_eq_getElem_cons hlt; rw [hdrop] at hst; simp only [k30_a, WKV, Nat.reduceLT, Nat.reduceEqDiff, ↓reduceIte, reduceCtorEq, Nat.reduceAdd, Int.reduceLT, Int.reduceNeg, yac, gD0, gD1, h27, g25, g26, hlt', decide_true, ymT r7 hlt, ym4 hlt]; refine KD.ret (yeZ L[i]) ?_; by_cases hz : yaX L[i] = 0
   · have hz' : ((yaX L[i] : Nat) : Int) = 0 := (by omega); rw [ylP hz] at hst; simp only [k30_a, WKV, Nat.reduceLT, Nat.reduceEqDiff, ↓reduceIte, reduceCtorEq, Nat.reduceAdd, Int.reduceLT, Int.reduceNeg, yac, gD0, gD1, h27, hz', eq_self, decide_true, hwi]; exact ⟨i + 1, ⟨by simp [yaa], by omega, dd, qu, ru, g, last, RU, ok, by omega, by simp [yaa, h6], by omega, by simp [yaa, h7], hc, hpu, hst⟩, by omega⟩
   have hz' : ¬ ((yaX L[i] : Nat) : Int) = 0 := (by omega); rw [yjT hz] at hst; rcases hst with ⟨hl0, hst⟩ | ⟨hl0, hst⟩
   · subst hl0; simp only [k30_a, WKV, Nat.reduceLT, Nat.reduceEqDiff, ↓reduceIte, reduceCtorEq, Nat.reduceAdd, Int.reduceLT, Int.reduceNeg, yac, gD0, gD1, h27, h7, hz', oe, sbN, eq_self, decide_true, decide_false, Bool.not_true, hwi]; exact ⟨i + 1, ⟨by simp [yaa], by omega, dd, qu, ru, g, L[i], RU, ok, by omega, by simp [yaa, h6], by omega, by simp [yaa], hc, hpu, .inr ⟨hz, hst⟩⟩, by omega⟩
   · have hne : ¬ last = [] := yqc hl0; by_cases hb : ((yaX L[i] : Nat) : Int) ≤ below
     · have hb' : ¬ below < ((yaX L[i] : Nat) : Int) := (by omega); obtain ⟨z9, s9, c9, rfl, N9⟩ := yfH (n := last) RU.at' ok (by omega); obtain ⟨ok9, hw9⟩ := ycx (n := last) ok; obtain ⟨q9, rs9, R9, hc9, hp9, K9⟩ := RU.nextA N9 hc hpu; rw [ybH, if_pos hb, yn0 hl0] at hst; simp only [k30_a, WKV, Nat.reduceLT, Nat.reduceEqDiff, ↓reduceIte, reduceCtorEq, Nat.reduceAdd, Int.reduceLT, Int.reduceNeg, yac, gD0, gD1, h27, h7, g0, g1, hz', oe, sbN, hne, hb', gt_iff_lt, eq_self, decide_true, decide_false, Bool.not_true, Bool.not_false, wR p 0 (by omega), lD u hc]; refine KD.ret c9 ?_; by_cases e9 : (yaj last dd).1 = 0
       · have e9' : (((yaj last dd).1 : Nat) : Int) = 0 := (by omega); rw [if_neg (by omega)] at hst; simp only [k30_a, WKV, Nat.reduceLT, Nat.reduceEqDiff, ↓reduceIte, reduceCtorEq, Nat.reduceAdd, Int.reduceLT, Int.reduceNeg, yac, gD0, gD1, h27, h6, e9', eq_self, decide_true, Bool.not_true, hwg, hwi]; exact ⟨i + 1, ⟨by simp [yaa], by omega, _, q9, rs9, g + 1, L[i], R9, ok9, by omega, by simp [yaa], by omega, by simp [yaa], hc9, hp9, .inr ⟨hz, hst⟩⟩, by omega⟩
       · have e9' : ¬ (((yaj last dd).1 : Nat) : Int) = 0 := (by omega); rw [if_pos e9] at hst; rw [hst] at eP; simp only at eP; rw [if_pos e9] at eP; obtain ⟨t1, ht1⟩ : ∃ t1 : St, t1 = ⟨s9.objs.set p (.cells (yaB r j.per j.wf j.next (yaj last dd).1)), s9.toks⟩ := ⟨_, rfl⟩; have y1 : yak Tryz.prog s9 33 (.optr p 4) (.int .i64 ((yaj last dd).1 : Nat)) = some t1 := (by rw [yag hc9 SEr rfl (by simp [Jn.cells, yaB]), ht1]; rfl); have z1 : t1.objs[p]? = some (.cells (yaB r j.per j.wf j.next (yaj last dd).1)) := (by rw [ht1]; exact yaM hc9); have x1 : KS [p] s9 t1 := (by rw [ht1]; exact KS.set (.inl (by simp)) _); simp only [k30_a, WKV, Nat.reduceLT, Nat.reduceEqDiff, ↓reduceIte, reduceCtorEq, Nat.reduceAdd, Int.reduceLT, Int.reduceNeg, yac, gD0, gD1, g0, e9', decide_false, Bool.not_false, wR p 4 (by omega), y1]
         exact hP _ _ (by rw [eP]; exact ⟨RJn.set (j' := { j with sick := (yaj last dd).1 }) R9 hp9 x1 z1, rfl⟩)
     · have hb' : below < ((yaX L[i] : Nat) : Int) := (by omega); rw [ybH, if_neg hb] at hst; simp only [k30_a, WKV, Nat.reduceLT, Nat.reduceEqDiff, ↓reduceIte, reduceCtorEq, Nat.reduceAdd, Int.reduceLT, Int.reduceNeg, yac, gD0, gD1, h27, h6, h7, g0, g1, hz', oe, sbN, hne, hb', gt_iff_lt, eq_self, decide_true, decide_false, Bool.not_true, Bool.not_false]; exact stop hst
 · have hlt' : ¬ (i : Int) < (L.length : Nat) := (by omega); have hdrop : L.drop i = [] := List.drop_of_length_le (by omega); rw [hdrop] at hst; simp only [k30_a, WKV, Nat.reduceLT, Nat.reduceEqDiff, ↓reduceIte, reduceCtorEq, Nat.reduceAdd, Int.reduceLT, Int.reduceNeg, yac, gD0, gD1, h27, h6, g26, hlt', decide_false]; refine stop ?_; rcases hst with ⟨_, hst⟩ | ⟨_, hst⟩ <;> rw [hst] <;> rfl
theorem Two.callA {s s1 : St} {r rm r2 : Nat} {d d1 : Dk} {fs fs1 : List Ent} {q : Option Nat} {rs : List RE} (h : Two s r rm r2 d fs q rs) (D1 : DiskAt s1 r d1 rm fs1) (K1 : KS (yay r rm fs) s s1) (I1 : ∀ x ∈ yay r rm fs1, x ∈ yay r rm fs ∨ s.objs.length ≤ x) :
   Half s1 r rm r2 d1 d fs1 q rs ∧ ∀ (a : Nat) (o : Ob), s.objs[a]? = some o → Off2 a r rm r2 fs q → s1.objs[a]? = some o ∧ Off2 a r rm r2 fs1 q := by
 refine ⟨⟨D1, h.R.keep K1 fun x hx hx2 => h.dj x hx2 hx, fun x hx hx2 => ?_⟩, fun a o ho hf => ⟨K1.ko _ _ hf.f ho, ⟨fun hx => ?_, hf.q⟩⟩⟩
 · rcases I1 x hx with h1 | h1
   · exact h.dj x h1 hx2
   · have := h.R.lt x hx2; omega
 · have ha := (gA0.1 ho).1; rcases I1 _ hx with h1 | h1
   · exact hf.f h1
   · omega
theorem Half.callB {s s1 : St} {r rm r2 : Nat} {d1 d : Dk} {fs : List Ent} {q q1 : Option Nat} {rs rs1 : List RE} (h : Half s r rm r2 d1 d fs q rs) (ok : d1.Ok) (R1 : RefAt s1 r2 d1 q1 rs1) (K1 : KS (r2 :: q.toList) s s1) (I1 : ∀ x ∈ r2 :: q1.toList, x ∈ r2 :: q.toList ∨ s.objs.length ≤ x) :
   Two s1 r rm r2 d1 fs q1 rs1 ∧ ∀ (a : Nat) (o : Ob), s.objs[a]? = some o → Off2 a r rm r2 fs q → s1.objs[a]? = some o ∧ Off2 a r rm r2 fs q1 := by
 refine ⟨⟨h.D.keep K1 h.dj, R1, ok, fun x hx hx2 => ?_⟩, fun a o ho hf => ⟨K1.ko _ _ hf.q ho, ⟨hf.f, fun hx => ?_⟩⟩⟩
 · rcases I1 x hx2 with h1 | h1
   · exact h.dj x hx h1
   · have := h.D.lt x hx; omega
 · have ha := (gA0.1 ho).1; rcases I1 _ hx with h1 | h1
   · exact hf.q h1
   · omega
theorem Two.callW {s s1 : St} {p r rm r2 : Nat} {op : Ob} {d d1 : Dk} {fs fs1 : List Ent} {q : Option Nat} {rs : List RE} (h : Two s r rm r2 d fs q rs) (ho : s.objs[p]? = some op) (hp : Off2 p r rm r2 fs q) (D1 : DiskAt s1 r d1 rm fs1) (K1 : KS (p :: yay r rm fs) s s1) (I1 : ∀ x ∈ yay r rm fs1, x ∈ yay r rm fs ∨ s.objs.length ≤ x) (hp1 : p ∉ yay r rm fs1) :
   Half s1 r rm r2 d1 d fs1 q rs ∧ Off2 p r rm r2 fs1 q ∧ ∀ (a : Nat) (o : Ob), a ≠ p → s.objs[a]? = some o → Off2 a r rm r2 fs q → s1.objs[a]? = some o ∧ Off2 a r rm r2 fs1 q := by
 refine ⟨⟨D1, h.R.keep K1 fun x hx hx2 => ?_, fun x hx hx2 => ?_⟩, ⟨hp1, hp.q⟩, fun a o hne ho hf => ⟨K1.ko _ _ (fun hx => ?_) ho, ⟨fun hx => ?_, hf.q⟩⟩⟩
 · rcases List.mem_cons.1 hx2 with rfl | hx2
   · exact hp.q hx
   · exact h.dj x hx2 hx
 · rcases I1 x hx with h1 | h1
   · exact h.dj x h1 hx2
   · have := h.R.lt x hx2; omega
 · rcases List.mem_cons.1 hx with h1 | h1
   · exact hne h1
   · exact hf.f h1
 · have ha := (gA0.1 ho).1; rcases I1 _ hx with h1 | h1
   · exact hf.f h1
   · omega
theorem Half.callR {s s1 : St} {p r rm r2 : Nat} {op : Ob} {d1 d : Dk} {fs : List Ent} {q q1 : Option Nat} {rs rs1 : List RE} (h : Half s r rm r2 d1 d fs q rs) (ok : d1.Ok) (ho : s.objs[p]? = some op) (hp : Off2 p r rm r2 fs q) (R1 : RefAt s1 r2 d1 q1 rs1) (K1 : KS (p :: r2 :: q.toList) s s1) (I1 : ∀ x ∈ r2 :: q1.toList, x ∈ r2 :: q.toList ∨ s.objs.length ≤ x) (hp1 : p ∉ r2 :: q1.toList) :
   Two s1 r rm r2 d1 fs q1 rs1 ∧ Off2 p r rm r2 fs q1 ∧ ∀ (a : Nat) (o : Ob), a ≠ p → s.objs[a]? = some o → Off2 a r rm r2 fs q → s1.objs[a]? = some o ∧ Off2 a r rm r2 fs q1 := by
 refine ⟨⟨h.D.keep K1 fun x hx hx2 => ?_, R1, ok, fun x hx hx2 => ?_⟩, ⟨hp.f, hp1⟩, fun a o hne ho hf => ⟨K1.ko _ _ (fun hx => ?_) ho, ⟨hf.f, fun hx => ?_⟩⟩⟩
 · rcases List.mem_cons.1 hx2 with rfl | hx2
   · exact hp.f hx
   · exact h.dj x hx hx2
 · rcases I1 x hx2 with h1 | h1
   · exact h.dj x hx h1
   · have := h.D.lt x hx; omega
 · rcases List.mem_cons.1 hx with h1 | h1
   · exact hne h1
   · exact hf.q h1
 · have ha := (gA0.1 ho).1; rcases I1 _ hx with h1 | h1
   · exact hf.q h1
   · omega
structure OpBd (s : OpS) (n : Nat) : Prop where
 le : s.wf ≤ s.next
 nx : s.next ≤ 2000000000
 small : ∀ x ∈ s.recs, x.length ≤ 1048576
 few : s.recs.length ≤ n
theorem ynw {n : List UInt8} {d : Dk} (h : d.Ok) : ∀ x ∈ (ybJ n d).1.2, x.length ≤ 1048576 := by
 have hl := ydM h n; have hr := (yjM (yeW (yav n d).2)).1; intro x hx; rw [ylr] at hx; split at hx
 · cases hx
 · split at hx
   · cases hx
   · have := hr x hx; omega
theorem yhA : ∀ (L : List (List UInt8)) (s : OpS) (d : Dk) (n : Nat), d.Ok → OpBd s n → OpBd (ybG L s d).1.2 (n + 1048576 * L.length)
 | [], s, d, n, _, h => ⟨h.le, h.nx, h.small, by have := h.few; simp only [ybG, List.length_nil]; omega⟩
 | x :: L, s, d, n, hok, h => by
   have hr := ycx (n := x) hok; have hs := yir (n := x) hok; have hl := yj4 (n := x) hok; have hsm := ynw (n := x) hok; have hn := yhI x; have hf := h.few; have up : ∀ {o : OpS} {m k : Nat}, OpBd o m → m ≤ k → OpBd o k := fun g hk => ⟨g.le, g.nx, g.small, Nat.le_trans g.few hk⟩; rw [ybG, List.length_cons]; split
   · exact up (yhA L s d n hok h) (by omega)
   split
   · split
     · exact up h (by omega)
     · exact up (yhA L { s with brk := true } _ n hr.1 ⟨h.le, h.nx, h.small, h.few⟩) (by omega)
   · split
     · exact up h (by omega)
     · refine up (yhA L (s.more (yaX x) (ybJ x d).1.2) _ (n + 1048576) hs.1 ⟨?_, ?_, ?_, ?_⟩) (by omega)
       · simp only [OpS.more]; omega
       · simp only [OpS.more]; omega
       · intro y hy; simp only [OpS.more] at hy; rcases List.mem_append.1 hy with hy | hy
         · exact h.small y hy
         · exact hsm y hy
       · simp only [OpS.more, List.length_append]; omega
theorem ykW {per : Int} {d : Dk} (h : d.Ok) : OpBd (yaI per d).1.2 100000000 := by
 have h0 : OpBd op0 0 := ⟨by simp [op0], by simp [op0], (fun x hx => by cases hx), by simp [op0]⟩; have h16 := ybS h; have up : ∀ {o : OpS} {m k : Nat}, OpBd o m → m ≤ k → OpBd o k := fun g hk => ⟨g.le, g.nx, g.small, Nat.le_trans g.few hk⟩; unfold yaI; split
 · exact up h0 (by omega)
 split
 · exact up h0 (by omega)
 · exact up (yhA (yaS d) op0 d 0 h h0) (by omega)
theorem yiH {per : Int} {d : Dk} (h : d.Ok) : (yaI per d).2.Ok ∧ (yaI per d).2.writes ≤ d.writes + 32 := by
 have hL : ∀ (l : List (List UInt8)) (s : OpS) (d : Dk), d.Ok → (ybG l s d).2.Ok ∧ (ybG l s d).2.writes ≤ d.writes + 2 * l.length := by
   intro l
   induction l with
   | nil => intro s d h; exact ⟨h, by simp [ybG]⟩
   | cons x l ih =>
     intro s d h; rw [ybG, List.length_cons]; have hr := ycx (n := x) h; have hs := yir (n := x) h; split
     · have := ih s d h; exact ⟨this.1, by omega⟩
     split
     · split
       · exact ⟨hr.1, by simp only; omega⟩
       · have := ih { s with brk := true } _ hr.1
         exact ⟨this.1, by omega⟩
     · split
       · exact ⟨hs.1, by simp only; omega⟩
       · have := ih (s.more (yaX x) (ybJ x d).1.2) _ hs.1; exact ⟨this.1, by omega⟩
 have h16 := ybS h; have := hL (yaS d) op0 d h; unfold yaI; split
 · exact ⟨h, by simp only; omega⟩
 split
 · exact ⟨h, by simp only; omega⟩
 · exact ⟨this.1, by omega⟩
theorem yoU {b : List UInt8} {j : Jn} {d : Dk} (h : d.Ok) : (yct b j d).2.2.Ok ∧ (yct b j d).2.2.writes ≤ d.writes + 2 := by
 have ha := yeL (n := ya0 106 1 (j.to : Nat)) (b := yar b) h; have hs := yjw (n := ya0 106 1 (j.to : Nat)) ha.1
 obtain ⟨y, ey⟩ : ∃ y : Nat × Dk, y = (if (yaf (ya0 106 1 (j.to : Nat)) (yar b) d).1 = 0 then yaO (ya0 106 1 (j.to : Nat)) (yaf (ya0 106 1 (j.to : Nat)) (yar b) d).2 else yaf (ya0 106 1 (j.to : Nat)) (yar b) d) := ⟨_, rfl⟩
 have hy : y.2.Ok ∧ y.2.writes ≤ d.writes + 2 := by
   rw [ey]; split
   · exact ⟨hs.1, by omega⟩
   · exact ⟨ha.1, by omega⟩
 unfold yct; split
 · exact ⟨h, by simp only; omega⟩
 split
 · exact ⟨h, by simp only; omega⟩
 split
 · exact ⟨h, by simp only; omega⟩
 simp only; split
 · exact ⟨ha.1, by simp only; omega⟩
 rw [← ey]; split
 · exact hy
 · exact hy
theorem yqA {b : List UInt8} {j : Jn} {d : Dk} {n : Nat} (h : j.wf ≤ j.next) (hn : j.next ≤ n) : (yct b j d).2.1.wf ≤ (yct b j d).2.1.next ∧ (yct b j d).2.1.next ≤ n + 1 := by
 have ht : j.to ≤ j.next := by unfold Jn.to; split <;> omega
 obtain ⟨y, ey⟩ : ∃ y : Nat × Dk, y = (if (yaf (ya0 106 1 (j.to : Nat)) (yar b) d).1 = 0 then yaO (ya0 106 1 (j.to : Nat)) (yaf (ya0 106 1 (j.to : Nat)) (yar b) d).2 else yaf (ya0 106 1 (j.to : Nat)) (yar b) d) := ⟨_, rfl⟩
 unfold yct; split
 · exact ⟨h, by simp only; omega⟩
 split
 · exact ⟨h, by simp only; omega⟩
 split
 · exact ⟨h, by simp only; omega⟩
 simp only; split
 · exact ⟨h, by simp only; omega⟩
 rw [← ey]; split
 · exact ⟨h, by simp only; omega⟩
 · exact ⟨by simp only; omega, by simp only; omega⟩
theorem yhq {below : Int} : ∀ (l : List Nat) (g : Nat) (d : Dk), d.Ok → (ybH below l g d).2.Ok ∧ (ybH below l g d).2.writes ≤ d.writes + l.length
 | [], g, d, h => ⟨h, by simp [ybH]⟩
 | [a], g, d, h => ⟨h, by simp [ybH]⟩
 | a :: b :: l, g, d, h => by
   rw [ybH]; have hr := ycx (n := ya0 106 1 (a : Nat)) h; split
   · split
     · exact ⟨hr.1, by simp only [List.length_cons]; omega⟩
     · have := yhq (below := below) (b :: l) (g + 1) _ hr.1; exact ⟨this.1, by simp only [List.length_cons] at this ⊢; omega⟩
   · exact ⟨h, by simp only [List.length_cons]; omega⟩
theorem ylG {below : Int} {j : Jn} {d : Dk} (h : d.Ok) : (ya2 below j d).2.2.Ok ∧ (ya2 below j d).2.2.writes ≤ d.writes + 16 := by
 have hl : (yaW (yaS d)).length ≤ 16 := by
   have := ybS h; have h2 := ydQ (yaS d); omega
 have hp := yhq (below := below) (yaW (yaS d)) 0 d h; unfold ya2; split
 · exact ⟨h, by simp only; omega⟩
 simp only; split
 · exact ⟨hp.1, by simp only; omega⟩
 · exact ⟨hp.1, by simp only; omega⟩
theorem yoj {below : Int} {j : Jn} {d : Dk} {n : Nat} (h : j.wf ≤ j.next) (hn : j.next ≤ n) : (ya2 below j d).2.1.wf ≤ (ya2 below j d).2.1.next ∧ (ya2 below j d).2.1.next ≤ n + 1 := by
 unfold ya2; split
 · exact ⟨h, by simp only; omega⟩
 simp only; split
 · exact ⟨h, by simp only; omega⟩
 · exact ⟨h, by simp only; omega⟩
theorem ylI {σ : St} {p r : Nat} {j : Jn} (h : σ.objs[p]? = some (.cells (j.cells r))) : Does Tryz.prog prims 35 [.optr p 0] σ (.ret (.int .i64 (j.next : Nat))) σ := by
 apply k35_is.ret (by simp); have lo : yad Tryz.prog σ.objs 3 (.optr p 3) = some (.int .i64 (j.next : Nat)) := (by rw [yab h G3]; rfl); simp only [k35_a, WKV, Nat.reduceLT, Nat.reduceEqDiff, ↓reduceIte, reduceCtorEq, Nat.reduceAdd, Int.reduceLT, Int.reduceNeg, yac, gD0, gD1, yaJ, ybe TWp, wFA p 3 (by omega), lo]
theorem yoT (a b : Operand) (x : Bool) : yci Tryz.prog .neq 4 a b (.bool x) (.bool x) = some (.bool false) := by
 cases x <;> kernel_rfl
theorem yoN (per : Int) (σ : St) : ∃ q σ', Does Tryz.prog prims 31 [.nilp, .int .i64 per] σ q σ' ∧ q = .ret (.tuple [.nilp, .nils, .int .i64 0, .int .i64 2]) := by
 apply k31_is.does (by simp); obtain ⟨b, hb⟩ : ∃ b, b = σ.objs.length := ⟨_, rfl⟩; obtain ⟨s1, hs1⟩ : ∃ s1 : St, s1 = ⟨σ.objs ++ [Ob.cells [.nilp]], σ.toks⟩ := ⟨_, rfl⟩; obtain ⟨s2, hs2⟩ : ∃ s2 : St, s2 = ⟨s1.objs ++ [Ob.cells [.nils]], s1.toks⟩ := ⟨_, rfl⟩; obtain ⟨s3, hs3⟩ : ∃ s3 : St, s3 = ⟨s2.objs ++ [Ob.cells [.int .i64 0]], s2.toks⟩ := ⟨_, rfl⟩; obtain ⟨s4, hs4⟩ : ∃ s4 : St, s4 = ⟨s3.objs ++ [Ob.cells [.int .i64 0]], s3.toks⟩ := ⟨_, rfl⟩; have l1 : s1.objs.length = b + 1 := (by rw [hs1, hb]; simp); have l2 : s2.objs.length = b + 2 := (by rw [hs2]; simp [l1]); have l3 : s3.objs.length = b + 3 := (by rw [hs3]; simp [l2]); have k1 : KS [] σ s1 := (by rw [hs1]; exact KS.push _ _ _); have k2 : KS [] s1 s2 := (by rw [hs2]; exact KS.push _ _ _); have k3 : KS [] s2 s3 := (by rw [hs3]; exact KS.push _ _ _); have k4 : KS [] s3 s4 := (by rw [hs4]; exact KS.push _ _ _); have c0 : s4.objs[b]? = some (.cells [.nilp]) := k4.ko _ _ (by simp) (k3.ko _ _ (by simp) (k2.ko _ _ (by simp) (by rw [hs1, hb]; exact yap _ _))); have c1 : s4.objs[b + 1]? = some (.cells [.nils]) := k4.ko _ _ (by simp) (k3.ko _ _ (by simp) (by rw [hs2, ← l1]; exact yap _ _)); have c2 : s4.objs[b + 2]? = some (.cells [.int .i64 0]) := k4.ko _ _ (by simp) (by rw [hs3, ← l2]; exact yap _ _); have c3 : s4.objs[b + 3]? = some (.cells [.int .i64 0]) := (by rw [hs4, ← l3]; exact yap _ _); have v0 : yah V.nilp = [.nilp] := rfl; have v1 : yah V.nils = [.nils] := rfl; have v2 : yah (V.int .i64 0) = [.int .i64 0] := rfl; obtain ⟨t1, g1, a1, x1⟩ := ya7 (u := .nilp) c0 SWp rfl; obtain ⟨t2, g2, a2, x2⟩ := ya7 (u := .nils) (x1.ko _ _ (by simp) c1) SRs rfl; obtain ⟨t3, g3, a3, x3⟩ := ya7 (u := .int .i64 0) (x2.ko _ _ (by simp) (x1.ko _ _ (by simp) c2)) S3 rfl; obtain ⟨t4, g4, a4, x4⟩ := ya7 (u := .int .i64 2) (x3.ko _ _ (by simp) (x2.ko _ _ (by simp) (x1.ko _ _ (by simp) c3))) SEr rfl; have y1 := yaq (x4.ko _ _ (by simp) (x3.ko _ _ (by simp) (x2.ko _ _ (by simp) a1))) GWp; have y2 := yaq (x4.ko _ _ (by simp) (x3.ko _ _ (by simp) a2)) GRs; have y3 := yaq (x4.ko _ _ (by simp) a3) G3; have y4 := yaq a4 GEr; simp only [k31_a, WD, WKV, Nat.reduceLT, Nat.reduceEqDiff, ↓reduceIte, reduceCtorEq, Nat.reduceAdd, Int.reduceLT, Int.reduceNeg, yac, gD0, gD1, ZWp, ZRs, ZIn, ZEr, ycn, v0, v1, v2, ← hs1, ← hs2, ← hs3, ← hs4, ← hb, l1, l2, l3, yaJ, ybd, ycd pTD, g1, g2, g3, g4, y1, y2, y3, y4, List.append_nil]
end Go.Proofs.YtnegdinonfjdfaaGreatDoor.Q
