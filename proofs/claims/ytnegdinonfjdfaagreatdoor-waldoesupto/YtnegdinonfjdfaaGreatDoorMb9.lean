/- A part of the proof: Zc, Zd, Ze, Zf, Zg, Zh, Zi, Zj, Zk, Va, Sg, Si, Sj, Vb, Vc, Vd, Ua, Ub, Ve, Vf. -/
import Derived.Test.YtnegdinonfjdfaaGreatDoorMb8
set_option linter.unusedVariables false
set_option linter.unusedSimpArgs false
set_option maxRecDepth 100000
namespace Go.Proofs.YtnegdinonfjdfaaGreatDoor.Q
open Go Go.RowKit Go.Proofs
theorem KS.ofKeep {σ σ' : St} (h : Keep σ σ') : KS [] σ σ' := h.ks []
theorem ymS {σ : St} {v w : V} {bs ys : List UInt8} (hv : RB σ v bs) (hw : RB σ w ys) (hl : bs.length + ys.length ≤ 140737488300000) :
   ∃ v1 σ1 v2 σ2, yaY Tryz.prog σ 30 30 (.slice .exact 1 [] 0) v = some (v1, σ1) ∧ yaY Tryz.prog σ1 30 30 v1 w = some (v2, σ2) ∧ BtsV v1 bs ∧ BtsV v2 (bs ++ ys) ∧ KS [] σ σ1 ∧ KS [] σ σ2 ∧ σ1.objs = σ.objs ∧ σ2.objs = σ.objs := by
 have ho1 : OwnV 5 σ.toks.length σ (.slice .exact 1 [] 0) [] := .inr ⟨_, rfl, .inl rfl⟩; obtain ⟨v1, σ1, h1, h2, h3, h4⟩ := ho1.toR.appendO BT.row rfl (Keep.refl σ) (hv.news) (by simp) (ycE bs) (by simp; omega) (by simp; omega); rw [List.map_nil, List.nil_append] at h2; have hv1 := OwnR.toV h2; have hw1 : RB σ1 w ys := hw.keep h3; obtain ⟨v2, σ2, g1, g2, g3, g4⟩ := hv1.toR.appendO BT.row rfl h3 hw1.news (by simp) (ycE ys) (by omega) (by omega); rw [← List.map_append] at g2; exact ⟨v1, σ1, v2, σ2, h1, g1, hv1.bts, (OwnR.toV g2).bts, KS.ofKeep h3, KS.ofKeep g3, h4, by rw [g4, h4]⟩
theorem fb0 : yas Tryz.prog 30 0 [] = some (.slice .exact 1 [] 0) := by kernel_rfl
theorem fb1 (b : UInt8) : yas Tryz.prog 30 1 [(0, yal b)] = some (.slice .exact 1 [yal b] 1) := by kernel_rfl
def yjG (x : Fl) (pre : List RE) : List RE := pre.filter fun g => decide (g.f.name < x.name)
def yie (x : Fl) (pre : List RE) : List RE := pre.filter fun g => decide (x.name < g.f.name)
theorem put_fl {x : RE} {rs : List RE} : (yjG x.f rs ++ x :: yie x.f rs).map RE.f = ycy x.f (rs.map RE.f) := by
 unfold yjG yie ycy; rw [List.map_append, List.map_cons, List.filter_map, List.filter_map]; rfl
theorem ymV {σ : St} {r : Nat} {d : Dk} {q : Option Nat} {rs : List RE} {x : RE} (h : RefAt σ r d q rs) (hok : d.Ok) (hx : x.Ok) :
   ∃ p σ', Does Tryz.prog prims 44 [.optr r 0, .agg x.cells] σ p σ' ∧ (p = .ret (.tuple []) ∧ RNext σ r q σ' { d with files := ycy x.f d.files }) := by
 apply k44_is.does (by simp); have hfew : rs.length ≤ 16 := by have := hok.few; rw [← h.fl, List.length_map] at this; exact this
 have hrise : rs.Pairwise fun a b => a.f.name < b.f.name := by
   have := hok.rise; rw [← h.fl, List.pairwise_map] at this; exact this
 obtain ⟨s0, hs0⟩ : ∃ s0 : St, s0 = ⟨σ.objs ++ [.cells x.cells], σ.toks⟩ := ⟨_, rfl⟩; have K0 : KS [] σ s0 := (by rw [hs0]; exact KS.push _ _ _); have H0 : RefAt s0 r d q rs := h.keep K0 fun x _ => by simp
 have L0 : s0.objs.length = σ.objs.length + 1 := (by rw [hs0]; simp); have B0 : s0.objs[σ.objs.length]? = some (.cells x.cells) := (by rw [hs0]; exact yap _ _); obtain ⟨fv, h1, h2⟩ := H0.hd; have lf : yad Tryz.prog s0.objs 46 (.optr r 0) = some fv := (by rw [yab h1 GFS]; rfl); have hcx : yah (.agg x.cells) = x.cells := rfl; simp only [k44_a, WKV, Nat.reduceLT, Nat.reduceEqDiff, ↓reduceIte, reduceCtorEq, Nat.reduceAdd, Int.reduceLT, Int.reduceNeg, yac, gD0, gD1, ycn, hcx, ← hs0, ybd, rFA r 0 (by omega), lf, h2.len]
 refine Ev.loopF (fun (i : Nat) e s => ∃ q', e 13 = .int .i64 (i : Nat) ∧ i ≤ rs.length ∧ KS [] s0 s ∧ e 5 = .bool ((rs.take i).any fun g => decide (x.f.name < g.f.name)) ∧ RRow s.objs (e 4) q' (yjG x.f (rs.take i) ++ if ((rs.take i).any fun g => decide (x.f.name < g.f.name)) = true then x :: yie x.f (rs.take i) else []) ∧ ∀ z ∈ q'.toList, s0.objs.length ≤ z) (fun i => rs.length - i) 0 ⟨none, by simp [yaa], Nat.zero_le _, KS.refl _ _, by simp [yaa], by simp [yaa, yjG, RRow], fun z hz => by cases hz⟩ ?_
 rintro i e s ⟨q', h13, hi, hk, h5, h4, hq'⟩ hf; have h0 : e 0 = .optr r 0 := (hf 0 (by decide)).trans (by simp [yaa]); have h3 : e 3 = .optr σ.objs.length 0 := (hf 3 (by decide)).trans (by simp [yaa]); have h11 : e 11 = fv := (hf 11 (by decide)).trans (by simp [yaa]); have h12 : e 12 = .int .i64 (rs.length : Nat) := (hf 12 (by decide)).trans (by simp [yaa]); clear hf; have Bs : s.objs[σ.objs.length]? = some (.cells x.cells) := hk.ko _ _ (by simp) B0
 have hokp : ∀ g ∈ yjG x.f (rs.take i) ++ (if ((rs.take i).any fun g => decide (x.f.name < g.f.name)) = true then x :: yie x.f (rs.take i) else []), g.Ok := by
   intro g hg; rcases List.mem_append.1 hg with hg | hg
   · exact h.ok g (List.mem_of_mem_take (List.mem_filter.1 hg).1)
   · split at hg
     · rcases List.mem_cons.1 hg with rfl | hg
       · exact hx
       · exact h.ok g (List.mem_of_mem_take (List.mem_filter.1 hg).1)
     · cases hg
 have hlenp : (yjG x.f (rs.take i) ++ (if ((rs.take i).any fun g => decide (x.f.name < g.f.name)) = true then x :: yie x.f (rs.take i) else [])).length ≤ 100 := by
   have e1 := List.length_filter_le (fun g : RE => decide (g.f.name < x.f.name)) (rs.take i); have e2 := List.length_filter_le (fun g : RE => decide (x.f.name < g.f.name)) (rs.take i); have e3 : (rs.take i).length ≤ 16 := (by rw [List.length_take]; omega); rw [List.length_append]; unfold yjG yie; split
   · rw [List.length_cons]; omega
   · simp only [List.length_nil]; omega
 by_cases hlt : i < rs.length
 · have hlt' : (i : Int) < rs.length := (by omega); have hwi : IntKind.i64.wrap ((i : Int) + 1) = ((i + 1 : Nat) : Int) := (by rw [show ((i : Int) + 1) = ((i + 1 : Nat) : Int) from by omega]; exact ya8 (by omega)); obtain ⟨ro, _, _, ha, hl⟩ := (h2.keep hk fun x _ => by simp).at hlt; obtain ⟨g, hg⟩ : ∃ g, g = rs[i] := ⟨_, rfl⟩; rw [← hg] at hl; have hgo := h.ok rs[i] (List.getElem_mem hlt); rw [← hg] at hgo; have htk : rs.take (i + 1) = rs.take i ++ [g] := by rw [List.take_succ_eq_append_getElem hlt, hg]
   have hpre : ∀ a ∈ rs.take i, a.f.name < g.f.name := by
     intro a ham; obtain ⟨j, hj, rfl⟩ := List.mem_iff_getElem.1 ham; rw [List.length_take] at hj; rw [List.getElem_take, hg]; exact List.pairwise_iff_getElem.1 hrise j i (by omega) hlt (by omega)
   obtain ⟨s1, hs1⟩ : ∃ s1 : St, s1 = ⟨s.objs ++ [.cells g.cells], s.toks⟩ := ⟨_, rfl⟩; have hst := ydd (σ := s) hgo; rw [← hs1] at hst; have K1 : KS [] s s1 := (by rw [hs1]; exact KS.push _ _ _); have L1 : s.objs.length ≤ s1.objs.length := K1.le; have ho : s1.objs[s.objs.length]? = some (.cells g.cells) := (by rw [hs1]; exact yap _ _); have B1 := K1.ko _ _ (by simp) Bs; have hz : yah (V.agg [.str [], .nils, .nils]) = [.str [], .nils, .nils] := rfl
   have R1 : RRow s1.objs (e 4) q' (yjG x.f (rs.take i) ++ if ((rs.take i).any fun g => decide (x.f.name < g.f.name)) = true then x :: yie x.f (rs.take i) else []) := h4.keep K1 fun x _ => by simp
   have hq1 : ∀ z ∈ q'.toList, z < s.objs.length := h4.lt; have lx : yad Tryz.prog s1.objs 9 (.optr σ.objs.length 0) = some (.str x.f.name) := (by rw [yab B1 G9]; rfl); have lg : yad Tryz.prog s1.objs 9 (.optr s.objs.length 0) = some (.str g.f.name) := (by rw [yab ho G9]; rfl); have ax : yad Tryz.prog s1.objs 81 (.optr σ.objs.length 0) = some (.agg x.cells) := yc3 B1 GFi (by rw [SFi]; rfl); have ag : yad Tryz.prog s1.objs 81 (.optr s.objs.length 0) = some (.agg g.cells) := yc3 ho GFi (by rw [SFi]; rfl); have hany : ((rs.take (i + 1)).any fun g => decide (x.f.name < g.f.name)) = (((rs.take i).any fun g => decide (x.f.name < g.f.name)) || decide (x.f.name < g.f.name)) := by rw [htk, List.any_append]; simp
   have hI : yjG x.f (rs.take (i + 1)) = yjG x.f (rs.take i) ++ if g.f.name < x.f.name then [g] else [] := by
     unfold yjG; rw [htk, List.filter_append, List.filter_cons]; by_cases h : g.f.name < x.f.name <;> simp [h]
   have hJ : yie x.f (rs.take (i + 1)) = yie x.f (rs.take i) ++ if x.f.name < g.f.name then [g] else [] := by
     unfold yie; rw [htk, List.filter_append, List.filter_cons]; by_cases h : x.f.name < g.f.name <;> simp [h]
   have hJ0 : ((rs.take i).any fun g => decide (x.f.name < g.f.name)) = false → yie x.f (rs.take i) = [] := by
     intro h; unfold yie; rw [List.filter_eq_nil_iff]; intro a ha h2; have := List.any_eq_false.1 h a ha; exact this h2
   have hdone : ((rs.take i).any fun g => decide (x.f.name < g.f.name)) = true → x.f.name < g.f.name := by
     intro h; obtain ⟨a, ha, h2⟩ := List.any_eq_true.1 h; exact ybX (of_decide_eq_true h2) (hpre a ha)
   -- an append of g alone
   have push1 : ∃ y t1 v' q2 t2, yce Tryz.prog s1 46 1 [(0, .agg g.cells)] = some (y, t1) ∧ yaK Tryz.prog t1 46 46 (e 4) y = some (v', t2) ∧ RRow t2.objs v' q2 ((yjG x.f (rs.take i) ++ if ((rs.take i).any fun g => decide (x.f.name < g.f.name)) = true then x :: yie x.f (rs.take i) else []) ++ [g]) ∧ KS [] s0 t2 ∧ ∀ z ∈ q2.toList, s0.objs.length ≤ z := by
     obtain ⟨y, t1, v', q2, t2, p1, p2, p3, p4, p5⟩ := R1.push hokp hgo (by omega); have := hk.le; exact ⟨y, t1, v', q2, t2, p1, p2, p3, (hk.trans' K1).trans p4 fun x hx => .inr (hq' x hx), fun z hz => by have := p5 z hz; omega⟩
   by_cases hxg : x.f.name < g.f.name
   · have hgx : ¬ g.f.name < x.f.name := fun h => yaD _ (ybX h hxg); have hne : ¬ g.f.name = x.f.name := fun h => by rw [h] at hxg; exact yaD _ hxg
     have hany1 : ((rs.take (i + 1)).any fun g => decide (x.f.name < g.f.name)) = true := by rw [hany, decide_eq_true hxg, Bool.or_true]
     cases hb : ((rs.take i).any fun g => decide (x.f.name < g.f.name)) with
     | true =>
       rw [hb] at h5 push1; obtain ⟨y, t1, v', q2, t2, p1, p2, p3, p4, p5⟩ := push1; simp only [k44_a, WKV, Nat.reduceLT, Nat.reduceEqDiff, ↓reduceIte, reduceCtorEq, Nat.reduceAdd, Int.reduceLT, Int.reduceNeg, yac, h13, h12, h11, h5, h3, hlt', decide_true, decide_false, ha, hl, ZFi, ycn, hz, hst, ynQ, lx, lg, sbN, sbL, hne, hxg, ax, ag, p1, p2, hwi]; refine ⟨i + 1, ⟨q2, by simp [yaa], by omega, p4, by simp [yaa, hany1], ?_, p5⟩, by omega⟩; rw [hany1, hI, hJ, if_neg hgx, if_pos hxg]; simpa [yaa] using p3
     | false =>
       rw [hb] at h5 hokp R1 hlenp; obtain ⟨y, t1, v', q2, t2, p1, p2, p3, p4, p5⟩ := R1.push hokp hx (by omega); have hs0le := hk.le; have K2 : KS [] s0 t2 := (hk.trans' K1).trans p4 fun x hx => .inr (hq' x hx); have lg2 : t2.objs[s.objs.length]? = some (.cells g.cells) := p4.ko _ _ (fun hm => by have := hq1 _ hm; omega) ho; have lx2 : t2.objs[σ.objs.length]? = some (.cells x.cells) := K2.ko _ _ (by simp) B0; have mg : yad Tryz.prog t2.objs 9 (.optr s.objs.length 0) = some (.str g.f.name) := (by rw [yab lg2 G9]; rfl); have mx : yad Tryz.prog t2.objs 9 (.optr σ.objs.length 0) = some (.str x.f.name) := (by rw [yab lx2 G9]; rfl); have ag2 : yad Tryz.prog t2.objs 81 (.optr s.objs.length 0) = some (.agg g.cells) := yc3 lg2 GFi (by rw [SFi]; rfl)
       have hok2 : ∀ a ∈ (yjG x.f (rs.take i) ++ if false = true then x :: yie x.f (rs.take i) else []) ++ [x], a.Ok := by
         intro a ha; rcases List.mem_append.1 ha with h | h
         · exact hokp a h
         · rw [List.mem_singleton] at h; subst h; exact hx
       obtain ⟨y2, u1, w', q3, u2, r1, r2, r3, r4, r5⟩ := p3.push hok2 hgo (by rw [List.length_append]; simp only [List.length_cons, List.length_nil]; omega); have hJe := hJ0 hb; simp only [k44_a, WKV, Nat.reduceLT, Nat.reduceEqDiff, ↓reduceIte, reduceCtorEq, Nat.reduceAdd, Int.reduceLT, Int.reduceNeg, yac, h13, h12, h11, h5, h3, hlt', decide_true, decide_false, ha, hl, ZFi, ycn, hz, hst, ynQ, lx, lg, sbN, sbL, hne, hxg, ax, ag, p1, p2, mg, mx, ag2, r1, r2, hwi, Bool.not_false, Bool.not_true]; refine ⟨i + 1, ⟨q3, by simp [yaa], by omega, K2.trans r4 fun x hx => .inr (by have := p5 x hx; have := K1.le; omega), by simp [yaa, hany1], ?_, fun z hz => by have := r5 z hz; have := K2.le; omega⟩, by omega⟩; rw [hany1, hI, hJ, if_neg hgx, if_pos hxg, hJe]; simpa [yaa] using r3
   · have hb : ((rs.take i).any fun g => decide (x.f.name < g.f.name)) = false := by
       cases hb : ((rs.take i).any fun g => decide (x.f.name < g.f.name)) with
       | false => rfl
       | true => exact absurd (hdone hb) hxg
     have hany1 : ((rs.take (i + 1)).any fun g => decide (x.f.name < g.f.name)) = false := (by rw [hany, hb, decide_eq_false hxg]; rfl); rw [hb] at h5 push1 R1; by_cases hne : g.f.name = x.f.name
     · have hgx : ¬ g.f.name < x.f.name := fun h => by rw [hne] at h; exact yaD _ h
       simp only [k44_a, WKV, Nat.reduceLT, Nat.reduceEqDiff, ↓reduceIte, reduceCtorEq, Nat.reduceAdd, Int.reduceLT, Int.reduceNeg, yac, h13, h12, h11, h5, h3, hlt', decide_true, decide_false, ha, hl, ZFi, ycn, hz, hst, ynQ, lx, lg, sbN, sbL, hne, hxg, ax, ag, hwi, Bool.not_false, Bool.not_true, eq_self, yaD]; refine ⟨i + 1, ⟨q', by simp [yaa], by omega, hk.trans' K1, by simp [yaa, h5, hany1], ?_, hq'⟩, by omega⟩; rw [hany1, hI, if_neg hgx]; simpa [yaa] using R1
     · have hgx : g.f.name < x.f.name := (yql hne).resolve_right hxg; obtain ⟨y, t1, v', q2, t2, p1, p2, p3, p4, p5⟩ := push1; simp only [k44_a, WKV, Nat.reduceLT, Nat.reduceEqDiff, ↓reduceIte, reduceCtorEq, Nat.reduceAdd, Int.reduceLT, Int.reduceNeg, yac, h13, h12, h11, h5, h3, hlt', decide_true, decide_false, ha, hl, ZFi, ycn, hz, hst, ynQ, lx, lg, sbN, sbL, hne, hxg, ax, ag, p1, p2, hwi, Bool.not_false, Bool.not_true]; refine ⟨i + 1, ⟨q2, by simp [yaa], by omega, p4, by simp [yaa, h5, hany1], ?_, p5⟩, by omega⟩; rw [hany1, hI, if_pos hgx]; simpa [yaa] using p3
 · have hlt' : ¬ (i : Int) < rs.length := (by omega); have hall : rs.take i = rs := List.take_of_length_le (by omega); rw [hall] at h5 h4 hokp hlenp; have ax : yad Tryz.prog s.objs 81 (.optr σ.objs.length 0) = some (.agg x.cells) := yc3 Bs GFi (by rw [SFi]; rfl)
   have hfin : ∀ (t : St) (v : V) (q2 : Option Nat), KS [] s0 t → RRow t.objs v q2 (yjG x.f rs ++ x :: yie x.f rs) → (∀ z ∈ q2.toList, s0.objs.length ≤ z) → ∃ t', yak Tryz.prog t 46 (.optr r 0) v = some t' ∧ RNext σ r q t' { d with files := ycy x.f d.files } := by
     intro t v q2 kt rt hq2; have hrl := h.lt r (by simp); have o := kt.ko r _ (by simp) h1; refine ⟨_, yag o SFS rt.one (by simp), q2, yjG x.f rs ++ x :: yie x.f rs, ⟨⟨v, by simp only; exact yaM o, rt.keep (S := [r]) (KS.set (.inl (by simp)) _) fun z hz hz2 => ?_⟩, ?_, ?_, fun hz => ?_⟩, ((K0.trans' kt).mono (fun x hx => by cases hx)).trans' (KS.set (.inl (by simp)) _), fun z hz => ?_⟩
     · rw [List.mem_singleton] at hz2; have := hq2 z hz; omega
     · intro g hg; rcases List.mem_append.1 hg with hg | hg
       · exact h.ok g (List.mem_filter.1 hg).1
       · rcases List.mem_cons.1 hg with rfl | hg
         · exact hx
         · exact h.ok g (List.mem_filter.1 hg).1
     · simp only; rw [put_fl, h.fl]
     · have := hq2 r hz; omega
     · rcases List.mem_cons.1 hz with rfl | hz
       · exact .inl (by simp)
       · have := hq2 z hz; exact .inr (by omega)
   cases hb : (rs.any fun g => decide (x.f.name < g.f.name)) with
   | true =>
     rw [hb] at h5 h4; obtain ⟨t', g1, g2⟩ := hfin s (e 4) q' hk h4 hq'; simp only [k44_a, WKV, Nat.reduceLT, Nat.reduceEqDiff, ↓reduceIte, reduceCtorEq, Nat.reduceAdd, Int.reduceLT, Int.reduceNeg, yac, h0, h13, h12, h5, h3, hlt', decide_false, Bool.not_true, rFA r 0 (by omega), g1]; exact g2
   | false =>
     rw [hb] at h5 h4 hokp hlenp; obtain ⟨y, t1, v', q2, t2, p1, p2, p3, p4, p5⟩ := h4.push hokp hx (by omega)
     have hJe : yie x.f rs = [] := by
       unfold yie; rw [List.filter_eq_nil_iff]; intro a ha h2; exact List.any_eq_false.1 hb a ha h2
     obtain ⟨t', g1, g2⟩ := hfin t2 v' q2 (hk.trans p4 fun x hx => .inr (hq' x hx)) (by rw [hJe]; simpa using p3) (fun z hz => by have := p5 z hz; have := hk.le; omega); simp only [k44_a, WKV, Nat.reduceLT, Nat.reduceEqDiff, ↓reduceIte, reduceCtorEq, Nat.reduceAdd, Int.reduceLT, Int.reduceNeg, yac, h0, h13, h12, h5, h3, hlt', decide_false, Bool.not_false, ax, p1, p2, rFA r 0 (by omega), g1]; exact g2
theorem yl1 {σ : St} {r : Nat} {d : Dk} {q : Option Nat} {rs : List RE} {n : List UInt8} (h : RefAt σ r d q rs) (hok : d.Ok) :
   ∃ p σ', Does Tryz.prog prims 84 [.optr r 0, .str n] σ p σ' ∧ (p = .ret (.tuple []) ∧ RNext σ r q σ' { d with files := ydU n d.files }) := by
 apply k84_is.does (by simp); have hfew : rs.length ≤ 16 := (by have := hok.few; rw [← h.fl, List.length_map] at this; exact this); obtain ⟨fv, h1, h2⟩ := h.hd; have lf : yad Tryz.prog σ.objs 46 (.optr r 0) = some fv := (by rw [yab h1 GFS]; rfl); simp only [k84_a, WKV, Nat.reduceLT, Nat.reduceEqDiff, ↓reduceIte, reduceCtorEq, Nat.reduceAdd, Int.reduceLT, Int.reduceNeg, yac, gD0, gD1, ybd, rFA r 0 (by omega), lf, h2.len]; refine Ev.loopF (fun (i : Nat) e s => ∃ q', e 12 = .int .i64 (i : Nat) ∧ i ≤ rs.length ∧ KS [] σ s ∧ RRow s.objs (e 4) q' ((rs.take i).filter fun g => decide (g.f.name ≠ n)) ∧ ∀ z ∈ q'.toList, σ.objs.length ≤ z) (fun i => rs.length - i) 0 ⟨none, by simp [yaa], Nat.zero_le _, KS.refl _ _, by simp [yaa, RRow], fun z hz => by cases hz⟩ ?_; rintro i e s ⟨q', h12, hi, hk, h4, hq'⟩ hf; have h0 : e 0 = .optr r 0 := (hf 0 (by decide)).trans (by simp [yaa]); have h1' : e 1 = .str n := (hf 1 (by decide)).trans (by simp [yaa]); have h10 : e 10 = fv := (hf 10 (by decide)).trans (by simp [yaa]); have h11 : e 11 = .int .i64 (rs.length : Nat) := (hf 11 (by decide)).trans (by simp [yaa]); clear hf; have hokp : ∀ g ∈ (rs.take i).filter (fun g => decide (g.f.name ≠ n)), g.Ok := fun g hg => h.ok g (List.mem_of_mem_take (List.mem_filter.1 hg).1)
 have hlenp : ((rs.take i).filter fun g => decide (g.f.name ≠ n)).length ≤ 100 := by
   have e1 := List.length_filter_le (fun g : RE => decide (g.f.name ≠ n)) (rs.take i); have e3 : (rs.take i).length ≤ 16 := (by rw [List.length_take]; omega); omega
 by_cases hlt : i < rs.length
 · have hlt' : (i : Int) < rs.length := (by omega); have hwi : IntKind.i64.wrap ((i : Int) + 1) = ((i + 1 : Nat) : Int) := (by rw [show ((i : Int) + 1) = ((i + 1 : Nat) : Int) from by omega]; exact ya8 (by omega)); obtain ⟨ro, _, _, ha, hl⟩ := (h2.keep hk fun x _ => by simp).at hlt; obtain ⟨g, hg⟩ : ∃ g, g = rs[i] := ⟨_, rfl⟩; rw [← hg] at hl; have hgo := h.ok rs[i] (List.getElem_mem hlt); rw [← hg] at hgo; have htk : rs.take (i + 1) = rs.take i ++ [g] := (by rw [List.take_succ_eq_append_getElem hlt, hg]); obtain ⟨s1, hs1⟩ : ∃ s1 : St, s1 = ⟨s.objs ++ [.cells g.cells], s.toks⟩ := ⟨_, rfl⟩; have hst := ydd (σ := s) hgo; rw [← hs1] at hst; have K1 : KS [] s s1 := (by rw [hs1]; exact KS.push _ _ _); have ho : s1.objs[s.objs.length]? = some (.cells g.cells) := (by rw [hs1]; exact yap _ _); have hz : yah (V.agg [.str [], .nils, .nils]) = [.str [], .nils, .nils] := rfl; have R1 := h4.keep K1 fun x _ => by simp
   have lg : yad Tryz.prog s1.objs 9 (.optr s.objs.length 0) = some (.str g.f.name) := (by rw [yab ho G9]; rfl); have ag : yad Tryz.prog s1.objs 81 (.optr s.objs.length 0) = some (.agg g.cells) := yc3 ho GFi (by rw [SFi]; rfl); by_cases hne : g.f.name = n
   · simp only [k84_a, WKV, Nat.reduceLT, Nat.reduceEqDiff, ↓reduceIte, reduceCtorEq, Nat.reduceAdd, Int.reduceLT, Int.reduceNeg, yac, h12, h11, h10, h1', hlt', decide_true, decide_false, ha, hl, ZFi, ycn, hz, hst, ynQ, lg, sbN, hne, eq_self, hwi, Bool.not_true]; refine ⟨i + 1, ⟨q', by simp [yaa], by omega, hk.trans' K1, ?_, hq'⟩, by omega⟩; rw [htk, List.filter_append, List.filter_cons]; simpa [yaa, hne] using R1
   · obtain ⟨y, t1, v', q2, t2, p1, p2, p3, p4, p5⟩ := R1.push hokp hgo (by omega); have := (hk.trans' K1).le; simp only [k84_a, WKV, Nat.reduceLT, Nat.reduceEqDiff, ↓reduceIte, reduceCtorEq, Nat.reduceAdd, Int.reduceLT, Int.reduceNeg, yac, h12, h11, h10, h1', hlt', decide_true, decide_false, ha, hl, ZFi, ycn, hz, hst, ynQ, lg, sbN, hne, ag, p1, p2, hwi, Bool.not_false]; refine ⟨i + 1, ⟨q2, by simp [yaa], by omega, (hk.trans' K1).trans p4 fun x hx => .inr (hq' x hx), ?_, fun z hz => by have := p5 z hz; omega⟩, by omega⟩; rw [htk, List.filter_append, List.filter_cons]; simpa [yaa, hne] using p3
 · have hlt' : ¬ (i : Int) < rs.length := (by omega); have hall : rs.take i = rs := List.take_of_length_le (by omega); rw [hall] at h4 hokp; have hrl := h.lt r (by simp); have o := hk.ko r _ (by simp) h1; have hst := yag (off := 0) o SFS h4.one (by simp); simp only [k84_a, WKV, Nat.reduceLT, Nat.reduceEqDiff, ↓reduceIte, reduceCtorEq, Nat.reduceAdd, Int.reduceLT, Int.reduceNeg, yac, h0, h12, h11, hlt', decide_false, rFA r 0 (by omega), hst]; refine ⟨q', rs.filter fun g => decide (g.f.name ≠ n), ⟨⟨e 4, by simp only; exact yaM o, h4.keep (S := [r]) (KS.set (.inl (by simp)) _) fun z hz hz2 => ?_⟩, hokp, ?_, fun hz => ?_⟩, (hk.mono (fun x hx => by cases hx)).trans' (KS.set (.inl (by simp)) _), fun z hz => ?_⟩
   · rw [List.mem_singleton] at hz2; have := hq' z hz; omega
   · simp only; rw [← h.fl, ydU, List.filter_map]; rfl
   · have := hq' r hz; omega
   · rcases List.mem_cons.1 hz with rfl | hz
     · exact .inl (by simp)
     · exact .inr (hq' z hz)
theorem RRow.set {σ : St} {fv : V} {q : Option Nat} {rs : List RE} (h : RRow σ.objs fv q rs) {i : Nat} (hi : i < rs.length) {y : RE} (hy : y.Ok) : ∃ ro σ', q = some ro ∧ yai Tryz.prog 46 fv (.int .i64 (i : Int)) = some (.optr ro (i * 3)) ∧ yak Tryz.prog σ 81 (.optr ro (i * 3)) (.agg y.cells) = some σ' ∧ RRow σ'.objs fv q (rs.set i y) ∧ KS q.toList σ σ' ∧ σ'.objs.length = σ.objs.length := by
 obtain ⟨ro, hq, ho, ha, hl⟩ := h.at hi; have hle : i * 3 + 3 ≤ rs.length * 3 := (by omega); have hc : yah (.agg y.cells) = y.cells := rfl
 have hflat : ∀ (l : List RE) (i : Nat), i < l.length → ybq (ybt l) (i * 3) y.cells = ybt (l.set i y) := by
   intro l
   induction l with
   | nil => intro i hi; simp at hi
   | cons a l ih =>
     intro i hi
     cases i with
     | zero => simp [ybt, RE.cells, ybq]
     | succ i =>
       have h1 := ih i (by simpa using hi); rw [ydb _ _ _ (by rw [yb4, RE.cells_len]; simp at hi; omega)] at h1; rw [ydb _ _ _ (by rw [yb4, RE.cells_len]; simp at hi ⊢; omega)]; have e1 : (i + 1) * 3 = 3 + i * 3 := (by omega); have e2 : ybt (a :: l) = a.cells ++ ybt l := rfl; have e3 : a.cells.length = 3 := rfl; have t1 : (a.cells ++ ybt l).take (3 + i * 3) = a.cells ++ (ybt l).take (i * 3) := by rw [← e3, List.take_length_add_append]
       have t2 : (a.cells ++ ybt l).drop (3 + i * 3 + y.cells.length) = (ybt l).drop (i * 3 + y.cells.length) := by
         rw [show 3 + i * 3 + y.cells.length = a.cells.length + (i * 3 + y.cells.length) by rw [e3]; omega, List.drop_length_add_append]
       rw [e1, e2, t1, t2, List.set_cons_succ]; show _ = a.cells ++ ybt (l.set i y); rw [← h1]; simp [List.append_assoc]
 refine ⟨ro, ⟨σ.objs.set ro (.cells (ybt (rs.set i y))), σ.toks⟩, hq, ha, ?_, ?_, KS.set (.inl (by simp [hq])) _, by simp⟩
 · simp only [yak, ho, hc, RE.one hy, SFi, RE.cells_len, yb4]; rw [if_pos ⟨trivial, by omega, trivial⟩, hflat rs i hi]
 · rcases h with ⟨_, _, rfl⟩ | ⟨ro', e1, e2, e3⟩
   · simp at hi
   · rw [hq] at e2; injection e2 with e2; subst e2; exact .inr ⟨ro, by rw [List.length_set]; exact e1, hq, yaM ho⟩
theorem ynn (n : List UInt8) (s : V) (h : one s = true) : ydA Tryz.prog 81 [(0, .str n), (1, s)] = some (.agg [.str n, s, .nils]) := by
 cases s <;> first | (cases h; done) | kernel_rfl
theorem ym1 {σ : St} {r : Nat} {d : Dk} {q : Option Nat} {rs : List RE} {k : Int} (h : RefAt σ r d q rs) (hok : d.Ok) :
   ∃ p σ', Does Tryz.prog prims 21 [.optr r 0, .int .i64 k] σ p σ' ∧ (p = .ret (.tuple []) ∧ RNext σ r q σ' (ydG k d)) := by
 apply k21_is.does (by simp); have hfew : rs.length ≤ 16 := (by have := hok.few; rw [← h.fl, List.length_map] at this; exact this); obtain ⟨fv, h1, h2⟩ := h.hd; have lf : yad Tryz.prog σ.objs 46 (.optr r 0) = some fv := (by rw [yab h1 GFS]; rfl); have lo : yad Tryz.prog σ.objs 4 (.optr r 2) = some (.bool d.on) := by rw [yab h1 G4]; rfl
 cases hon : d.on with
 | false =>
   rw [hon] at lo; have e : ydG k d = d := (by simp [ydG, hon]); simp only [k21_a, WKV, Nat.reduceLT, Nat.reduceEqDiff, ↓reduceIte, reduceCtorEq, Nat.reduceAdd, Int.reduceLT, Int.reduceNeg, yac, gD0, gD1, rFA r 2 (by omega), lo, Bool.not_false, e]; exact RNext.refl h
 | true =>
   rw [hon] at lo
   have eO : ydG k d = { d with files := d.files.map (yjF k), on := false, armed := 0 } := by simp [ydG, hon]
   simp only [k21_a, WKV, Nat.reduceLT, Nat.reduceEqDiff, ↓reduceIte, reduceCtorEq, Nat.reduceAdd, Int.reduceLT, Int.reduceNeg, yac, gD0, gD1, rFA r 2 (by omega), rFA r 0 (by omega), lo, lf, h2.len, Bool.not_true]; have hsm : ∀ x ∈ rs, x.f.safe.length + x.f.wait.length ≤ 1048576 := fun x hx => hok.sm x.f (by rw [← h.fl]; exact List.mem_map_of_mem hx); refine Ev.loopF (fun (i : Nat) e s => ∃ ps : List RE, e 17 = .int .i64 (i : Nat) ∧ i ≤ rs.length ∧ KS q.toList σ s ∧ ps.length = i ∧ ps.map RE.f = ((rs.take i).map RE.f).map (yjF k) ∧ (∀ x ∈ ps, x.Ok) ∧ RRow s.objs fv q (ps ++ rs.drop i)) (fun i => rs.length - i) 0 ⟨[], by simp [yaa], Nat.zero_le _, KS.refl _ _, rfl, rfl, fun x hx => (by cases hx), by simpa using h2⟩ ?_; rintro i e s ⟨ps, h17, hi, hk, hpl, hpm, hpo, hR⟩ hf; have h0 : e 0 = .optr r 0 := (hf 0 (by decide)).trans (by simp [yaa]); have hk1 : e 1 = .int .i64 k := (hf 1 (by decide)).trans (by simp [yaa]); have h16 : e 16 = .int .i64 (rs.length : Nat) := (hf 16 (by decide)).trans (by simp [yaa]); clear hf; have hro : ∀ t : St, KS q.toList σ t → t.objs[r]? = some (.cells [fv, .int .i64 d.room, .bool d.on, .int .i64 (d.writes : Nat), .int .i64 (d.armed : Nat), .int .i64 d.keep]) := fun t ht => ht.ko _ _ h.ne h1; have lf2 : ∀ t : St, KS q.toList σ t → yad Tryz.prog t.objs 46 (.optr r 0) = some fv := fun t ht => by rw [yab (hro t ht) GFS]; rfl
   by_cases hlt : i < rs.length
   · have hlt' : (i : Int) < rs.length := (by omega); have hwi : IntKind.i64.wrap ((i : Int) + 1) = ((i + 1 : Nat) : Int) := (by rw [show ((i : Int) + 1) = ((i + 1 : Nat) : Int) from by omega]; exact ya8 (by omega)); have hil : i < (ps ++ rs.drop i).length := (by rw [List.length_append, List.length_drop]; omega); obtain ⟨ro, hq, _, ha, hl⟩ := hR.at hil; obtain ⟨g, hg⟩ : ∃ g, g = rs[i] := ⟨_, rfl⟩
     have hgi : (ps ++ rs.drop i)[i] = g := by
       rw [List.getElem_append_right (by omega)]; simp [hpl, hg]
     rw [hgi] at hl; have hgo := h.ok rs[i] (List.getElem_mem hlt); have hgs := hsm rs[i] (List.getElem_mem hlt); rw [← hg] at hgo hgs; obtain ⟨s1, hs1⟩ : ∃ s1 : St, s1 = ⟨s.objs ++ [.cells g.cells], s.toks⟩ := ⟨_, rfl⟩; have hst := ydd (σ := s) hgo; rw [← hs1] at hst; have K1 : KS [] s s1 := (by rw [hs1]; exact KS.push _ _ _); have L1 : s1.objs.length = s.objs.length + 1 := (by rw [hs1]; simp); have ho : s1.objs[s.objs.length]? = some (.cells g.cells) := (by rw [hs1]; exact yap _ _); have hz : yah (V.agg [.str [], .nils, .nils]) = [.str [], .nils, .nils] := rfl; have kN : KS q.toList σ s1 := hk.trans K1 fun x hx => by cases hx
     have hqlt : ∀ z ∈ q.toList, z < s.objs.length := hR.lt; simp only [k21_a, WKV, Nat.reduceLT, Nat.reduceEqDiff, ↓reduceIte, reduceCtorEq, Nat.reduceAdd, Int.reduceLT, Int.reduceNeg, yac, h0, h17, h16, hlt', decide_true, rFA r 0 (by omega), lf2 s hk, ha, hl, ZFi, ycn, hz, hst]; refine Ev.loopF (fun (j : Nat) e2 t => ∃ sv, e2 6 = .int .i64 (j : Nat) ∧ j ≤ min k.toNat g.f.wait.length ∧ KS [] s1 ⟨t.objs.set s.objs.length (.cells g.cells), t.toks⟩ ∧ t.objs[s.objs.length]? = some (.cells [.str g.f.name, sv, g.w]) ∧ BtsV sv (g.f.safe ++ g.f.wait.take j)) (fun j => min k.toNat g.f.wait.length - j) 0 ⟨g.s, by simp [yaa], Nat.zero_le _, ?_, by simpa [RE.cells] using ho, by simpa using hgo.1⟩ ?_
     · have : s1.objs.set s.objs.length (.cells g.cells) = s1.objs := yfY ho; rw [this]; exact KS.refl _ _
     rintro j e2 t ⟨sv, k6, hj, kt, kb, ksv⟩ hf2; have k0 : e2 0 = .optr r 0 := (hf2 0 (by decide)).trans (by simp [yaa, h0]); have k1 : e2 1 = .int .i64 k := (hf2 1 (by decide)).trans (by simp [yaa, hk1]); have k4 : e2 4 = .int .i64 (i : Nat) := (hf2 4 (by decide)).trans (by simp [yaa]); have k5 : e2 5 = .optr s.objs.length 0 := (hf2 5 (by decide)).trans (by simp [yaa]); have k16 : e2 16 = .int .i64 (rs.length : Nat) := (hf2 16 (by decide)).trans (by simp [yaa, h16]); have k17 : e2 17 = .int .i64 (i : Nat) := (hf2 17 (by decide)).trans (by simp [yaa, h17]); clear hf2; have ls : yad Tryz.prog t.objs 30 (.optr s.objs.length 1) = some sv := (by rw [yab kb pGB]; rfl); have lw : yad Tryz.prog t.objs 30 (.optr s.objs.length 2) = some g.w := (by rw [yab kb pGB]; rfl); have ln : yad Tryz.prog t.objs 9 (.optr s.objs.length 0) = some (.str g.f.name) := (by rw [yab kb G9]; rfl); have hlenle : s.objs.length < t.objs.length := (gA0.1 kb).1
     have kts : KS [s.objs.length] s1 t := by
       refine ⟨fun p o hp ho => ?_, ?_, kt.tl, kt.tk⟩
       · have := kt.ko p o (by simp) ho; simp only at this; rw [List.mem_singleton] at hp
         rwa [gA3 (Ne.symm hp)] at this
       · have := kt.le; simpa using this
     have kσt : KS q.toList σ t := kN.trans kts fun x hx => .inr (by rw [List.mem_singleton] at hx; have := hk.le; omega); have hRt : RRow t.objs fv q (ps ++ rs.drop i) := hR.keep (K1.trans kts fun x hx => .inr (by rw [List.mem_singleton] at hx; omega)) fun x _ => by simp
     by_cases hjw : j < g.f.wait.length ∧ j < k.toNat
     · obtain ⟨hjw1, hjw2⟩ := hjw; have hc1 : (j : Int) < (g.f.wait.length : Nat) := (by omega); have hc2 : (j : Int) < k := (by omega); have hwj : IntKind.i64.wrap ((j : Int) + 1) = ((j + 1 : Nat) : Int) := (by rw [show ((j : Int) + 1) = ((j + 1 : Nat) : Int) from by omega]; exact ya8 (by omega)); obtain ⟨b, hb⟩ : ∃ b, b = g.f.wait[j] := ⟨_, rfl⟩; obtain ⟨v1, t1, v2, t2, c1, c2, c3, c4, c5, c6, c7, c8⟩ := ymS (σ := t) (v := sv) (w := .slice .exact 1 [yal b] 1) (bs := g.f.safe ++ g.f.wait.take j) (ys := [b]) (.inl ksv) (.inl (.inr ⟨_, rfl⟩)) (by simp; omega); have lw1 : yad Tryz.prog t1.objs 30 (.optr s.objs.length 2) = some g.w := (by rw [c7]; exact lw); have ha2 := hgo.2.addr T22 S5 (k := .i64) (n := (j : Int)) (by omega) hc1; rw [Int.toNat_natCast] at ha2; have hlb : ∀ O : List Ob, yad Tryz.prog O 5 (.eptr (g.f.wait.map yal) j) = some (.int .u8 (g.f.wait[j].toNat : Nat)) := fun O => BtsV.load (P := Tryz.prog) (objs := O) G5 hjw1; have hfb : yas Tryz.prog 30 1 [(0, .int .u8 (g.f.wait[j].toNat : Nat))] = some (.slice .exact 1 [yal b] 1) := (by rw [hb]; exact fb1 _); have kb2 : t2.objs[s.objs.length]? = some (.cells [.str g.f.name, sv, g.w]) := (by rw [c8]; exact kb); obtain ⟨t3, ht3⟩ : ∃ t3 : St, t3 = ⟨t2.objs.set s.objs.length (.cells [.str g.f.name, v2, g.w]), t2.toks⟩ := ⟨_, rfl⟩; have hs3 : yak Tryz.prog t2 30 (.optr s.objs.length 1) v2 = some t3 := (by rw [yag kb2 SBB c4.one (by simp), ht3]; rfl); simp only [k21_a, WKV, Nat.reduceLT, Nat.reduceEqDiff, ↓reduceIte, reduceCtorEq, Nat.reduceAdd, Int.reduceLT, Int.reduceNeg, yac, k6, k5, k1, yjW, ykO, Nat.zero_add, lw, hgo.2.len T22, hc1, hc2, decide_true, fb0, ls, c1, lw1, ha2, hlb, hfb, c2, hs3, hwj]; refine ⟨j + 1, ⟨v2, by simp [yaa], by omega, ⟨fun p o hp ho => ?_, ?_, ?_, ?_⟩, by rw [ht3]; exact yaM kb2, ?_⟩, by omega⟩
       · have := kt.ko p o hp ho; rw [ht3]; simp only [List.set_set, c8] at this ⊢; exact this
       · have := kt.le; rw [ht3]; simp only [List.length_set, c8] at this ⊢; exact this
       · rw [ht3]; exact Nat.le_trans kt.tl c6.tl
       · intro z hz; rw [ht3]; exact c6.tk z (kt.tk z hz)
       · rw [List.take_succ_eq_append_getElem hjw1, ← List.append_assoc, ← hb]; exact c4
     · have htake : g.f.wait.take j = g.f.wait.take k.toNat := by
         have hm : j = min k.toNat g.f.wait.length := (by omega); rw [hm, ← List.take_take, List.take_length]
       rw [htake] at ksv; obtain ⟨y, hy⟩ : ∃ y : RE, y = ⟨⟨g.f.name, g.f.safe ++ g.f.wait.take k.toNat, []⟩, sv, .nils⟩ := ⟨_, rfl⟩; have hyo : y.Ok := (by rw [hy]; exact ⟨ksv, .inl ⟨rfl, rfl⟩⟩); have hyc : y.cells = [.str g.f.name, sv, .nils] := (by rw [hy]; rfl); obtain ⟨ro2, t4, hq2, ha3, hs4, hR4, K4, L4⟩ := hRt.set hil hyo; rw [hyc] at hs4
       have hps : (ps ++ rs.drop i).set i y = (ps ++ [y]) ++ rs.drop (i + 1) := by
         rw [List.set_append_right _ _ (by omega), hpl, Nat.sub_self, List.drop_eq_getElem_cons hlt, List.set_cons_zero, List.append_assoc]; rfl
       rw [hps] at hR4
       have fin : ∃ ps' : List RE, KS q.toList σ t4 ∧ ps'.length = i + 1 ∧ ps'.map RE.f = ((rs.take (i + 1)).map RE.f).map (yjF k) ∧ (∀ x ∈ ps', x.Ok) ∧ RRow t4.objs fv q (ps' ++ rs.drop (i + 1)) := by
         refine ⟨ps ++ [y], kσt.trans' K4, by simp [hpl], ?_, fun x hx => ?_, hR4⟩
         · rw [List.take_succ_eq_append_getElem hlt, List.map_append, List.map_append, List.map_append, hpm, ← hg, hy]; rfl
         · rcases List.mem_append.1 hx with h | h
           · exact hpo x h
           · rw [List.mem_singleton] at h; subst h; exact hyo
       obtain ⟨ps', m1, m2, m3, m4, m5⟩ := fin; have hbl := ynn g.f.name sv ksv.one; by_cases hjw1 : j < g.f.wait.length
       · have hc1 : (j : Int) < (g.f.wait.length : Nat) := (by omega); have hc2 : ¬ (j : Int) < k := (by omega); simp only [k21_a, WKV, Nat.reduceLT, Nat.reduceEqDiff, ↓reduceIte, reduceCtorEq, Nat.reduceAdd, Int.reduceLT, Int.reduceNeg, yac, k6, k5, k4, k1, k0, k16, k17, yjW, ykO, ynQ, Nat.zero_add, lw, ls, ln, hgo.2.len T22, hc1, hc2, decide_true, decide_false, rFA r 0 (by omega), lf2 t kσt, hbl, ha3, hs4, hwi]; exact ⟨i + 1, ⟨ps', by simp [yaa], by omega, m1, m2, m3, m4, m5⟩, by omega⟩
       · have hc1 : ¬ (j : Int) < (g.f.wait.length : Nat) := (by omega); simp only [k21_a, WKV, Nat.reduceLT, Nat.reduceEqDiff, ↓reduceIte, reduceCtorEq, Nat.reduceAdd, Int.reduceLT, Int.reduceNeg, yac, k6, k5, k4, k1, k0, k16, k17, yjW, ykO, ynQ, Nat.zero_add, lw, ls, ln, hgo.2.len T22, hc1, decide_true, decide_false, rFA r 0 (by omega), lf2 t kσt, hbl, ha3, hs4, hwi]; exact ⟨i + 1, ⟨ps', by simp [yaa], by omega, m1, m2, m3, m4, m5⟩, by omega⟩
   · have hlt' : ¬ (i : Int) < rs.length := (by omega); have hall : rs.take i = rs := List.take_of_length_le (by omega); have hdr : rs.drop i = [] := List.drop_of_length_le (by omega); rw [hall] at hpm; rw [hdr, List.append_nil] at hR; have o := hro s hk; obtain ⟨s1, hs1⟩ : ∃ s1 : St, s1 = ⟨s.objs.set r (.cells [fv, .int .i64 d.room, .bool false, .int .i64 (d.writes : Nat), .int .i64 (d.armed : Nat), .int .i64 d.keep]), s.toks⟩ := ⟨_, rfl⟩; have st1 : yak Tryz.prog s 4 (.optr r 2) (.bool false) = some s1 := (by rw [yag o S4 rfl (by simp), hs1]; rfl); have o1 : s1.objs[r]? = some (.cells [fv, .int .i64 d.room, .bool false, .int .i64 (d.writes : Nat), .int .i64 (d.armed : Nat), .int .i64 d.keep]) := (by rw [hs1]; exact yaM o); obtain ⟨s2, hs2⟩ : ∃ s2 : St, s2 = ⟨s1.objs.set r (.cells [fv, .int .i64 d.room, .bool false, .int .i64 (d.writes : Nat), .int .i64 0, .int .i64 d.keep]), s1.toks⟩ := ⟨_, rfl⟩; have st2 : yak Tryz.prog s1 3 (.optr r 4) (.int .i64 0) = some s2 := (by rw [yag o1 S3 rfl (by simp), hs2]; rfl); have K1 : KS [r] s s1 := (by rw [hs1]; exact KS.set (.inl (by simp)) _); have K2 : KS [r] s1 s2 := (by rw [hs2]; exact KS.set (.inl (by simp)) _); have hrq : ∀ z ∈ q.toList, z ∉ [r] := fun z hz hz2 => h.ne (by rw [List.mem_singleton] at hz2; rw [← hz2]; exact hz); simp only [k21_a, WKV, Nat.reduceLT, Nat.reduceEqDiff, ↓reduceIte, reduceCtorEq, Nat.reduceAdd, Int.reduceLT, Int.reduceNeg, yac, h0, h17, h16, hlt', decide_false, rFA r 2 (by omega), rFA r 4 (by omega), st1, st2, eO]; refine ⟨q, ps, ⟨⟨fv, by rw [hs2]; exact yaM o1, (hR.keep K1 hrq).keep K2 hrq⟩, hpo, ?_, h.ne⟩, ?_, fun x hx => .inl hx⟩
     · simp only; rw [hpm, h.fl]
     · refine (hk.mono fun x hx => .inl (List.mem_cons_of_mem _ hx)).trans' ((K1.trans' K2).mono fun x hx => .inl (by rw [List.mem_singleton] at hx; subst hx; simp))
theorem ynS (σ : St) (n : Int) : ∃ σ', Does Tryz.prog prims 8 [.int .i64 n] σ (.ret (.optr σ.objs.length 0)) σ' ∧ RefAt σ' σ.objs.length (ylN n) none [] ∧ KS [] σ σ' := by
 have key : ∃ p σ', Does Tryz.prog prims 8 [.int .i64 n] σ p σ' ∧ (p = .ret (.optr σ.objs.length 0) ∧ RefAt σ' σ.objs.length (ylN n) none [] ∧ KS [] σ σ') := by
   apply k8_is.does (by simp); have hb : ydA Tryz.prog 48 [(1, .int .i64 n), (2, .bool true)] = some (.agg [.nils, .int .i64 n, .bool true, .int .i64 0, .int .i64 0, .int .i64 0]) := (by kernel_rfl); simp only [k8_a, WKV, Nat.reduceLT, Nat.reduceEqDiff, ↓reduceIte, reduceCtorEq, Nat.reduceAdd, Int.reduceLT, Int.reduceNeg, yac, gD0, gD1, yaJ, hb, ycn, yah]; exact ⟨⟨⟨.nils, yap _ _, .inl ⟨rfl, rfl, rfl⟩⟩, fun x hx => (by cases hx), rfl, by simp⟩, KS.push _ _ _⟩
 obtain ⟨p, σ', h1, rfl, h2⟩ := key; exact ⟨σ', h1, h2⟩
theorem RefAt.get_no {σ : St} {r : Nat} {d : Dk} {q : Option Nat} {rs : List RE} (h : RefAt σ r d q rs) {n : List UInt8} (hn : ∀ x ∈ rs, x.f.name ≠ n) : yc7 d.files n = none := by
 rw [← h.fl]; unfold yc7; rw [List.find?_eq_none]; intro f hf; obtain ⟨x, hx, rfl⟩ := List.mem_map.1 hf; simp [hn x hx]
theorem RefAt.get_yes {σ : St} {r : Nat} {d : Dk} {q : Option Nat} {rs : List RE} (h : RefAt σ r d q rs) (hok : d.Ok) {n : List UInt8} {i : Nat} (hi : i < rs.length) (hn : rs[i].f.name = n) : yc7 d.files n = some rs[i].f := by
 rw [← hn]; exact ylb hok.nodup (by rw [← h.fl]; exact List.mem_map_of_mem (List.getElem_mem hi))
theorem RefAt.few {σ : St} {r : Nat} {d : Dk} {q : Option Nat} {rs : List RE} (h : RefAt σ r d q rs) (hok : d.Ok) : rs.length ≤ 16 ∧ rs.length = d.files.length := by
 have h1 := congrArg List.length h.fl; have h2 := hok.few; rw [List.length_map] at h1; omega
theorem you {σ : St} {r : Nat} {d : Dk} {q : Option Nat} {rs : List RE} {x : RE} (h : RefAt σ r d q rs) (hok : d.Ok) (hx : x.Ok) : ∃ σ', Does Tryz.prog prims 44 [.optr r 0, .agg x.cells] σ (.ret (.tuple [])) σ' ∧ RNext σ r q σ' { d with files := ycy x.f d.files } := by
 obtain ⟨p, σ', h1, rfl, h2⟩ := ymV h hok hx; exact ⟨σ', h1, h2⟩
theorem ylT {σ : St} {r : Nat} {d : Dk} {q : Option Nat} {rs : List RE} {n : List UInt8} (h : RefAt σ r d q rs) (hok : d.Ok) : ∃ σ', Does Tryz.prog prims 84 [.optr r 0, .str n] σ (.ret (.tuple [])) σ' ∧ RNext σ r q σ' { d with files := ydU n d.files } := by
 obtain ⟨p, σ', h1, rfl, h2⟩ := yl1 (n := n) h hok; exact ⟨σ', h1, h2⟩
theorem yg2 {σ : St} {r : Nat} {d : Dk} {q : Option Nat} {rs : List RE} (k : Int) (h : RefAt σ r d q rs) (hok : d.Ok) : ∃ σ', Does Tryz.prog prims 21 [.optr r 0, .int .i64 k] σ (.ret (.tuple [])) σ' ∧ RNext σ r q σ' (ydG k d) := by
 obtain ⟨p, σ', h1, rfl, h2⟩ := ym1 (k := k) h hok; exact ⟨σ', h1, h2⟩
theorem yfW {σ : St} {r : Nat} {d : Dk} {q : Option Nat} {rs : List RE} (h : RefAt σ r d q rs) (hok : d.Ok) (hw : d.writes < 4611686018427387904) :
   ∃ σ1, Does Tryz.prog prims 45 [.optr r 0] σ (.ret (.bool (ybj d).1)) σ1 ∧ RefAt σ1 r (ybj d).2 q rs ∧ KS (r :: q.toList) σ σ1 ∧ yad Tryz.prog σ1.objs 3 (.optr r 5) = some (.int .i64 d.keep) ∧
     ∃ σ2, Does Tryz.prog prims 21 [.optr r 0, .int .i64 d.keep] σ1 (.ret (.tuple [])) σ2 ∧ RNext σ r q σ2 (ydG d.keep (ybj d).2) := by
 obtain ⟨σ1, h1, h2, h3⟩ := ynq h hok hw; obtain ⟨σ2, h5, h6⟩ := yg2 d.keep h2 hok.raw; obtain ⟨fv, g1, g2⟩ := h2.hd; refine ⟨σ1, h1, h2, h3, by rw [yab g1 G3, (ybm d).2.1]; rfl, σ2, h5, RNext.trans h3 (fun x hx => .inl hx) h6⟩
theorem yfF {σ : St} {r : Nat} {d : Dk} {q : Option Nat} {rs : List RE} {v : V} {n bs : List UInt8} (h : RefAt σ r d q rs) (hok : d.Ok) (hw : d.writes < 4611686018427387904) (hb : RB σ v bs) (hbl : bs.length ≤ 1000000000) :
   ∃ p σ', Does Tryz.prog prims 10 [.optr r 0, .str n, v] σ p σ' ∧ (p = .ret (.int .i64 ((yaf n bs d).1 : Nat)) ∧ RNext σ r q σ' (yaf n bs d).2) := by
 apply k10_is.does (by simp); simp only [k10_a, WKV, Nat.reduceLT, Nat.reduceEqDiff, ↓reduceIte, reduceCtorEq, Nat.reduceAdd, Int.reduceLT, Int.reduceNeg, yac, gD0, gD1]; refine KD.ret (ycC h n) ?_; by_cases hr : yaw d n = 0
 · have hr' : ((yaw d n : Nat) : Int) = 0 := (by omega); have hn0 : ¬ yaw d n ≠ 0 := fun h => h hr; have hname := (ycI hr).1; obtain ⟨hfew, hfl⟩ := h.few hok
   have tail : ∀ (e : Nat → V) (s : St) (x : RE) (bx : Nat) (iv : Int), e 0 = .optr r 0 → e 2 = v → e 8 = .int .i64 iv → e 9 = .optr bx 0 → KS [] σ s → s.objs[bx]? = some (.cells x.cells) → σ.objs.length ≤ bx → x.Ok → x.f = (yc7 d.files n).getD ⟨n, [], []⟩ → x.f.name = n → (iv < 0 ↔ (yc7 d.files n).isNone = true) →
       Ev Tryz.prog prims 81 (((CC.region k10_r8).seq (CC.cond (.tmp 40) ((CC.region k10_r9).seq CC.ret) CC.skip)).seq
           ((k10_r10.seq (CC.cond (.tmp 62) ((CC.region k10_r11).seq CC.ret) CC.skip)).seq
             ((CC.region k10_r12).seq
               ((CC.region k10_r13).seq
                 (((CC.region k10_r14).seq
                       (CC.cond (.tmp 74) ((CC.region k10_r15).seq ((CC.region k10_r16).seq CC.ret))
                         CC.skip)).seq
                   ((CC.region k10_r17).seq CC.ret)))))) e s (fnK Tryz.prog 81 [ResultVar.tmp 6] fun r_1 σ' =>
       r_1 = VRes.ret (V.int IntKind.i64 ((yaf n bs d).1 : Nat)) ∧ RNext σ r q σ' (yaf n bs d).2) := by
     intro e s x bx iv h0 h2 h8 h9 K hob hbx hx hxf hxn hiv; have Rs : RefAt s r d q rs := h.keep K fun x _ => by simp
     obtain ⟨fv, o, hR⟩ := Rs.hd; have hbs := hb.ks K fun q hq => by cases hq
     have lfv : yad Tryz.prog s.objs 46 (.optr r 0) = some fv := (by rw [yab o GFS]; rfl); have lrm : yad Tryz.prog s.objs 3 (.optr r 1) = some (.int .i64 d.room) := (by rw [yab o G3]; rfl); have ls : yad Tryz.prog s.objs 30 (.optr bx 1) = some x.s := (by rw [yab hob pGB]; rfl); have lw : yad Tryz.prog s.objs 30 (.optr bx 2) = some x.w := by rw [yab hob pGB]; rfl
     have hxl : x.f.len ≤ 1048576 := by
       rw [hxf]
       cases hg : yc7 d.files n with
       | none => simp [Fl.len]
       | some f => exact (hok.get hg).2.2.2
     simp only [Fl.len] at hxl; have w1 : IntKind.i64.wrap ((x.f.safe.length : Int) + (x.f.wait.length : Nat)) = ((x.f.safe.length + x.f.wait.length : Nat) : Int) := (by rw [yae (by omega) (by omega)]; omega); have w2 : IntKind.i64.wrap (((x.f.safe.length + x.f.wait.length : Nat) : Int) + (bs.length : Nat)) = ((x.f.safe.length + x.f.wait.length + bs.length : Nat) : Int) := (by rw [yae (by omega) (by omega)]; omega); by_cases hbig : 1048576 < x.f.safe.length + x.f.wait.length + bs.length
     · have hbig' : (1048576 : Int) < ((x.f.safe.length + x.f.wait.length + bs.length : Nat) : Int) := (by omega); have e1 : yaf n bs d = (3, d) := (by unfold yaf; rw [if_neg hn0]; simp only; rw [if_pos (by rw [← hxf]; exact hbig)]); simp only [k10_a, WKV, Nat.reduceLT, Nat.reduceEqDiff, ↓reduceIte, reduceCtorEq, Nat.reduceAdd, Int.reduceLT, Int.reduceNeg, yac, h9, h2, ykO, yjW, Nat.zero_add, ls, lw, hx.1.len T22, hx.2.len T22, hbs.len, w1, w2, hbig', decide_true, e1]; exact ⟨rfl, RNext.only h K⟩
     · have hbig' : ¬ (1048576 : Int) < ((x.f.safe.length + x.f.wait.length + bs.length : Nat) : Int) := (by omega); have hbig2 : ¬ 1048576 < ((yc7 d.files n).getD ⟨n, [], []⟩).len + bs.length := (by rw [← hxf]; exact hbig); obtain ⟨p, s2, hsz, rfl, K2⟩ := yl0 Rs hok; have Rs2 : RefAt s2 r d q rs := Rs.keep K2 fun x _ => by simp
       have lfv2 : yad Tryz.prog s2.objs 46 (.optr r 0) = some fv := (by rw [yab (K2.ko _ _ (by simp) o) GFS]; rfl); have lrm2 : yad Tryz.prog s2.objs 3 (.optr r 1) = some (.int .i64 d.room) := (by rw [yab (K2.ko _ _ (by simp) o) G3]; rfl); have hszl := yfS hok; have w3 : IntKind.i64.wrap (((ydC d.files : Nat) : Int) + (bs.length : Nat)) = ((ydC d.files + bs.length : Nat) : Int) := by rw [yae (by omega) (by omega)]; omega
       have efull : ((yc7 d.files n).isNone = true ∧ 16 ≤ d.files.length) ∨ d.room < ((ydC d.files + bs.length : Nat) : Int) → yaf n bs d = (22, d) := fun hf => by
         unfold yaf; rw [if_neg hn0]; simp only; rw [if_neg hbig2, if_pos hf]
       -- behind the checks
       have rest : ∀ (e : Nat → V) (s : St), e 0 = .optr r 0 → e 2 = v → e 9 = .optr bx 0 → KS [] σ s → s.objs[bx]? = some (.cells x.cells) → (¬ (((yc7 d.files n).isNone = true ∧ 16 ≤ d.files.length) ∨ d.room < ((ydC d.files + bs.length : Nat) : Int))) →
           Ev Tryz.prog prims 81 ((CC.region k10_r12).seq
               ((CC.region k10_r13).seq
                 (((CC.region k10_r14).seq
                       (CC.cond (.tmp 74) ((CC.region k10_r15).seq ((CC.region k10_r16).seq CC.ret))
                         CC.skip)).seq
                   ((CC.region k10_r17).seq CC.ret)))) e s (fnK Tryz.prog 81 [ResultVar.tmp 6] fun r_1 σ' =>
       r_1 = VRes.ret (V.int IntKind.i64 ((yaf n bs d).1 : Nat)) ∧ RNext σ r q σ' (yaf n bs d).2) := by
         intro e s h0 h2 h9 K hob hnf; have Rs : RefAt s r d q rs := h.keep K fun x _ => by simp
         have hbs := hb.ks K fun q hq => by cases hq
         have lw : yad Tryz.prog s.objs 30 (.optr bx 2) = some x.w := (by rw [yab hob pGB]; rfl); obtain ⟨v1, t1, v2, t2, c1, c2, c3, c4, c5, c6, c7, c8⟩ := ymS (σ := s) (v := x.w) (w := v) (.inl hx.2) hbs (by omega); have hob2 : t2.objs[bx]? = some (.cells x.cells) := (by rw [c8]; exact hob); obtain ⟨y, hy⟩ : ∃ y : RE, y = ⟨⟨n, x.f.safe, x.f.wait ++ bs⟩, x.s, v2⟩ := ⟨_, rfl⟩; have hyo : y.Ok := (by rw [hy]; exact ⟨hx.1, c4⟩); obtain ⟨t3, ht3⟩ : ∃ t3 : St, t3 = ⟨t2.objs.set bx (.cells y.cells), t2.toks⟩ := ⟨_, rfl⟩
         have hs3 : yak Tryz.prog t2 30 (.optr bx 2) v2 = some t3 := by
           rw [yag hob2 SBB c4.one (by simp [RE.cells]), ht3, hy]; simp only [RE.cells, hxn]; rfl
         have ob3 : t3.objs[bx]? = some (.cells y.cells) := (by rw [ht3]; exact yaM hob2); have ay : yad Tryz.prog t3.objs 81 (.optr bx 0) = some (.agg y.cells) := yc3 ob3 GFi (by rw [SFi]; rfl); have K3 : KS [] σ t3 := (K.trans' c6).trans (KS.set (S := [bx]) (.inl (by simp)) _ : KS [bx] t2 ⟨t2.objs.set bx (.cells y.cells), t2.toks⟩) (fun x hx => .inr (by rw [List.mem_singleton] at hx; omega)) |> fun k => by rw [ht3]; exact k
         have R3 : RefAt t3 r d q rs := h.keep K3 fun x _ => by simp
         obtain ⟨t4, hput, q4, rs4, R4, K4, I4⟩ := you R3 hok hyo; obtain ⟨d2, hd2⟩ : ∃ d2 : Dk, d2 = { d with files := ycy y.f d.files } := ⟨_, rfl⟩; rw [← hd2] at R4
         have ok2 : d2.Ok := by
           rw [hd2]; refine hok.put (by rw [hy]; exact hname) (by rw [hy]; simp only [Fl.len, List.length_append]; omega) fun hno => ?_; have hno' : (yc7 d.files n).isNone = true := (by rw [hy] at hno; exact hno); have : ¬ 16 ≤ d.files.length := fun h => hnf (.inl ⟨hno', h⟩); omega
         obtain ⟨t5, r1, R5, K5, lk, t6, r5, r6⟩ := yfW R4 ok2 (by rw [hd2]; exact hw); have hkp : d2.keep = d.keep := by rw [hd2]
         have ed : yaf n bs d = if (ybj d2).1 = true then (20, ydG d.keep (ybj d2).2) else (0, (ybj d2).2) := by
           unfold yaf; rw [if_neg hn0]; simp only; rw [if_neg hbig2, if_neg hnf, ← hxf, hd2, hy]
         have toσ : ∀ (u : St) (d' : Dk), RNext t4 r q4 u d' → RNext σ r q u d' := fun u d' hN =>
           RNext.trans ((K3.mono fun x hx => by cases hx).trans' K4) (fun z hz => by
             have := K3.le; rcases I4 z hz with h | h
             · exact .inl h
             · exact .inr (by omega)) hN
         rw [ed]; simp only [k10_a, WKV, Nat.reduceLT, Nat.reduceEqDiff, ↓reduceIte, reduceCtorEq, Nat.reduceAdd, Int.reduceLT, Int.reduceNeg, yac, h9, h2, h0, fb0, yjW, Nat.zero_add, lw, c1, c2, hs3, ay]; refine KD.ret hput ?_; simp only [k10_a, WKV, Nat.reduceLT, Nat.reduceEqDiff, ↓reduceIte, reduceCtorEq, Nat.reduceAdd, Int.reduceLT, Int.reduceNeg, yac, h0]; refine KD.ret r1 ?_
         cases hgo : (ybj d2).1 with
         | true =>
           simp only [k10_a, WKV, Nat.reduceLT, Nat.reduceEqDiff, ↓reduceIte, reduceCtorEq, Nat.reduceAdd, Int.reduceLT, Int.reduceNeg, yac, h0, rFA r 5 (by omega), lk]; refine KD.ret r5 ?_; simp only [k10_a, WKV, Nat.reduceLT, Nat.reduceEqDiff, ↓reduceIte, reduceCtorEq, Nat.reduceAdd, Int.reduceLT, Int.reduceNeg, yac, if_true]; rw [hkp] at r6; exact ⟨rfl, toσ _ _ r6⟩
         | false =>
           simp only [k10_a, WKV, Nat.reduceLT, Nat.reduceEqDiff, ↓reduceIte, reduceCtorEq, Nat.reduceAdd, Int.reduceLT, Int.reduceNeg, yac, h0, Bool.false_eq_true, if_false]; exact ⟨rfl, toσ _ _ ⟨q4, rs4, R5, K5, fun x hx => .inl hx⟩⟩
       generalize hC : CC.seq (CC.region k10_r12) _ = C12; by_cases hneg : iv < 0
       · have hno := hiv.1 hneg; by_cases hmany : 16 ≤ d.files.length
         · have hmany' : (16 : Int) ≤ (rs.length : Nat) := (by omega); simp only [k10_a, WKV, Nat.reduceLT, Nat.reduceEqDiff, ↓reduceIte, reduceCtorEq, Nat.reduceAdd, Int.reduceLT, Int.reduceNeg, yac, h9, h8, h2, h0, ykO, yjW, Nat.zero_add, ls, lw, hx.1.len T22, hx.2.len T22, hbs.len, w1, w2, hbig', decide_false, hneg, decide_true, rFA r 0 (by omega), lfv, hR.len, hmany', efull (.inl ⟨hno, hmany⟩)]; exact ⟨fun h => (by simp [yby, yaa] at h), rfl, RNext.only h K⟩
         · have hmany' : ¬ (16 : Int) ≤ (rs.length : Nat) := (by omega); simp only [k10_a, WKV, Nat.reduceLT, Nat.reduceEqDiff, ↓reduceIte, reduceCtorEq, Nat.reduceAdd, Int.reduceLT, Int.reduceNeg, yac, h9, h8, h2, h0, ykO, yjW, Nat.zero_add, ls, lw, hx.1.len T22, hx.2.len T22, hbs.len, w1, w2, hbig', decide_false, hneg, decide_true, rFA r 0 (by omega), lfv, hR.len, hmany']; refine KD.ret hsz ?_; by_cases hfull : d.room < ((ydC d.files + bs.length : Nat) : Int)
           · simp only [k10_a, WKV, Nat.reduceLT, Nat.reduceEqDiff, ↓reduceIte, reduceCtorEq, Nat.reduceAdd, Int.reduceLT, Int.reduceNeg, yac, h9, h8, h2, h0, hbs.len, rFA r 0 (by omega), rFA r 1 (by omega), lrm, lrm2, lfv, lfv2, hR.len, w3, hfull, decide_true, efull (.inr hfull)]; exact ⟨rfl, RNext.only h (K.trans' K2)⟩
           · simp only [k10_a, WKV, Nat.reduceLT, Nat.reduceEqDiff, ↓reduceIte, reduceCtorEq, Nat.reduceAdd, Int.reduceLT, Int.reduceNeg, yac, h9, h8, h2, h0, hbs.len, rFA r 0 (by omega), rFA r 1 (by omega), lrm, lrm2, lfv, lfv2, hR.len, w3, hfull, decide_false]; rw [← hC]; exact rest _ _ (by simp [yaa, h0]) (by simp [yaa, h2]) (by simp [yaa, h9]) (K.trans' K2) (K2.ko _ _ (by simp) hob) (fun h => h.elim (fun h => hmany h.2) hfull)
       · have hno : ¬ (yc7 d.files n).isNone = true := fun h => hneg (hiv.2 h); simp only [k10_a, WKV, Nat.reduceLT, Nat.reduceEqDiff, ↓reduceIte, reduceCtorEq, Nat.reduceAdd, Int.reduceLT, Int.reduceNeg, yac, h9, h8, h2, h0, ykO, yjW, Nat.zero_add, ls, lw, hx.1.len T22, hx.2.len T22, hbs.len, w1, w2, hbig', decide_false, hneg, decide_true, rFA r 0 (by omega), lfv, hR.len]; refine KD.ret hsz ?_; by_cases hfull : d.room < ((ydC d.files + bs.length : Nat) : Int)
         · simp only [k10_a, WKV, Nat.reduceLT, Nat.reduceEqDiff, ↓reduceIte, reduceCtorEq, Nat.reduceAdd, Int.reduceLT, Int.reduceNeg, yac, h9, h8, h2, h0, hbs.len, rFA r 0 (by omega), rFA r 1 (by omega), lrm, lrm2, lfv, lfv2, hR.len, w3, hfull, decide_true, efull (.inr hfull)]; exact ⟨rfl, RNext.only h (K.trans' K2)⟩
         · simp only [k10_a, WKV, Nat.reduceLT, Nat.reduceEqDiff, ↓reduceIte, reduceCtorEq, Nat.reduceAdd, Int.reduceLT, Int.reduceNeg, yac, h9, h8, h2, h0, hbs.len, rFA r 0 (by omega), rFA r 1 (by omega), lrm, lrm2, lfv, lfv2, hR.len, w3, hfull, decide_false]; rw [← hC]; exact rest _ _ (by simp [yaa, h0]) (by simp [yaa, h2]) (by simp [yaa, h9]) (K.trans' K2) (K2.ko _ _ (by simp) hob) (fun h => h.elim (fun h => hno h.1) hfull)
   simp only [k10_a, WKV, Nat.reduceLT, Nat.reduceEqDiff, ↓reduceIte, reduceCtorEq, Nat.reduceAdd, Int.reduceLT, Int.reduceNeg, yac, hr']; obtain ⟨p, σ1, ha, K1, hp⟩ := ye2 h (by omega) n; have R1 : RefAt σ1 r d q rs := h.keep K1 fun x _ => by simp
   obtain ⟨fv, o1, hR1⟩ := R1.hd; have hbf : ydA Tryz.prog 81 [(0, .str n)] = some (.agg [.str n, .nils, .nils]) := (by kernel_rfl); have hz : yah (V.agg [.str [], .nils, .nils]) = [.str [], .nils, .nils] := rfl; have hx0 : (⟨⟨n, [], []⟩, .nils, .nils⟩ : RE).Ok := ⟨.inl ⟨rfl, rfl⟩, .inl ⟨rfl, rfl⟩⟩; obtain ⟨s1, hs1⟩ : ∃ s1 : St, s1 = ⟨σ1.objs ++ [.cells [.str n, .nils, .nils]], σ1.toks⟩ := ⟨_, rfl⟩; have hst := ydd (σ := σ1) hx0; simp only [RE.cells] at hst; rw [← hs1] at hst; have Ks : KS [] σ1 s1 := (by rw [hs1]; exact KS.push _ _ _); have ob1 : s1.objs[σ1.objs.length]? = some (.cells [.str n, .nils, .nils]) := (by rw [hs1]; exact yap _ _); generalize hC8 : CC.seq (CC.seq (CC.region k10_r8) _) _ = C8; rcases hp with ⟨rfl, hno⟩ | ⟨i, hi, rfl, hnm⟩
   · have hg := h.get_no hno; refine KD.ret ha ?_; have hneg : ¬ (0 : Int) ≤ -1 := (by decide); simp only [k10_a, WKV, Nat.reduceLT, Nat.reduceEqDiff, ↓reduceIte, reduceCtorEq, Nat.reduceAdd, Int.reduceLT, Int.reduceNeg, yac, hbf, ZFi, ycn, hz, hst, hneg, decide_false]; rw [← hC8]; exact tail _ s1 ⟨⟨n, [], []⟩, .nils, .nils⟩ σ1.objs.length (-1) (by simp [yaa]) (by simp [yaa]) (by simp [yaa]) (by simp [yaa]) (K1.trans' Ks) ob1 K1.le hx0 (by rw [hg]; rfl) rfl (by rw [hg]; simp)
   · have hg := h.get_yes hok hi hnm; refine KD.ret ha ?_; have hpos : (0 : Int) ≤ (i : Nat) := (by omega); have hgo := h.ok rs[i] (List.getElem_mem hi); obtain ⟨ro, hq, _, hai, hli⟩ := (hR1.keep Ks fun x _ => by simp).at hi; obtain ⟨s2, hs2⟩ : ∃ s2 : St, s2 = ⟨s1.objs.set σ1.objs.length (.cells rs[i].cells), s1.toks⟩ := ⟨_, rfl⟩
     have hst2 : yak Tryz.prog s1 81 (.optr σ1.objs.length 0) (.agg rs[i].cells) = some s2 := by
       rw [ycY (cs := [.str n, .nils, .nils]) (cs' := rs[i].cells) ob1 (by rw [SFi]; rfl) rfl (RE.one hgo), hs2]
     have K2 : KS [] σ s2 := by
       rw [hs2]; exact (K1.trans' Ks).trans (KS.set (S := [σ1.objs.length]) (.inl (by simp)) _) fun x hx => .inr (by rw [List.mem_singleton] at hx; have := K1.le; omega)
     have lfv : yad Tryz.prog s1.objs 46 (.optr r 0) = some fv := (by rw [yab (Ks.ko _ _ (by simp) o1) GFS]; rfl); simp only [k10_a, WKV, Nat.reduceLT, Nat.reduceEqDiff, ↓reduceIte, reduceCtorEq, Nat.reduceAdd, Int.reduceLT, Int.reduceNeg, yac, hbf, ZFi, ycn, hz, hst, hpos, decide_true, rFA r 0 (by omega), lfv, hai, hli, hst2]; rw [← hC8]; exact tail _ s2 rs[i] σ1.objs.length (i : Nat) (by simp [yaa]) (by simp [yaa]) (by simp [yaa]) (by simp [yaa]) K2 (by rw [hs2]; exact yaM ob1) K1.le hgo (by rw [hg]; rfl) hnm (by rw [hg]; simp)
 · have hr' : ¬ ((yaw d n : Nat) : Int) = 0 := (by omega); have e : yaf n bs d = (yaw d n, d) := (by unfold yaf; rw [if_pos hr]); simp only [k10_a, WKV, Nat.reduceLT, Nat.reduceEqDiff, ↓reduceIte, reduceCtorEq, Nat.reduceAdd, Int.reduceLT, Int.reduceNeg, yac, hr', e]; exact RNext.refl h
theorem yo6 {l : List Fl} {x : Fl} {i : Nat} (hr : l.Pairwise fun f g => f.name < g.name) (hi : i < l.length) (hn : l[i].name = x.name) : l.set i x = ycy x l := by
 have hl : l = l.take i ++ l[i] :: l.drop (i + 1) := (by rw [← List.drop_eq_getElem_cons hi, List.take_append_drop]); have hset : l.set i x = l.take i ++ x :: l.drop (i + 1) := by rw [List.set_eq_take_append_cons_drop, if_pos hi]
 have hA : ∀ f ∈ l.take i, f.name < x.name := by
   intro f hf; obtain ⟨j, hj, rfl⟩ := List.mem_iff_getElem.1 hf; rw [List.length_take] at hj; rw [List.getElem_take, ← hn]; exact List.pairwise_iff_getElem.1 hr j i (by omega) hi (by omega)
 have hB : ∀ f ∈ l.drop (i + 1), x.name < f.name := by
   intro f hf; obtain ⟨j, hj, rfl⟩ := List.mem_iff_getElem.1 hf; rw [List.length_drop] at hj; rw [List.getElem_drop, ← hn]; exact List.pairwise_iff_getElem.1 hr i (i + 1 + j) hi (by omega) (by omega)
 have a1 : (l.take i).filter (fun f => decide (f.name < x.name)) = l.take i := List.filter_eq_self.2 fun f hf => by simpa using hA f hf
 have a2 : (l.drop (i + 1)).filter (fun f => decide (f.name < x.name)) = [] := List.filter_eq_nil_iff.2 fun f hf h => yaD _ (ybX (hB f hf) (by simpa using h)); have a3 : (l.take i).filter (fun f => decide (x.name < f.name)) = [] := List.filter_eq_nil_iff.2 fun f hf h => yaD _ (ybX (hA f hf) (by simpa using h)); have a4 : (l.drop (i + 1)).filter (fun f => decide (x.name < f.name)) = l.drop (i + 1) := List.filter_eq_self.2 fun f hf => by simpa using hB f hf
 have n1 : ¬ l[i].name < x.name := (by rw [hn]; exact yaD _); have n2 : ¬ x.name < l[i].name := by rw [hn]; exact yaD _
 have h1 : l.filter (fun f => decide (f.name < x.name)) = l.take i := by
   have : l.filter (fun f => decide (f.name < x.name)) = (l.take i ++ l[i] :: l.drop (i + 1)).filter (fun f => decide (f.name < x.name)) := (by rw [← hl]); rw [this, List.filter_append, List.filter_cons, a1, a2, decide_eq_false n1]; simp
 have h2 : l.filter (fun f => decide (x.name < f.name)) = l.drop (i + 1) := by
   have : l.filter (fun f => decide (x.name < f.name)) = (l.take i ++ l[i] :: l.drop (i + 1)).filter (fun f => decide (x.name < f.name)) := (by rw [← hl]); rw [this, List.filter_append, List.filter_cons, a3, a4, decide_eq_false n2]; simp
 rw [hset, ycy, h1, h2]
theorem RefAt.set {σ : St} {r : Nat} {d : Dk} {q : Option Nat} {rs : List RE} (h : RefAt σ r d q rs) (hok : d.Ok) {i : Nat} (hi : i < rs.length) {y : RE} (hy : y.Ok) (hn : rs[i].f.name = y.f.name) {fv : V} (hR : RRow σ.objs fv q rs) :
   ∃ ro σ', yai Tryz.prog 46 fv (.int .i64 (i : Int)) = some (.optr ro (i * 3)) ∧ yak Tryz.prog σ 81 (.optr ro (i * 3)) (.agg y.cells) = some σ' ∧ (∀ fv2, σ.objs[r]? = some (.cells [fv2, .int .i64 d.room, .bool d.on, .int .i64 (d.writes : Nat), .int .i64 (d.armed : Nat), .int .i64 d.keep]) → fv2 = fv → RNext σ r q σ' { d with files := ycy y.f d.files }) := by
 obtain ⟨ro, σ', hq, ha, hs, hR2, K2, L2⟩ := hR.set hi hy; refine ⟨ro, σ', ha, hs, fun fv2 o e => ?_⟩; subst e; refine ⟨q, rs.set i y, ⟨⟨fv2, K2.ko _ _ h.ne o, hR2⟩, fun x hx => ?_, ?_, h.ne⟩, K2.mono fun x hx => .inl (List.mem_cons_of_mem _ hx), fun x hx => .inl hx⟩
 · rcases List.mem_or_eq_of_mem_set hx with h1 | h1
   · exact h.ok x h1
   · subst h1; exact hy
 · simp only; rw [List.map_set, h.fl]; have hl : i < d.files.length := (by rw [← h.fl, List.length_map]; exact hi); refine yo6 hok.rise hl ?_; have : d.files[i] = rs[i].f := (by simp [← h.fl]); rw [this, hn]
theorem yfd {σ : St} {r : Nat} {d : Dk} {q : Option Nat} {rs : List RE} {n : List UInt8} (h : RefAt σ r d q rs) (hok : d.Ok) (hw : d.writes < 4611686018427387904) :
   ∃ p σ', Does Tryz.prog prims 12 [.optr r 0, .str n] σ p σ' ∧ (p = .ret (.int .i64 ((yaO n d).1 : Nat)) ∧ RNext σ r q σ' (yaO n d).2) := by
 apply k12_is.does (by simp); simp only [k12_a, WKV, Nat.reduceLT, Nat.reduceEqDiff, ↓reduceIte, reduceCtorEq, Nat.reduceAdd, Int.reduceLT, Int.reduceNeg, yac, gD0, gD1]; refine KD.ret (ycC h n) ?_; by_cases hr : yaw d n = 0
 · have hr' : ((yaw d n : Nat) : Int) = 0 := (by omega); have hn0 : ¬ yaw d n ≠ 0 := fun h => h hr; obtain ⟨hfew, hfl⟩ := h.few hok; simp only [k12_a, WKV, Nat.reduceLT, Nat.reduceEqDiff, ↓reduceIte, reduceCtorEq, Nat.reduceAdd, Int.reduceLT, Int.reduceNeg, yac, hr']; obtain ⟨p, σ1, ha, K1, hp⟩ := ye2 h (by omega) n; have R1 : RefAt σ1 r d q rs := h.keep K1 fun x _ => by simp
   rcases hp with ⟨rfl, hno⟩ | ⟨i, hi, rfl, hnm⟩
   · have hg := h.get_no hno; have ht : yao d n = 21 := (by unfold yao; rw [if_neg hn0, hg]; rfl); have e : yaO n d = (21, d) := (by unfold yaO; rw [if_pos (by rw [ht]; simp), ht]); have hneg : (-1 : Int) < 0 := (by decide); refine KD.ret ha ?_; simp only [k12_a, WKV, Nat.reduceLT, Nat.reduceEqDiff, ↓reduceIte, reduceCtorEq, Nat.reduceAdd, Int.reduceLT, Int.reduceNeg, yac, hneg, decide_true, e]; exact ⟨rfl, RNext.only h K1⟩
   · have hg := h.get_yes hok hi hnm; have ht : yao d n = 0 := (by unfold yao; rw [if_neg hn0, hg]; rfl); have hz' : ¬ yao d n ≠ 0 := fun h => h ht; have hneg : ¬ ((i : Nat) : Int) < 0 := (by omega); obtain ⟨t5, r1, R5, K5, lk, t6, r5, r6⟩ := yfW R1 hok hw; obtain ⟨f1, f2, f3, f4, f5⟩ := ybm d; have toσ : ∀ (u : St) (d' : Dk), RNext σ1 r q u d' → RNext σ r q u d' := fun u d' hN => RNext.trans (K1.mono fun x hx => by cases hx) (fun x hx => .inl hx) hN; refine KD.ret ha ?_; simp only [k12_a, WKV, Nat.reduceLT, Nat.reduceEqDiff, ↓reduceIte, reduceCtorEq, Nat.reduceAdd, Int.reduceLT, Int.reduceNeg, yac, hneg, decide_false]; refine KD.ret r1 ?_
     cases hgo : (ybj d).1 with
     | true =>
       have e : yaO n d = (20, ydG d.keep (ybj d).2) := (by unfold yaO; rw [if_neg hz', if_pos hgo]); simp only [k12_a, WKV, Nat.reduceLT, Nat.reduceEqDiff, ↓reduceIte, reduceCtorEq, Nat.reduceAdd, Int.reduceLT, Int.reduceNeg, yac, rFA r 5 (by omega), lk]; refine KD.ret r5 ?_; simp only [k12_a, WKV, Nat.reduceLT, Nat.reduceEqDiff, ↓reduceIte, reduceCtorEq, Nat.reduceAdd, Int.reduceLT, Int.reduceNeg, yac, e]; exact ⟨rfl, toσ _ _ r6⟩
     | false =>
       obtain ⟨fv, o5, hR5⟩ := R5.hd; have hgo5 := h.ok rs[i] (List.getElem_mem hi); have hgl := (hok.get hg).2.2.2; obtain ⟨g, hgd⟩ : ∃ g, g = rs[i] := ⟨_, rfl⟩; obtain ⟨ro, hq, _, hai, hli⟩ := hR5.at hi; rw [← hgd] at hli hgo5 hgl hnm hg; simp only [Fl.len] at hgl
       have e : yaO n d = (0, { (ybj d).2 with files := ycy ⟨n, g.f.safe ++ g.f.wait, []⟩ d.files }) := by
         unfold yaO; rw [if_neg hz', if_neg (by rw [hgo]; simp), hg]; rfl
       obtain ⟨s1, hs1⟩ : ∃ s1 : St, s1 = ⟨t5.objs ++ [.cells g.cells], t5.toks⟩ := ⟨_, rfl⟩; have hst := ydd (σ := t5) hgo5; rw [← hs1] at hst; have Ks : KS [] t5 s1 := (by rw [hs1]; exact KS.push _ _ _); have ob : s1.objs[t5.objs.length]? = some (.cells g.cells) := (by rw [hs1]; exact yap _ _); have hz : yah (V.agg [.str [], .nils, .nils]) = [.str [], .nils, .nils] := rfl; have ls : yad Tryz.prog s1.objs 30 (.optr t5.objs.length 1) = some g.s := (by rw [yab ob pGB]; rfl); have lw : yad Tryz.prog s1.objs 30 (.optr t5.objs.length 2) = some g.w := (by rw [yab ob pGB]; rfl); obtain ⟨v1, t1, v2, t2, c1, c2, c3, c4, c5, c6, c7, c8⟩ := ymS (σ := s1) (v := g.s) (w := g.w) (.inl hgo5.1) (.inl hgo5.2) (by omega); have lw1 : yad Tryz.prog t1.objs 30 (.optr t5.objs.length 2) = some g.w := (by rw [c7]; exact lw); have K2 : KS [] t5 t2 := Ks.trans' c6; have R2 : RefAt t2 r (ybj d).2 q rs := R5.keep K2 fun x _ => by simp
       have o2 := K2.ko _ _ (by simp) o5; have o1 := (Ks.trans' c5).ko _ _ (by simp) o5; have os := Ks.ko _ _ (by simp) o5; have lf5 : yad Tryz.prog t5.objs 46 (.optr r 0) = some fv := (by rw [yab o5 GFS]; rfl); have lfs : yad Tryz.prog s1.objs 46 (.optr r 0) = some fv := (by rw [yab os GFS]; rfl); have lf2 : yad Tryz.prog t2.objs 46 (.optr r 0) = some fv := (by rw [yab o2 GFS]; rfl); have lf1 : yad Tryz.prog t1.objs 46 (.optr r 0) = some fv := (by rw [yab o1 GFS]; rfl); have hyo : (⟨⟨n, g.f.safe ++ g.f.wait, []⟩, v2, .nils⟩ : RE).Ok := ⟨c4, .inl ⟨rfl, rfl⟩⟩; obtain ⟨ro2, t3, ha3, hs3, hN⟩ := R2.set hok.raw hi hyo (by rw [← hgd]; exact hnm) (hR5.keep K2 fun x _ => by simp)
       have hro : ro2 = ro := by rw [hai] at ha3; injection ha3 with ha3; injection ha3 with e1; exact e1.symm
       subst hro; have hbl := ynn n v2 c4.one; simp only [RE.cells] at hs3; simp only [k12_a, WKV, Nat.reduceLT, Nat.reduceEqDiff, ↓reduceIte, reduceCtorEq, Nat.reduceAdd, Int.reduceLT, Int.reduceNeg, yac, rFA r 0 (by omega), lf5, hai, hli, ZFi, ycn, hz, hst, lfs, fb0, ykO, yjW, Nat.zero_add, ls, c1, lw, lw1, lf1, lf2, c2, hbl, hs3, e]; have := hN fv o2 rfl; rw [f1] at this; refine ⟨rfl, toσ _ _ (RNext.trans (K5.trans' (K2.mono fun x hx => by cases hx)) (fun x hx => .inl hx) this)⟩
 · have hr' : ¬ ((yaw d n : Nat) : Int) = 0 := (by omega); have ht : yao d n = yaw d n := (by unfold yao; rw [if_pos hr]); have e : yaO n d = (yaw d n, d) := (by unfold yaO; rw [ht, if_pos hr]); simp only [k12_a, WKV, Nat.reduceLT, Nat.reduceEqDiff, ↓reduceIte, reduceCtorEq, Nat.reduceAdd, Int.reduceLT, Int.reduceNeg, yac, hr', e]; exact RNext.refl h
theorem copy1 {σ : St} {v : V} {bs : List UInt8} (hv : RB σ v bs) (hl : bs.length ≤ 140737488300000) :
   ∃ v1 σ1, yaY Tryz.prog σ 30 30 (.slice .exact 1 [] 0) v = some (v1, σ1) ∧ BtsV v1 bs ∧ KS [] σ σ1 ∧ σ1.objs = σ.objs := by
 obtain ⟨v1, σ1, v2, σ2, c1, c2, c3, c4, c5, c6, c7, c8⟩ := ymS (w := .nils) (ys := []) hv (.inl (.inl ⟨rfl, rfl⟩)) (by simpa using hl); exact ⟨v1, σ1, c1, c3, c5, c7⟩
theorem yof {v : V} {bs : List UInt8} (h : BtsV v bs) {n : Nat} (hn : n ≤ bs.length) (hl : bs.length ≤ 1000000000) : ∃ w, yck Tryz.prog 30 v none (some (.int .i64 (n : Int))) none = some w ∧ BtsV w (bs.take n) := by
 obtain ⟨w, h1, h2⟩ := h.slice T22 S5 (lo := none) (hi := some (.int .i64 (n : Int))) (yc0 (by omega) (by omega)) (by omega) (by omega); refine ⟨w, h1, ?_⟩; have e : (bs.drop 0).take ((n : Int).toNat - 0) = bs.take n := (by simp); rw [e] at h2; exact h2
theorem vfile3 (n : List UInt8) (s w : V) (h : one s = true) (h2 : one w = true) : ydA Tryz.prog 81 [(0, .str n), (1, s), (2, w)] = some (.agg [.str n, s, w]) := by
 cases s <;> cases w <;> first | (cases h; done) | (cases h2; done) | kernel_rfl
theorem ygd {σ : St} {r : Nat} {d : Dk} {q : Option Nat} {rs : List RE} {n : List UInt8} {k : Int} (h : RefAt σ r d q rs) (hok : d.Ok) (hw : d.writes < 4611686018427387904) :
   ∃ p σ', Does Tryz.prog prims 75 [.optr r 0, .str n, .int .i64 k] σ p σ' ∧ (p = .ret (.int .i64 ((yaL n k d).1 : Nat)) ∧ RNext σ r q σ' (yaL n k d).2) := by
 apply k75_is.does (by simp); simp only [k75_a, WKV, Nat.reduceLT, Nat.reduceEqDiff, ↓reduceIte, reduceCtorEq, Nat.reduceAdd, Int.reduceLT, Int.reduceNeg, yac, gD0, gD1]; refine KD.ret (ycC h n) ?_; by_cases hr : yaw d n = 0
 · have hr' : ((yaw d n : Nat) : Int) = 0 := (by omega); have hn0 : ¬ yaw d n ≠ 0 := fun h => h hr; obtain ⟨hfew, hfl⟩ := h.few hok; simp only [k75_a, WKV, Nat.reduceLT, Nat.reduceEqDiff, ↓reduceIte, reduceCtorEq, Nat.reduceAdd, Int.reduceLT, Int.reduceNeg, yac, hr']; obtain ⟨p, σ1, ha, K1, hp⟩ := ye2 h (by omega) n; have R1 : RefAt σ1 r d q rs := h.keep K1 fun x _ => by simp
   rcases hp with ⟨rfl, hno⟩ | ⟨i, hi, rfl, hnm⟩
   · have hg := h.get_no hno; have ht : yao d n = 21 := (by unfold yao; rw [if_neg hn0, hg]; rfl); have e : yaL n k d = (21, d) := (by unfold yaL; rw [if_pos (by rw [ht]; simp), ht]); have hneg : (-1 : Int) < 0 := (by decide); refine KD.ret ha ?_; simp only [k75_a, WKV, Nat.reduceLT, Nat.reduceEqDiff, ↓reduceIte, reduceCtorEq, Nat.reduceAdd, Int.reduceLT, Int.reduceNeg, yac, hneg, decide_true, e]; exact ⟨rfl, RNext.only h K1⟩
   · have hg := h.get_yes hok hi hnm; have ht : yao d n = 0 := (by unfold yao; rw [if_neg hn0, hg]; rfl); have hz' : ¬ yao d n ≠ 0 := fun h => h ht; have hneg : ¬ ((i : Nat) : Int) < 0 := (by omega); obtain ⟨f1, f2, f3, f4, f5⟩ := ybm d; have toσ : ∀ (u : St) (d' : Dk), RNext σ1 r q u d' → RNext σ r q u d' := fun u d' hN => RNext.trans (K1.mono fun x hx => by cases hx) (fun x hx => .inl hx) hN; obtain ⟨fv, o1, hR1⟩ := R1.hd; have hgo1 := h.ok rs[i] (List.getElem_mem hi); have hgl := (hok.get hg).2.2.2; obtain ⟨g, hgd⟩ : ∃ g, g = rs[i] := ⟨_, rfl⟩; obtain ⟨ro, hq, _, hai, hli⟩ := hR1.at hi; rw [← hgd] at hli hgo1 hgl hnm hg; simp only [Fl.len] at hgl; obtain ⟨s1, hs1⟩ : ∃ s1 : St, s1 = ⟨σ1.objs ++ [.cells g.cells], σ1.toks⟩ := ⟨_, rfl⟩; have hst := ydd (σ := σ1) hgo1; rw [← hs1] at hst; have Ks : KS [] σ1 s1 := (by rw [hs1]; exact KS.push _ _ _); have Rs : RefAt s1 r d q rs := R1.keep Ks fun x _ => by simp
     have ob : s1.objs[σ1.objs.length]? = some (.cells g.cells) := (by rw [hs1]; exact yap _ _); have hz : yah (V.agg [.str [], .nils, .nils]) = [.str [], .nils, .nils] := rfl; have lf1 : yad Tryz.prog σ1.objs 46 (.optr r 0) = some fv := (by rw [yab o1 GFS]; rfl); have ls : yad Tryz.prog s1.objs 30 (.optr σ1.objs.length 1) = some g.s := (by rw [yab ob pGB]; rfl); have lw : yad Tryz.prog s1.objs 30 (.optr σ1.objs.length 2) = some g.w := (by rw [yab ob pGB]; rfl); have w1 : IntKind.i64.wrap ((g.f.safe.length : Int) + (g.f.wait.length : Nat)) = ((g.f.safe.length + g.f.wait.length : Nat) : Int) := (by rw [yae (by omega) (by omega)]; omega); have t1' : ∀ (d' : Dk), yaL n k d = (3, d) → RNext σ r q s1 d := fun _ _ => RNext.only h (K1.trans' Ks); refine KD.ret ha ?_; by_cases hkn : k < 0
     · have e : yaL n k d = (3, d) := (by unfold yaL; rw [if_neg hz', hg]; simp only [Option.getD_some]; rw [if_pos (.inl hkn)]); simp only [k75_a, WKV, Nat.reduceLT, Nat.reduceEqDiff, ↓reduceIte, reduceCtorEq, Nat.reduceAdd, Int.reduceLT, Int.reduceNeg, yac, hneg, decide_false, rFA r 0 (by omega), lf1, hai, hli, ZFi, ycn, hz, hst, hkn, decide_true, e]; exact ⟨rfl, RNext.only h (K1.trans' Ks)⟩
     · by_cases hkb : ((g.f.safe.length + g.f.wait.length : Nat) : Int) < k
       · have e : yaL n k d = (3, d) := (by unfold yaL; rw [if_neg hz', hg]; simp only [Option.getD_some]; rw [if_pos (.inr hkb)]); simp only [k75_a, WKV, Nat.reduceLT, Nat.reduceEqDiff, ↓reduceIte, reduceCtorEq, Nat.reduceAdd, Int.reduceLT, Int.reduceNeg, yac, hneg, decide_false, rFA r 0 (by omega), lf1, hai, hli, ZFi, ycn, hz, hst, hkn, ykO, yjW, Nat.zero_add, ls, lw, hgo1.1.len T22, hgo1.2.len T22, w1, hkb, decide_true, e]; exact ⟨rfl, RNext.only h (K1.trans' Ks)⟩
       · have hc : ¬ (k < 0 ∨ ((g.f.len : Nat) : Int) < k) := fun h => h.elim hkn hkb; obtain ⟨t5, r1, R5, K5, lk, t6, r5, r6⟩ := yfW Rs hok hw; have toσ2 : ∀ (u : St) (d' : Dk), RNext s1 r q u d' → RNext σ r q u d' := fun u d' hN => RNext.trans ((K1.trans' Ks).mono fun x hx => by cases hx) (fun x hx => .inl hx) hN; simp only [k75_a, WKV, Nat.reduceLT, Nat.reduceEqDiff, ↓reduceIte, reduceCtorEq, Nat.reduceAdd, Int.reduceLT, Int.reduceNeg, yac, hneg, decide_false, rFA r 0 (by omega), lf1, hai, hli, ZFi, ycn, hz, hst, hkn, ykO, yjW, Nat.zero_add, ls, lw, hgo1.1.len T22, hgo1.2.len T22, w1, hkb]; refine KD.ret r1 ?_
         cases hgo : (ybj d).1 with
         | true =>
           have e : yaL n k d = (20, ydG d.keep (ybj d).2) := (by unfold yaL; rw [if_neg hz', hg]; simp only [Option.getD_some]; rw [if_neg hc, if_pos hgo]); simp only [k75_a, WKV, Nat.reduceLT, Nat.reduceEqDiff, ↓reduceIte, reduceCtorEq, Nat.reduceAdd, Int.reduceLT, Int.reduceNeg, yac, rFA r 5 (by omega), lk]; refine KD.ret r5 ?_; simp only [k75_a, WKV, Nat.reduceLT, Nat.reduceEqDiff, ↓reduceIte, reduceCtorEq, Nat.reduceAdd, Int.reduceLT, Int.reduceNeg, yac, e]; exact ⟨rfl, toσ2 _ _ r6⟩
         | false =>
           have e : yaL n k d = (0, { (ybj d).2 with files := ycy ⟨n, g.f.safe.take k.toNat, g.f.wait.take (k.toNat - g.f.safe.length)⟩ d.files }) := by
             unfold yaL; rw [if_neg hz', hg]; simp only [Option.getD_some]; rw [if_neg hc, if_neg (by rw [hgo]; simp)]
           obtain ⟨fv5, o5, hR5⟩ := R5.hd; have hbn : σ1.objs.length ∉ r :: q.toList := fun hx => by have := R1.lt _ hx; omega
           have ob5 := K5.ko _ _ hbn ob; have lf5 : yad Tryz.prog t5.objs 46 (.optr r 0) = some fv5 := (by rw [yab o5 GFS]; rfl); have ls5 : yad Tryz.prog t5.objs 30 (.optr σ1.objs.length 1) = some g.s := (by rw [yab ob5 pGB]; rfl); have lw5 : yad Tryz.prog t5.objs 30 (.optr σ1.objs.length 2) = some g.w := (by rw [yab ob5 pGB]; rfl); obtain ⟨kn, hkn2⟩ : ∃ kn : Nat, k = (kn : Int) := ⟨k.toNat, by omega⟩; subst hkn2; rw [Int.toNat_natCast] at e; by_cases hle : kn ≤ g.f.safe.length
           · have hle' : ((kn : Nat) : Int) ≤ (g.f.safe.length : Nat) := (by omega); obtain ⟨w', hsl, hbw⟩ := yof hgo1.1 (n := kn) hle (by omega); obtain ⟨v1, t7, c1, c2, c3, c4⟩ := copy1 (σ := t5) (.inl hbw) (by rw [List.length_take]; omega); have R7 : RefAt t7 r (ybj d).2 q rs := R5.keep c3 fun x _ => by simp
             have o7 := c3.ko _ _ (by simp) o5; have lf7 : yad Tryz.prog t7.objs 46 (.optr r 0) = some fv5 := (by rw [yab o7 GFS]; rfl); have hyo : (⟨⟨n, g.f.safe.take kn, []⟩, v1, .nils⟩ : RE).Ok := ⟨c2, .inl ⟨rfl, rfl⟩⟩; obtain ⟨ro2, t8, ha3, hs3, hN⟩ := R7.set hok.raw hi hyo (by rw [← hgd]; exact hnm) (hR5.keep c3 fun x _ => by simp); have hbl := ynn n v1 c2.one; simp only [RE.cells] at hs3; have hwt : g.f.wait.take (kn - g.f.safe.length) = [] := (by rw [show kn - g.f.safe.length = 0 by omega]; simp); rw [hwt] at e; simp only [k75_a, WKV, Nat.reduceLT, Nat.reduceEqDiff, ↓reduceIte, reduceCtorEq, Nat.reduceAdd, Int.reduceLT, Int.reduceNeg, yac, ykO, yjW, Nat.zero_add, ls5, lw5, hgo1.1.len T22, hle', decide_true, rFA r 0 (by omega), lf5, lf7, fb0, hsl, c1, hbl, ha3, hs3, T22, e]; have := hN fv5 o7 rfl; rw [f1] at this; exact ⟨rfl, toσ2 _ _ (RNext.trans (K5.trans' (c3.mono fun x hx => by cases hx)) (fun x hx => .inl hx) this)⟩
           · have hle' : ¬ ((kn : Nat) : Int) ≤ (g.f.safe.length : Nat) := (by omega); have hws : IntKind.i64.wrap (((kn : Nat) : Int) - (g.f.safe.length : Nat)) = ((kn - g.f.safe.length : Nat) : Int) := (by rw [yae (by omega) (by omega)]; omega); obtain ⟨w', hsl, hbw⟩ := yof hgo1.2 (n := kn - g.f.safe.length) (by omega) (by omega); obtain ⟨v1, t7, c1, c2, c3, c4⟩ := copy1 (σ := t5) (.inl hbw) (by rw [List.length_take]; omega); have R7 : RefAt t7 r (ybj d).2 q rs := R5.keep c3 fun x _ => by simp
             have o7 := c3.ko _ _ (by simp) o5; have lf7 : yad Tryz.prog t7.objs 46 (.optr r 0) = some fv5 := (by rw [yab o7 GFS]; rfl); have ls7 : yad Tryz.prog t7.objs 30 (.optr σ1.objs.length 1) = some g.s := (by rw [c4]; exact ls5); have lw7 : yad Tryz.prog t7.objs 30 (.optr σ1.objs.length 2) = some g.w := (by rw [c4]; exact lw5); have hst2 : g.f.safe.take kn = g.f.safe := List.take_of_length_le (by omega); have hyo : (⟨⟨n, g.f.safe.take kn, g.f.wait.take (kn - g.f.safe.length)⟩, g.s, v1⟩ : RE).Ok := ⟨by rw [hst2]; exact hgo1.1, c2⟩; obtain ⟨ro2, t8, ha3, hs3, hN⟩ := R7.set hok.raw hi hyo (by rw [← hgd]; exact hnm) (hR5.keep c3 fun x _ => by simp); have hbl := vfile3 n g.s v1 hgo1.1.one c2.one; simp only [RE.cells] at hs3; simp only [k75_a, WKV, Nat.reduceLT, Nat.reduceEqDiff, ↓reduceIte, reduceCtorEq, Nat.reduceAdd, Int.reduceLT, Int.reduceNeg, yac, ykO, yjW, Nat.zero_add, ls5, lw5, ls7, lw7, hgo1.1.len T22, hle', decide_false, rFA r 0 (by omega), lf5, lf7, fb0, hws, hsl, c1, hbl, ha3, hs3, T22, e]; have := hN fv5 o7 rfl; rw [f1] at this; exact ⟨rfl, toσ2 _ _ (RNext.trans (K5.trans' (c3.mono fun x hx => by cases hx)) (fun x hx => .inl hx) this)⟩
 · have hr' : ¬ ((yaw d n : Nat) : Int) = 0 := (by omega); have ht : yao d n = yaw d n := (by unfold yao; rw [if_pos hr]); have e : yaL n k d = (yaw d n, d) := (by unfold yaL; rw [ht, if_pos hr]); simp only [k75_a, WKV, Nat.reduceLT, Nat.reduceEqDiff, ↓reduceIte, reduceCtorEq, Nat.reduceAdd, Int.reduceLT, Int.reduceNeg, yac, hr', e]; exact RNext.refl h
theorem yfH {σ : St} {r : Nat} {d : Dk} {q : Option Nat} {rs : List RE} {n : List UInt8} (h : RefAt σ r d q rs) (hok : d.Ok) (hw : d.writes < 4611686018427387904) :
   ∃ p σ', Does Tryz.prog prims 56 [.optr r 0, .str n] σ p σ' ∧ (p = .ret (.int .i64 ((yaj n d).1 : Nat)) ∧ RNext σ r q σ' (yaj n d).2) := by
 apply k56_is.does (by simp); simp only [k56_a, WKV, Nat.reduceLT, Nat.reduceEqDiff, ↓reduceIte, reduceCtorEq, Nat.reduceAdd, Int.reduceLT, Int.reduceNeg, yac, gD0, gD1]; refine KD.ret (ycC h n) ?_; by_cases hr : yaw d n = 0
 · have hr' : ((yaw d n : Nat) : Int) = 0 := (by omega); have hn0 : ¬ yaw d n ≠ 0 := fun h => h hr; obtain ⟨hfew, hfl⟩ := h.few hok; simp only [k56_a, WKV, Nat.reduceLT, Nat.reduceEqDiff, ↓reduceIte, reduceCtorEq, Nat.reduceAdd, Int.reduceLT, Int.reduceNeg, yac, hr']; obtain ⟨p, σ1, ha, K1, hp⟩ := ye2 h (by omega) n; have R1 : RefAt σ1 r d q rs := h.keep K1 fun x _ => by simp
   rcases hp with ⟨rfl, hno⟩ | ⟨i, hi, rfl, hnm⟩
   · have hg := h.get_no hno; have ht : yao d n = 21 := (by unfold yao; rw [if_neg hn0, hg]; rfl); have e : yaj n d = (21, d) := (by unfold yaj; rw [if_pos (by rw [ht]; simp), ht]); have hneg : (-1 : Int) < 0 := (by decide); refine KD.ret ha ?_; simp only [k56_a, WKV, Nat.reduceLT, Nat.reduceEqDiff, ↓reduceIte, reduceCtorEq, Nat.reduceAdd, Int.reduceLT, Int.reduceNeg, yac, hneg, decide_true, e]; exact ⟨rfl, RNext.only h K1⟩
   · have hg := h.get_yes hok hi hnm; have ht : yao d n = 0 := (by unfold yao; rw [if_neg hn0, hg]; rfl); have hz' : ¬ yao d n ≠ 0 := fun h => h ht; have hneg : ¬ ((i : Nat) : Int) < 0 := (by omega); obtain ⟨t5, r1, R5, K5, lk, t6, r5, r6⟩ := yfW R1 hok hw; obtain ⟨f1, f2, f3, f4, f5⟩ := ybm d; have toσ : ∀ (u : St) (d' : Dk), RNext σ1 r q u d' → RNext σ r q u d' := fun u d' hN => RNext.trans (K1.mono fun x hx => by cases hx) (fun x hx => .inl hx) hN; refine KD.ret ha ?_; simp only [k56_a, WKV, Nat.reduceLT, Nat.reduceEqDiff, ↓reduceIte, reduceCtorEq, Nat.reduceAdd, Int.reduceLT, Int.reduceNeg, yac, hneg, decide_false]; refine KD.ret r1 ?_
     cases hgo : (ybj d).1 with
     | true =>
       have e : yaj n d = (20, ydG d.keep (ybj d).2) := (by unfold yaj; rw [if_neg hz', if_pos hgo]); simp only [k56_a, WKV, Nat.reduceLT, Nat.reduceEqDiff, ↓reduceIte, reduceCtorEq, Nat.reduceAdd, Int.reduceLT, Int.reduceNeg, yac, rFA r 5 (by omega), lk]; refine KD.ret r5 ?_; simp only [k56_a, WKV, Nat.reduceLT, Nat.reduceEqDiff, ↓reduceIte, reduceCtorEq, Nat.reduceAdd, Int.reduceLT, Int.reduceNeg, yac, e]; exact ⟨rfl, toσ _ _ r6⟩
     | false =>
       have e : yaj n d = (0, { (ybj d).2 with files := ydU n d.files }) := by
         unfold yaj; rw [if_neg hz', if_neg (by rw [hgo]; simp)]
       obtain ⟨t7, hd7, N7⟩ := ylT (n := n) R5 hok.raw; rw [f1] at N7; simp only [k56_a, WKV, Nat.reduceLT, Nat.reduceEqDiff, ↓reduceIte, reduceCtorEq, Nat.reduceAdd, Int.reduceLT, Int.reduceNeg, yac]; refine KD.ret hd7 ?_; simp only [k56_a, WKV, Nat.reduceLT, Nat.reduceEqDiff, ↓reduceIte, reduceCtorEq, Nat.reduceAdd, Int.reduceLT, Int.reduceNeg, yac, e]; exact ⟨rfl, toσ _ _ (RNext.trans K5 (fun x hx => .inl hx) N7)⟩
 · have hr' : ¬ ((yaw d n : Nat) : Int) = 0 := (by omega); have ht : yao d n = yaw d n := (by unfold yao; rw [if_pos hr]); have e : yaj n d = (yaw d n, d) := (by unfold yaj; rw [ht, if_pos hr]); simp only [k56_a, WKV, Nat.reduceLT, Nat.reduceEqDiff, ↓reduceIte, reduceCtorEq, Nat.reduceAdd, Int.reduceLT, Int.reduceNeg, yac, hr', e]; exact RNext.refl h
theorem yho {σ : St} {r : Nat} {d : Dk} {q : Option Nat} {rs : List RE} {n : List UInt8} (h : RefAt σ r d q rs) (hok : d.Ok) :
   ∃ p σ', Does Tryz.prog prims 55 [.optr r 0, .str n] σ p σ' ∧ ∃ v, p = .ret (.tuple [v, .int .i64 ((yav n d).1 : Nat)]) ∧ BtsV v (yav n d).2 ∧ KS [] σ σ' := by
 apply k55_is.does (by simp); simp only [k55_a, WKV, Nat.reduceLT, Nat.reduceEqDiff, ↓reduceIte, reduceCtorEq, Nat.reduceAdd, Int.reduceLT, Int.reduceNeg, yac, gD0, gD1, ybd]; refine KD.ret (ycC h n) ?_; by_cases hr : yaw d n = 0
 · have hr' : ((yaw d n : Nat) : Int) = 0 := (by omega); have hn0 : ¬ yaw d n ≠ 0 := fun h => h hr; obtain ⟨hfew, hfl⟩ := h.few hok; simp only [k55_a, WKV, Nat.reduceLT, Nat.reduceEqDiff, ↓reduceIte, reduceCtorEq, Nat.reduceAdd, Int.reduceLT, Int.reduceNeg, yac, hr']; obtain ⟨p, σ1, ha, K1, hp⟩ := ye2 h (by omega) n; have R1 : RefAt σ1 r d q rs := h.keep K1 fun x _ => by simp
   rcases hp with ⟨rfl, hno⟩ | ⟨i, hi, rfl, hnm⟩
   · have hg := h.get_no hno; have ht : yao d n = 21 := (by unfold yao; rw [if_neg hn0, hg]; rfl); have e : yav n d = (21, []) := (by unfold yav; rw [if_pos (by rw [ht]; simp), ht]); have hneg : (-1 : Int) < 0 := (by decide); refine KD.ret ha ?_; simp only [k55_a, WKV, Nat.reduceLT, Nat.reduceEqDiff, ↓reduceIte, reduceCtorEq, Nat.reduceAdd, Int.reduceLT, Int.reduceNeg, yac, hneg, decide_true, ybd, e]; exact ⟨.nils, rfl, .inl ⟨rfl, rfl⟩, K1⟩
   · have hg := h.get_yes hok hi hnm; have ht : yao d n = 0 := (by unfold yao; rw [if_neg hn0, hg]; rfl); have hz' : ¬ yao d n ≠ 0 := fun h => h ht; have hneg : ¬ ((i : Nat) : Int) < 0 := (by omega); obtain ⟨fv, o1, hR1⟩ := R1.hd; have hgo := h.ok rs[i] (List.getElem_mem hi); have hgl := (hok.get hg).2.2.2; obtain ⟨g, hgd⟩ : ∃ g, g = rs[i] := ⟨_, rfl⟩; obtain ⟨ro, hq, hro, hai, hli⟩ := hR1.at hi; rw [← hgd] at hli hgo hgl hnm hg; simp only [Fl.len] at hgl; have e : yav n d = (0, g.f.safe ++ g.f.wait) := (by unfold yav; rw [if_neg hz', hg]; rfl); have hle : i * 3 + 3 ≤ (ybt rs).length := by rw [yb4]; omega
     have hat : ∀ j, j < 3 → (ybt rs)[i * 3 + j]? = g.cells[j]? := by
       intro j hj; have h1 : ((ybt rs).drop (i * 3)).take 3 = g.cells := (by unfold ybt; rw [yge RE.cells_len hi, hgd]); rw [← h1, List.getElem?_take_of_lt hj, List.getElem?_drop]
     have lf : yad Tryz.prog σ1.objs 46 (.optr r 0) = some fv := (by rw [yab o1 GFS]; rfl); have ls : yad Tryz.prog σ1.objs 30 (.optr ro (i * 3 + 1)) = some g.s := (by rw [yab hro pGB, hat 1 (by omega)]; rfl); have lw : yad Tryz.prog σ1.objs 30 (.optr ro (i * 3 + 2)) = some g.w := (by rw [yab hro pGB, hat 2 (by omega)]; rfl); obtain ⟨v1, t1, v2, t2, c1, c2, c3, c4, c5, c6, c7, c8⟩ := ymS (σ := σ1) (v := g.s) (w := g.w) (.inl hgo.1) (.inl hgo.2) (by omega); have lf1 : yad Tryz.prog t1.objs 46 (.optr r 0) = some fv := (by rw [c7]; exact lf); have lw1 : yad Tryz.prog t1.objs 30 (.optr ro (i * 3 + 2)) = some g.w := (by rw [c7]; exact lw); refine KD.ret ha ?_; simp only [k55_a, WKV, Nat.reduceLT, Nat.reduceEqDiff, ↓reduceIte, reduceCtorEq, Nat.reduceAdd, Int.reduceLT, Int.reduceNeg, yac, hneg, decide_false, ybd, fb0, rFA r 0 (by omega), lf, hai, ykO, yjW, ls, c1, lf1, lw, lw1, c2, e]; exact ⟨v2, rfl, c4, K1.trans' c6⟩
 · have hr' : ¬ ((yaw d n : Nat) : Int) = 0 := (by omega); have ht : yao d n = yaw d n := (by unfold yao; rw [if_pos hr]); have e : yav n d = (yaw d n, []) := (by unfold yav; rw [ht, if_pos hr]); simp only [k55_a, WKV, Nat.reduceLT, Nat.reduceEqDiff, ↓reduceIte, reduceCtorEq, Nat.reduceAdd, Int.reduceLT, Int.reduceNeg, yac, hr', e, ybd]; exact ⟨.nils, rfl, .inl ⟨rfl, rfl⟩, KS.refl _ _⟩
theorem RefAt.headN {σ : St} {r : Nat} {d d2 : Dk} {q : Option Nat} {rs : List RE} (h : RefAt σ r d q rs) (hf : d2.files = d.files) {fv : V} (o : σ.objs[r]? = some (.cells [fv, .int .i64 d.room, .bool d.on, .int .i64 (d.writes : Nat), .int .i64 (d.armed : Nat), .int .i64 d.keep])) (hv : RRow σ.objs fv q rs) {σ' : St} (hs : σ' = ⟨σ.objs.set r (.cells [fv, .int .i64 d2.room, .bool d2.on, .int .i64 (d2.writes : Nat), .int .i64 (d2.armed : Nat), .int .i64 d2.keep]), σ.toks⟩) :
   RNext σ r q σ' d2 ∧ RefAt σ' r d2 q rs ∧ RRow σ'.objs fv q rs ∧ σ'.objs[r]? = some (.cells [fv, .int .i64 d2.room, .bool d2.on, .int .i64 (d2.writes : Nat), .int .i64 (d2.armed : Nat), .int .i64 d2.keep]) := by
 obtain ⟨D1, K1⟩ := h.head hf hv hs; have K2 : KS [r] σ σ' := (by rw [hs]; exact KS.set (.inl (by simp)) _); exact ⟨⟨q, rs, D1, K1, fun x hx => .inl hx⟩, D1, hv.keep K2 fun z hz hz2 => h.ne (by rw [List.mem_singleton] at hz2; rw [← hz2]; exact hz), by rw [hs]; exact yaM o⟩
theorem ynb {σ : St} {r : Nat} {d : Dk} {q : Option Nat} {rs : List RE} (h : RefAt σ r d q rs) (n k : Int) : ∃ σ', Does Tryz.prog prims 19 [.optr r 0, .int .i64 n, .int .i64 k] σ (.ret (.tuple [])) σ' ∧ RNext σ r q σ' (yjo n k d) := by
 have key : ∃ p σ', Does Tryz.prog prims 19 [.optr r 0, .int .i64 n, .int .i64 k] σ p σ' ∧ (p = .ret (.tuple []) ∧ RNext σ r q σ' (yjo n k d)) := by
   apply k19_is.does (by simp); obtain ⟨fv, o, hR⟩ := h.hd; obtain ⟨s1, hs1⟩ : ∃ s1 : St, s1 = ⟨σ.objs.set r (.cells [fv, .int .i64 d.room, .bool d.on, .int .i64 (d.writes : Nat), .int .i64 n, .int .i64 d.keep]), σ.toks⟩ := ⟨_, rfl⟩; have st1 : yak Tryz.prog σ 3 (.optr r 4) (.int .i64 n) = some s1 := (by rw [yag o S3 rfl (by simp), hs1]; rfl); have o1 : s1.objs[r]? = some (.cells [fv, .int .i64 d.room, .bool d.on, .int .i64 (d.writes : Nat), .int .i64 n, .int .i64 d.keep]) := (by rw [hs1]; exact yaM o); have hfin : ∀ s2 : St, s2 = ⟨σ.objs.set r (.cells [fv, .int .i64 (yjo n k d).room, .bool (yjo n k d).on, .int .i64 ((yjo n k d).writes : Nat), .int .i64 ((yjo n k d).armed : Nat), .int .i64 (yjo n k d).keep]), σ.toks⟩ → RNext σ r q s2 (yjo n k d) := fun s2 hs2 => (h.headN (d2 := yjo n k d) rfl o hR hs2).1; by_cases hn : n < 0
   · obtain ⟨s2, hs2⟩ : ∃ s2 : St, s2 = ⟨s1.objs.set r (.cells [fv, .int .i64 d.room, .bool d.on, .int .i64 (d.writes : Nat), .int .i64 0, .int .i64 d.keep]), s1.toks⟩ := ⟨_, rfl⟩; have st2 : yak Tryz.prog s1 3 (.optr r 4) (.int .i64 0) = some s2 := (by rw [yag o1 S3 rfl (by simp), hs2]; rfl); have o2 : s2.objs[r]? = some (.cells [fv, .int .i64 d.room, .bool d.on, .int .i64 (d.writes : Nat), .int .i64 0, .int .i64 d.keep]) := (by rw [hs2]; exact yaM o1); have st3 := yag (P := Tryz.prog) (off := 5) (t := 3) (v := .int .i64 k) o2 S3 rfl (by simp); simp only [k19_a, WKV, Nat.reduceLT, Nat.reduceEqDiff, ↓reduceIte, reduceCtorEq, Nat.reduceAdd, Int.reduceLT, Int.reduceNeg, yac, gD0, gD1, rFA r 4 (by omega), rFA r 5 (by omega), st1, hn, decide_true, st2, st3]; refine hfin _ ?_; rw [hs2, hs1]; have : n.toNat = 0 := (by omega); simp only [yjo, this, List.set_set]; rfl
   · have st2 := yag (P := Tryz.prog) (off := 5) (t := 3) (v := .int .i64 k) o1 S3 rfl (by simp); simp only [k19_a, WKV, Nat.reduceLT, Nat.reduceEqDiff, ↓reduceIte, reduceCtorEq, Nat.reduceAdd, Int.reduceLT, Int.reduceNeg, yac, gD0, gD1, rFA r 4 (by omega), rFA r 5 (by omega), st1, hn, decide_false, st2]; refine hfin _ ?_; rw [hs1]; have : ((n.toNat : Nat) : Int) = n := (by omega); simp only [yjo, this, List.set_set]; rfl
 obtain ⟨p, σ', h1, rfl, h2⟩ := key; exact ⟨σ', h1, h2⟩
theorem sb1 (s : List UInt8) : yas Tryz.prog 70 1 [(0, .str s)] = some (.slice .exact 1 [.str s] 1) := by kernel_rfl
theorem yem {σ : St} {r : Nat} {d : Dk} {q : Option Nat} {rs : List RE} (h : RefAt σ r d q rs) (hok : d.Ok) :
   ∃ p σ', Does Tryz.prog prims 59 [.optr r 0] σ p σ' ∧ ∃ v, p = .ret v ∧ RowV 1 v ((yaS d).map V.str) (yaS d).length ∧ KS [] σ σ' := by
 apply k59_is.does (by simp); obtain ⟨hfew, hfl⟩ := h.few hok; obtain ⟨fv, o, hR⟩ := h.hd; have lf : yad Tryz.prog σ.objs 46 (.optr r 0) = some fv := by rw [yab o GFS]; rfl
 have hnm : yaS d = if d.on = true then rs.map (fun x => x.f.name) else [] := by unfold yaS; rw [← h.fl, List.map_map]; rfl
 simp only [k59_a, WKV, Nat.reduceLT, Nat.reduceEqDiff, ↓reduceIte, reduceCtorEq, Nat.reduceAdd, Int.reduceLT, Int.reduceNeg, yac, gD0, gD1, ybd, rFA r 0 (by omega), lf, hR.len]
 refine Ev.loopF (fun (i : Nat) e s => e 11 = .int .i64 (i : Nat) ∧ i ≤ rs.length ∧ KS [] σ s ∧ OwnR 9 1 σ.toks.length s (e 3) ((if d.on = true then (rs.take i).map (fun x => x.f.name) else []).map V.str) (if d.on = true then (rs.take i).map (fun x => x.f.name) else []).length) (fun i => rs.length - i) 0 ⟨by simp [yaa], Nat.zero_le _, KS.refl _ _, by cases d.on <;> simpa [yaa] using (OwnR.nil (e := 9) (k := 1) (m := σ.toks.length) (σ := σ))⟩ ?_
 rintro i e s ⟨h11, hi, hk, h3⟩ hf; have h0 : e 0 = .optr r 0 := (hf 0 (by decide)).trans (by simp [yaa]); have h9 : e 9 = fv := (hf 9 (by decide)).trans (by simp [yaa]); have h10 : e 10 = .int .i64 (rs.length : Nat) := (hf 10 (by decide)).trans (by simp [yaa]); clear hf; by_cases hlt : i < rs.length
 · have hlt' : (i : Int) < rs.length := (by omega); have hwi : IntKind.i64.wrap ((i : Int) + 1) = ((i + 1 : Nat) : Int) := (by rw [show ((i : Int) + 1) = ((i + 1 : Nat) : Int) from by omega]; exact ya8 (by omega)); obtain ⟨ro, _, _, ha, hl⟩ := (hR.keep hk fun x _ => by simp).at hlt; have hx := h.ok rs[i] (List.getElem_mem hlt); obtain ⟨g, hg⟩ : ∃ g, g = rs[i] := ⟨_, rfl⟩; rw [← hg] at hl hx; obtain ⟨s1, hs1⟩ : ∃ s1 : St, s1 = ⟨s.objs ++ [.cells g.cells], s.toks⟩ := ⟨_, rfl⟩; have hst := ydd (σ := s) hx; rw [← hs1] at hst; have K1 : KS [] s s1 := (by rw [hs1]; exact KS.push _ _ _); have ho : s1.objs[s.objs.length]? = some (.cells g.cells) := (by rw [hs1]; exact yap _ _); have hz : yah (V.agg [.str [], .nils, .nils]) = [.str [], .nils, .nils] := rfl; have kσ := hk.trans' K1; have lo : yad Tryz.prog s1.objs 4 (.optr r 2) = some (.bool d.on) := (by rw [yab (kσ.ko _ _ (by simp) o) G4]; rfl); have ln : yad Tryz.prog s1.objs 9 (.optr s.objs.length 0) = some (.str g.f.name) := by rw [yab ho G9]; rfl
   cases hon : d.on with
   | false =>
     rw [hon] at lo h3; simp only [k59_a, WKV, Nat.reduceLT, Nat.reduceEqDiff, ↓reduceIte, reduceCtorEq, Nat.reduceAdd, Int.reduceLT, Int.reduceNeg, yac, h11, h10, h9, h0, hlt', decide_true, ha, hl, ZFi, ycn, hz, hst, rFA r 2 (by omega), lo, hwi]; exact ⟨i + 1, ⟨by simp [yaa], by omega, kσ, by simpa [yaa] using h3.keep K1.tk⟩, by omega⟩
   | true =>
     rw [hon] at lo h3; simp only [if_true, List.length_map, List.length_take, Nat.min_eq_left (Nat.le_of_lt hlt)] at h3; obtain ⟨v', s2, a1, a2, a3, a4⟩ := (h3.keep K1.tk).append SR rfl kσ.keep (t2 := 70) (y := .slice .exact 1 [.str g.f.name] 1) (ys := [.str g.f.name]) (l := 1) (by simp [ycP, TSS]) rfl rfl (by omega) (by omega); simp only [k59_a, WKV, Nat.reduceLT, Nat.reduceEqDiff, ↓reduceIte, reduceCtorEq, Nat.reduceAdd, Int.reduceLT, Int.reduceNeg, yac, h11, h10, h9, h0, hlt', decide_true, ha, hl, ZFi, ycn, hz, hst, rFA r 2 (by omega), lo, ynQ, ln, sb1, a1, hwi]; refine ⟨i + 1, ⟨by simp [yaa], by omega, KS.ofKeep a3, ?_⟩, by omega⟩; simp only [yaa, if_true, List.length_map, List.length_take, Nat.min_eq_left (show i + 1 ≤ rs.length from hlt)]; rw [List.take_succ_eq_append_getElem hlt, List.map_append, List.map_append, ← hg]; simpa [yaa] using a2
 · have hlt' : ¬ (i : Int) < rs.length := (by omega); have hall : rs.take i = rs := List.take_of_length_le (by omega); rw [hall, ← hnm] at h3; simp only [k59_a, WKV, Nat.reduceLT, Nat.reduceEqDiff, ↓reduceIte, reduceCtorEq, Nat.reduceAdd, Int.reduceLT, Int.reduceNeg, yac, h11, h10, hlt', decide_false]; exact ⟨_, rfl, h3.row, hk⟩
theorem RefAt.pushes {σ σ' : St} {r : Nat} {d : Dk} {q : Option Nat} {rs : List RE} (h : RefAt σ r d q rs) (hk : KS [] σ σ') : RefAt σ' r d q rs := h.keep hk fun x _ => by simp
theorem ylU : isTrue (ycS Tryz.prog prims 300 25 [] st0) = true := by kernel_rfl
theorem yjI : ∃ σ, Does Tryz.prog prims 25 [] st0 (.ret (.bool true)) σ := by
 obtain ⟨σ, h⟩ := ymv ylU; exact ⟨σ, 300, h⟩
theorem yhg {v w : V} {xs bs : List UInt8} {σ : St} (hv : RB σ v xs) (hw : RB σ w bs) (hla : xs.length ≤ 140737488355328) : Does Tryz.prog prims 76 [v, w] σ (.ret (.bool (decide (xs = bs)))) σ := by
 apply k76_is.ret (by simp); by_cases hlen : xs.length = bs.length
 · have hne : decide ((xs.length : Int) = bs.length) = true := (by simp [hlen]); simp only [k76_a, WKV, Nat.reduceLT, Nat.reduceEqDiff, ↓reduceIte, reduceCtorEq, Nat.reduceAdd, Int.reduceLT, Int.reduceNeg, yac, gD0, gD1, hv.len, hw.len, hne]; refine Ev.loopF (fun i e σ' => σ' = σ ∧ e 13 = .int .i64 (i : Nat) ∧ i ≤ xs.length ∧ xs.take i = bs.take i) (fun i => xs.length - i) 0 ⟨rfl, by simp [yaa], by simp, by simp⟩ ?_; rintro i e σ' ⟨rfl, h13, hi, htk⟩ hf; have h0 : e 0 = v := (hf 0 (by decide)).trans (by simp [yaa]); have h1 : e 1 = w := (hf 1 (by decide)).trans (by simp [yaa]); have h12 : e 12 = .int .i64 xs.length := (hf 12 (by decide)).trans (by simp [yaa]); by_cases hlt : i < xs.length
   · have hlt' : (i : Int) < xs.length := (by omega); have hltb : i < bs.length := (by omega); have hwi : IntKind.i64.wrap ((i : Int) + 1) = ((i + 1 : Nat) : Int) := (by rw [show ((i : Int) + 1) = ((i + 1 : Nat) : Int) from by omega]; exact ya8 (by omega)); obtain ⟨p, hp, hlp⟩ := hv.at hlt; obtain ⟨q, hq, hlq⟩ := hw.at hltb; by_cases he : xs[i] = bs[i]
     · have hd : decide (((xs[i].toNat : Nat) : Int) = bs[i].toNat) = true := (by simp [he]); simp only [k76_a, WKV, Nat.reduceLT, Nat.reduceEqDiff, ↓reduceIte, reduceCtorEq, Nat.reduceAdd, Int.reduceLT, Int.reduceNeg, yac, h0, h1, h12, h13, hlt', hp, hq, hlp, hlq, hd, hwi]; refine ⟨i + 1, ⟨rfl, hlt, ?_⟩, by omega⟩; rw [List.take_succ_eq_append_getElem hlt, List.take_succ_eq_append_getElem hltb, htk, he]
     · have hd : decide (((xs[i].toNat : Nat) : Int) = bs[i].toNat) = false := by
         simp only [decide_eq_false_iff_not]; intro h; exact he (UInt8.toNat_inj.1 (by omega))
       simp only [k76_a, WKV, Nat.reduceLT, Nat.reduceEqDiff, ↓reduceIte, reduceCtorEq, Nat.reduceAdd, Int.reduceLT, Int.reduceNeg, yac, h0, h1, h12, h13, hlt', hp, hq, hlp, hlq, hd, hwi]; have : xs ≠ bs := (by rintro rfl; exact he rfl); simp [this]
   · have hlt' : ¬ (i : Int) < xs.length := (by omega); simp only [k76_a, WKV, Nat.reduceLT, Nat.reduceEqDiff, ↓reduceIte, reduceCtorEq, Nat.reduceAdd, Int.reduceLT, Int.reduceNeg, yac, h0, h1, h12, h13, hlt']
     have : xs = bs := by
       rw [List.take_of_length_le (by omega), List.take_of_length_le (by omega)] at htk; exact htk
     simp [this]
 · have hne : decide ((xs.length : Int) = bs.length) = false := (by simp; omega); simp only [k76_a, WKV, Nat.reduceLT, Nat.reduceEqDiff, ↓reduceIte, reduceCtorEq, Nat.reduceAdd, Int.reduceLT, Int.reduceNeg, yac, gD0, gD1, hv.len, hw.len, hne]; have : xs ≠ bs := (by rintro rfl; exact hlen rfl); simp [this]
def yar (r : List UInt8) : List UInt8 := ybR (BitVec.ofNat 32 r.length) ++ ybR (ydy r) ++ r
def ybI (r : List UInt8) : List UInt8 × Nat := if 65536 < r.length then ([], 3) else (yar r, 0)
theorem yhw (r : List UInt8) : (yar r).length = 8 + r.length := by
 unfold yar; rw [List.length_append, List.length_append, yba, yba]
def yca (b : List UInt8) (i : Nat) : Option Nat :=
 if b.length < i + 8 then none else
 if 65536 < (w4 b i).toNat ∨ b.length < i + 8 + (w4 b i).toNat then none else
 if ydy ((b.drop (i + 8)).take (w4 b i).toNat) = w4 b (i + 4) then some (w4 b i).toNat else none
inductive Recs (b : List UInt8) : Nat → List (List UInt8) → Nat → Prop where
 | stop {i : Nat} (h : yca b i = none) : Recs b i [] i
 | more {i n : Nat} {l : List (List UInt8)} {e : Nat} (h : yca b i = some n) (r : Recs b (i + 8 + n) l e) : Recs b i ((b.drop (i + 8)).take n :: l) e
theorem ymg {b : List UInt8} {i n : Nat} (h : yca b i = some n) : i + 8 + n ≤ b.length ∧ n ≤ 65536 ∧ n = (w4 b i).toNat ∧ ydy ((b.drop (i + 8)).take n) = w4 b (i + 4) := by
 unfold yca at h; split at h
 · cases h
 split at h
 · cases h
 split at h
 · injection h with h; subst h; exact ⟨by omega, by omega, rfl, by assumption⟩
 · cases h
theorem build8 (a b c d e f g h : UInt8) : yas Tryz.prog 30 8 [(0, yal a), (1, yal b), (2, yal c), (3, yal d), (4, yal e), (5, yal f), (6, yal g), (7, yal h)] = some (.slice .exact 1 ([a, b, c, d, e, f, g, h].map yal) 8) := by
 have r : List.range 8 = [0, 1, 2, 3, 4, 5, 6, 7] := (by decide); simp [yas, T22, S5, BT.z, yah, yc8, yau, ybq, yal, r]
theorem yhj {σ : St} (r : BitVec 32) : Does Tryz.prog prims 88 [.int .u32 ((r.toNat : Nat) : Int)] σ (.ret (.slice .exact 1 ((ybR r).map yal) 4)) σ := by
 apply k88_is.ret (by simp); simp only [k88_a, WKV, Nat.reduceLT, Nat.reduceEqDiff, ↓reduceIte, reduceCtorEq, Nat.reduceAdd, Int.reduceLT, Int.reduceNeg, yac, gD0, ybd, conv8, shr8, shr16, shr24, build4]; rfl
theorem ylF {σ : St} {x : V} {r : List UInt8} (hb : BtsV x r) (hl : r.length ≤ 100000000) :
   ∃ q σ', Does Tryz.prog prims 64 [x] σ q σ' ∧ ∃ v, q = .ret (.tuple [v, .int .i64 ((ybI r).2 : Nat)]) ∧ BtsV v (ybI r).1 ∧ Keep σ σ' := by
 apply k64_is.does (by simp); have hlen := hb.len T22; by_cases hbig : 65536 < r.length
 · have hbig' : (65536 : Int) < ((r.length : Nat) : Int) := (by omega); have e : ybI r = ([], 3) := (by unfold ybI; rw [if_pos hbig]); simp only [k64_a, WKV, Nat.reduceLT, Nat.reduceEqDiff, ↓reduceIte, reduceCtorEq, Nat.reduceAdd, Int.reduceLT, Int.reduceNeg, yac, gD0, gD1, ybd, hlen, hbig', decide_true, e]; exact ⟨.nils, rfl, .inl ⟨rfl, rfl⟩, Keep.refl _⟩
 have hbig' : ¬ (65536 : Int) < ((r.length : Nat) : Int) := (by omega); have e : ybI r = (yar r, 0) := (by unfold ybI; rw [if_neg hbig]); obtain ⟨B, hB⟩ : ∃ B, B = BitVec.ofNat 32 r.length := ⟨_, rfl⟩; have hB' : BitVec.ofInt 32 ((r.length : Nat) : Int) = B := (by rw [hB]; simp); have c2 := ypB ((r.length : Nat) : Int); rw [hB'] at c2; obtain ⟨C, hC⟩ : ∃ C, C = ydy r := ⟨_, rfl⟩; have hs := ygL (σ := σ) hb (by omega); rw [← hC] at hs; have hbl := build8 (UInt8.ofNat B.toNat) (UInt8.ofNat (B >>> 8).toNat) (UInt8.ofNat (B >>> 16).toNat) (UInt8.ofNat (B >>> 24).toNat) (UInt8.ofNat C.toNat) (UInt8.ofNat (C >>> 8).toNat) (UInt8.ofNat (C >>> 16).toNat) (UInt8.ofNat (C >>> 24).toNat); rw [show [UInt8.ofNat B.toNat, UInt8.ofNat (B >>> 8).toNat, UInt8.ofNat (B >>> 16).toNat, UInt8.ofNat (B >>> 24).toNat, UInt8.ofNat C.toNat, UInt8.ofNat (C >>> 8).toNat, UInt8.ofNat (C >>> 16).toNat, UInt8.ofNat (C >>> 24).toNat] = ybR B ++ ybR C from rfl] at hbl; obtain ⟨v1, s1, a1, a2, a3, a4⟩ := OwnV.append' (P := Tryz.prog) (t := 30) (t2 := 30) BT (σ := σ) (show OwnV 5 σ.toks.length σ (.slice .exact 1 ((ybR B ++ ybR C).map yal) 8) (ybR B ++ ybR C) from .inr ⟨.exact, rfl, .inl rfl⟩) (σ0 := σ) rfl (Keep.refl σ) T22 hb (by rw [List.length_append, yba, yba]; omega); simp only [k64_a, WKV, Nat.reduceLT, Nat.reduceEqDiff, ↓reduceIte, reduceCtorEq, Nat.reduceAdd, Int.reduceLT, Int.reduceNeg, yac, gD0, gD1, ybd, hlen, hbig', decide_false, c2]; refine KD.ret hs ?_; simp only [k64_a, WKV, Nat.reduceLT, Nat.reduceEqDiff, ↓reduceIte, reduceCtorEq, Nat.reduceAdd, Int.reduceLT, Int.reduceNeg, yac, gD0, gD1, uV, conv8, shr8, shr16, shr24, hbl, a1, e]; refine ⟨v1, rfl, ?_, a3⟩; have : yar r = ybR B ++ ybR C ++ r := (by rw [hB, hC]; rfl); rw [this]; exact a2.bts
theorem yga {σ : St} {x : V} {r : List UInt8} (hb : BtsV x r) (hl : r.length ≤ 100000000) :
   ∃ q σ', Does Tryz.prog prims 66 [x] σ q σ' ∧ ∃ v, q = .ret (.tuple [v, .int .i64 ((ybI r).2 : Nat)]) ∧ BtsV v (ybI r).1 ∧ Keep σ σ' := by
 apply k66_is.does (by simp); have hlen := hb.len T22; by_cases hbig : 65536 < r.length
 · have hbig' : (65536 : Int) < ((r.length : Nat) : Int) := (by omega); have e : ybI r = ([], 3) := (by unfold ybI; rw [if_pos hbig]); simp only [k66_a, WKV, Nat.reduceLT, Nat.reduceEqDiff, ↓reduceIte, reduceCtorEq, Nat.reduceAdd, Int.reduceLT, Int.reduceNeg, yac, gD0, gD1, ybd, hlen, hbig', decide_true, e]; exact ⟨.nils, rfl, .inl ⟨rfl, rfl⟩, Keep.refl _⟩
 have hbig' : ¬ (65536 : Int) < ((r.length : Nat) : Int) := (by omega); have e : ybI r = (yar r, 0) := (by unfold ybI; rw [if_neg hbig]); obtain ⟨B, hB⟩ : ∃ B, B = BitVec.ofNat 32 r.length := ⟨_, rfl⟩; have hB' : BitVec.ofInt 32 ((r.length : Nat) : Int) = B := (by rw [hB]; simp); have c2 := ypB ((r.length : Nat) : Int); rw [hB'] at c2; obtain ⟨C, hC⟩ : ∃ C, C = ydy r := ⟨_, rfl⟩; have hs := ynv (σ := σ) hb (by omega); rw [← hC] at hs; obtain ⟨v1, s1, a1, a2, a3, a4⟩ := OwnV.append' (P := Tryz.prog) (t := 30) (t2 := 30) BT (yoL (σ := σ) (m := σ.toks.length) B) (σ0 := σ) rfl (Keep.refl σ) T22 (yo3 C) (by rw [yba, yba]; omega); obtain ⟨v2, s2, b1, b2, b3, b4⟩ := a2.append' BT (σ0 := σ) rfl a3 T22 hb (by rw [List.length_append, yba, yba]; omega); simp only [k66_a, WKV, Nat.reduceLT, Nat.reduceEqDiff, ↓reduceIte, reduceCtorEq, Nat.reduceAdd, Int.reduceLT, Int.reduceNeg, yac, gD0, gD1, ybd, hlen, hbig', decide_false, c2]; refine KD.ret (yhj B) ?_; simp only [k66_a, WKV, Nat.reduceLT, Nat.reduceEqDiff, ↓reduceIte, reduceCtorEq, Nat.reduceAdd, Int.reduceLT, Int.reduceNeg, yac, gD0, gD1]; refine KD.ret hs ?_; simp only [k66_a, WKV, Nat.reduceLT, Nat.reduceEqDiff, ↓reduceIte, reduceCtorEq, Nat.reduceAdd, Int.reduceLT, Int.reduceNeg, yac, gD0, gD1, uV]; refine KD.ret (yhj C) ?_; simp only [k66_a, WKV, Nat.reduceLT, Nat.reduceEqDiff, ↓reduceIte, reduceCtorEq, Nat.reduceAdd, Int.reduceLT, Int.reduceNeg, yac, gD0, gD1, a1, b1, e]; refine ⟨v2, rfl, ?_, b3⟩; have : yar r = ybR B ++ ybR C ++ r := (by rw [hB, hC]; rfl); rw [this]; exact b2.bts
theorem or64 (a y k : Nat) (ha : a < 2 ^ k) (hk : k ≤ 24) (hy : y < 256) : ydm .or .i64 ((a : Nat) : Int) ((y * 2 ^ k : Nat) : Int) = some (((a + y * 2 ^ k : Nat)) : Int) := by
 have h2 : 2 ^ k ≤ 2 ^ 24 := Nat.pow_le_pow_right (by decide) hk; have h3 : y * 2 ^ k ≤ 255 * 2 ^ 24 := Nat.mul_le_mul (by omega) h2; have e24 : (2 : Nat) ^ 24 = 16777216 := (by decide); have ea : BitVec.ofInt 64 ((a : Nat) : Int) = BitVec.ofNat 64 a := (by simp); have ey : BitVec.ofInt 64 ((y * 2 ^ k : Nat) : Int) = BitVec.ofNat 64 (y * 2 ^ k) := by rw [BitVec.ofInt_natCast]
 have hor : (BitVec.ofNat 64 a ||| BitVec.ofNat 64 (y * 2 ^ k)).toNat = a + y * 2 ^ k := by
   have m1 : a % 2 ^ 64 = a := Nat.mod_eq_of_lt (by omega); have m2 : y * 2 ^ k % 2 ^ 64 = y * 2 ^ k := Nat.mod_eq_of_lt (by omega); rw [BitVec.toNat_or, BitVec.toNat_ofNat, BitVec.toNat_ofNat, m1, m2, Nat.or_comm, ← Nat.shiftLeft_eq, ← Nat.shiftLeft_add_eq_or_of_lt ha, Nat.shiftLeft_eq, Nat.add_comm]
 show some (IntKind.i64.wrap (((BitVec.ofInt 64 ((a : Nat) : Int) ||| BitVec.ofInt 64 ((y * 2 ^ k : Nat) : Int)).toNat : Nat) : Int)) = _; rw [ea, ey, hor, yae (by omega) (by omega)]
theorem size64 (p q r t : UInt8) : IntKind.i64.wrap (((q.toNat : Nat) : Int) * (2 : Int) ^ (min (8 : Int).toNat IntKind.i64.bits)) = ((q.toNat * 2 ^ 8 : Nat) : Int) ∧ IntKind.i64.wrap (((r.toNat : Nat) : Int) * (2 : Int) ^ (min (16 : Int).toNat IntKind.i64.bits)) = ((r.toNat * 2 ^ 16 : Nat) : Int) ∧ IntKind.i64.wrap (((t.toNat : Nat) : Int) * (2 : Int) ^ (min (24 : Int).toNat IntKind.i64.bits)) = ((t.toNat * 2 ^ 24 : Nat) : Int) ∧
   ydm .or .i64 ((p.toNat : Nat) : Int) ((q.toNat * 2 ^ 8 : Nat) : Int) = some ((p.toNat + q.toNat * 2 ^ 8 : Nat) : Int) ∧ ydm .or .i64 ((p.toNat + q.toNat * 2 ^ 8 : Nat) : Int) ((r.toNat * 2 ^ 16 : Nat) : Int) = some ((p.toNat + q.toNat * 2 ^ 8 + r.toNat * 2 ^ 16 : Nat) : Int) ∧
   ydm .or .i64 ((p.toNat + q.toNat * 2 ^ 8 + r.toNat * 2 ^ 16 : Nat) : Int) ((t.toNat * 2 ^ 24 : Nat) : Int) = some ((p.toNat + q.toNat * 2 ^ 8 + r.toNat * 2 ^ 16 + t.toNat * 2 ^ 24 : Nat) : Int) := by
 have h0 := p.toNat_lt; have h1 := q.toNat_lt; have h2 := r.toNat_lt; have h3 := t.toNat_lt; have m8 : (2 : Int) ^ (min (8 : Int).toNat IntKind.i64.bits) = 256 := (by decide); have m16 : (2 : Int) ^ (min (16 : Int).toNat IntKind.i64.bits) = 65536 := (by decide); have m24 : (2 : Int) ^ (min (24 : Int).toNat IntKind.i64.bits) = 16777216 := (by decide); refine ⟨?_, ?_, ?_, or64 _ _ 8 (by omega) (by omega) (by omega), or64 _ _ 16 (by omega) (by omega) (by omega), or64 _ _ 24 (by omega) (by omega) (by omega)⟩
 · rw [m8, yae (by omega) (by omega)]; omega
 · rw [m16, yae (by omega) (by omega)]; omega
 · rw [m24, yae (by omega) (by omega)]; omega
theorem w4_pow (b : List UInt8) (i : Nat) : (w4 b i).toNat = (b.getD i 0).toNat + (b.getD (i + 1) 0).toNat * 2 ^ 8 + (b.getD (i + 2) 0).toNat * 2 ^ 16 + (b.getD (i + 3) 0).toNat * 2 ^ 24 := ylo b i
theorem ynI {b : List UInt8} (i j : Nat) : (b.drop i).getD j 0 = b.getD (i + j) 0 := by
 rw [gA6, gA6, List.getElem?_drop]
theorem BBR : RowT Tryz.prog 60 30 1 24 := ⟨TBB, SBs, ⟨_, (by kernel_rfl : ybl Tryz.prog 30 = some .nils), rfl⟩, by kernel_rfl, by omega⟩
theorem ynY (a : V) (h1 : one a = true) : yas Tryz.prog 60 1 [(0, a)] = some (.slice .exact 1 [a] 1) := by
 have hz : ybl Tryz.prog 30 = some .nils := (by kernel_rfl); have e : List.range 1 = [0] := (by decide); have hn : yah V.nils = [V.nils] := rfl; simp [yas, TBB, SBB, hz, hn, yau, yc8, ybq, e, yc2 h1, h1]
structure OwnB (m : Nat) (s : St) (w : V) (ps : List BV) : Prop where
 o : OwnR 30 1 m s w (ps.map Prod.fst) ps.length
 b : ∀ p ∈ ps, BtsV p.1 p.2
theorem OwnB.nil {m : Nat} {s : St} : OwnB m s .nils [] := ⟨OwnR.nil, fun p hp => by cases hp⟩
theorem OwnB.app {m : Nat} {s0 s : St} {w v : V} {ps : List BV} {bs : List UInt8} (h : OwnB m s w ps) (hm : m = s0.toks.length) (hk : Keep s0 s) (hv : BtsV v bs) (hl : ps.length ≤ 1000000000) :
   ∃ w' s', yaY Tryz.prog s 60 60 w (.slice .exact 1 [v] 1) = some (w', s') ∧ OwnB m s' w' (ps ++ [(v, bs)]) ∧ Keep s0 s' ∧ s'.objs = s.objs := by
 obtain ⟨w', s', a1, a2, a3, a4⟩ := h.o.appendO BBR (σ0 := s0) hm hk (t2 := 60) (y := .slice .exact 1 [v] 1) (ys := [v]) (l := 1) (by simp [ybu, ycP, TBB]) rfl (by simp [hv.one]) (by omega) (by omega); refine ⟨w', s', a1, ⟨by simpa using a2, fun p hp => ?_⟩, a3, a4⟩; rcases List.mem_append.1 hp with hp | hp
 · exact h.b p hp
 · rw [List.mem_singleton] at hp; subst hp; exact hv
theorem OwnB.keep {m : Nat} {s s' : St} {w : V} {ps : List BV} (h : OwnB m s w ps) (hk : ∀ k, yax s.toks k = true → yax s'.toks k = true) : OwnB m s' w ps := ⟨h.o.keep hk, h.b⟩
theorem OwnB.pts {m : Nat} {s : St} {w : V} {ps : List BV} (h : OwnB m s w ps) : PtsV w ps := h.o.row
theorem yp9 {b : List UInt8} {i j : Nat} (hj : j < 8) (h : i + 8 ≤ b.length) : ((b.drop i).take 8).getD j 0 = b.getD (i + j) 0 := by
 rw [gA6, List.getElem?_take_of_lt hj, List.getElem?_drop, ← gA6]
theorem yiN {σ : St} {x : V} {b : List UInt8} {l : List (List UInt8)} {en : Nat} (hb : BtsV x b) (hl : b.length ≤ 100000000) (hR : Recs b 0 l en) :
   ∃ q σ', Does Tryz.prog prims 89 [x] σ q σ' ∧ ∃ w ps, q = .ret (.tuple [w, .int .i64 (en : Nat)]) ∧ OwnB σ.toks.length σ' w ps ∧ ps.map Prod.snd = l ∧ Keep σ σ' := by
 apply k89_is.does (by simp); have hlen := hb.len T22; simp only [k89_a, WKV, Nat.reduceLT, Nat.reduceEqDiff, ↓reduceIte, reduceCtorEq, Nat.reduceAdd, Int.reduceLT, Int.reduceNeg, yac, gD0, gD1, ybd]; refine Ev.loopF (fun (i : Nat) e s => e 5 = .int .i64 (i : Nat) ∧ i ≤ b.length ∧ ∃ ps rest, OwnB σ.toks.length s (e 4) ps ∧ Recs b i rest en ∧ l = ps.map Prod.snd ++ rest ∧ ps.length ≤ i ∧ Keep σ s) (fun i => b.length - i) 0 ?_ ?_
 · exact ⟨by simp [yaa], Nat.zero_le _, [], l, by simpa [yaa] using OwnB.nil, hR, rfl, Nat.le_refl _, Keep.refl _⟩
 rintro i e s ⟨h5, hi, ps, rest, hO, hr, hll, hpl, hk⟩ hf; have g0 : e 0 = x := (hf 0 (by decide)).trans (by simp [yaa]); clear hf; have w1 : IntKind.i64.wrap (((b.length : Nat) : Int) - (i : Nat)) = ((b.length - i : Nat) : Int) := (by rw [yae (by omega) (by omega)]; omega); by_cases h8 : b.length < i + 8
 · have h8' : ¬ (8 : Int) ≤ ((b.length - i : Nat) : Int) := (by omega); have hn : yca b i = none := by unfold yca; rw [if_pos h8]
   cases hr with
   | more h _ => rw [hn] at h; cases h
   | stop h =>
     simp only [k89_a, WKV, Nat.reduceLT, Nat.reduceEqDiff, ↓reduceIte, reduceCtorEq, Nat.reduceAdd, Int.reduceLT, Int.reduceNeg, yac, g0, h5, hlen, w1, h8', decide_false]; exact ⟨_, ps, rfl, hO, by rw [hll, List.append_nil], hk⟩
 have h8' : (8 : Int) ≤ ((b.length - i : Nat) : Int) := (by omega); have w2 : IntKind.i64.wrap ((i : Int) + 8) = ((i + 8 : Nat) : Int) := (by rw [yae (by omega) (by omega)]; omega); obtain ⟨vh, hh, bh⟩ := hb.slice (t := 30) T22 S5 (ydN (k := .i64) (k' := .i64) (n := (i : Int)) (m := ((i + 8 : Nat) : Int)) (len := b.length) (by omega) (by omega) (by omega)) (by omega) (by omega); rw [Int.toNat_natCast, Int.toNat_natCast, show i + 8 - i = 8 from by omega] at bh; have hhl : ((b.drop i).take 8).length = 8 := (by rw [List.length_take, List.length_drop]; omega); obtain ⟨m1, m2, m3, o1, o2, o3⟩ := size64 (b.getD i 0) (b.getD (i + 1) 0) (b.getD (i + 2) 0) (b.getD (i + 3) 0); have hw := w4_pow b i; rw [← hw] at o3; clear hw; generalize hS : (w4 b i).toNat = S at o3; have t0 : yai Tryz.prog 30 vh (.int .i64 0) = some (.eptr (((b.drop i).take 8).map yal) 0) := bh.at' (i := 0) (by omega); have t1 : yai Tryz.prog 30 vh (.int .i64 1) = some (.eptr (((b.drop i).take 8).map yal) 1) := bh.at' (i := 1) (by omega); have t2 : yai Tryz.prog 30 vh (.int .i64 2) = some (.eptr (((b.drop i).take 8).map yal) 2) := bh.at' (i := 2) (by omega); have t3 : yai Tryz.prog 30 vh (.int .i64 3) = some (.eptr (((b.drop i).take 8).map yal) 3) := bh.at' (i := 3) (by omega); have t4 : yai Tryz.prog 30 vh (.int .i64 4) = some (.eptr (((b.drop i).take 8).map yal) 4) := bh.at' (i := 4) (by omega); have t5 : yai Tryz.prog 30 vh (.int .i64 5) = some (.eptr (((b.drop i).take 8).map yal) 5) := bh.at' (i := 5) (by omega); have t6 : yai Tryz.prog 30 vh (.int .i64 6) = some (.eptr (((b.drop i).take 8).map yal) 6) := bh.at' (i := 6) (by omega); have t7 : yai Tryz.prog 30 vh (.int .i64 7) = some (.eptr (((b.drop i).take 8).map yal) 7) := bh.at' (i := 7) (by omega)
 have ld : ∀ (objs : List Ob) (j : Nat) (hj : j < 8), yad Tryz.prog objs 5 (.eptr (((b.drop i).take 8).map yal) j) = some (.int .u8 ((b.getD (i + j) 0).toNat : Nat)) := fun objs j hj => by
   rw [yn4 (by omega), yp9 hj (by omega)]
 have l0 := fun objs => ld objs 0 (by omega); rw [Nat.add_zero] at l0; have l1 := fun objs => ld objs 1 (by omega); have l2 := fun objs => ld objs 2 (by omega); have l3 := fun objs => ld objs 3 (by omega); have l4 := fun objs => ld objs 4 (by omega); have l5 := fun objs => ld objs 5 (by omega); have l6 := fun objs => ld objs 6 (by omega); have l7 := fun objs => ld objs 7 (by omega); simp only [k89_a, WKV, Nat.reduceLT, Nat.reduceEqDiff, ↓reduceIte, reduceCtorEq, Nat.reduceAdd, Int.reduceLT, Int.reduceNeg, yac, g0, h5, hlen, w1, h8', decide_true, w2, T22, hh, t0, t1, t2, t3, l0, l1, l2, l3, ynF, m1, m2, m3, o1, o2, o3]; clear m1 m2 m3 o1 o2 o3 l0 l1 l2 l3 t0 t1 t2 t3; by_cases hbig : 65536 < S
 · have hbig' : (65536 : Int) < (S : Nat) := Int.ofNat_lt.2 hbig; have hn : yca b i = none := by unfold yca; rw [if_neg h8, hS, if_pos (.inl hbig)]
   cases hr with
   | more h _ => rw [hn] at h; cases h
   | stop h =>
     simp only [k89_a, WKV, Nat.reduceLT, Nat.reduceEqDiff, ↓reduceIte, reduceCtorEq, Nat.reduceAdd, Int.reduceLT, Int.reduceNeg, yac, g0, h5, hbig', decide_true]; exact ⟨_, ps, rfl, hO, by rw [hll, List.append_nil], hk⟩
 have hbig' : ¬ (65536 : Int) < (S : Nat) := fun h => hbig (Int.ofNat_lt.1 h); have w3 : IntKind.i64.wrap (((b.length - i : Nat) : Int) - 8) = ((b.length - i - 8 : Nat) : Int) := (by rw [yae (by omega) (by omega)]; omega); by_cases hlong : b.length < i + 8 + S
 · have hlong' : ((b.length - i - 8 : Nat) : Int) < (S : Nat) := (by omega); have hn : yca b i = none := by unfold yca; rw [if_neg h8, hS, if_pos (.inr hlong)]
   cases hr with
   | more h _ => rw [hn] at h; cases h
   | stop h =>
     simp only [k89_a, WKV, Nat.reduceLT, Nat.reduceEqDiff, ↓reduceIte, reduceCtorEq, Nat.reduceAdd, Int.reduceLT, Int.reduceNeg, yac, g0, h5, hlen, w1, w3, hbig', hlong', decide_true, decide_false]; exact ⟨_, ps, rfl, hO, by rw [hll, List.append_nil], hk⟩
 have hlong' : ¬ ((b.length - i - 8 : Nat) : Int) < (S : Nat) := (by omega); have w4' : IntKind.i64.wrap (((i + 8 : Nat) : Int) + (S : Nat)) = ((i + 8 + S : Nat) : Int) := (by rw [yae (by omega) (by omega)]; omega); obtain ⟨vr, hvr, br⟩ := hb.slice (t := 30) T22 S5 (ydN (k := .i64) (k' := .i64) (n := ((i + 8 : Nat) : Int)) (m := ((i + 8 + S : Nat) : Int)) (len := b.length) (by omega) (by omega) (by omega)) (by omega) (by omega); rw [Int.toNat_natCast, Int.toNat_natCast, show i + 8 + S - (i + 8) = S from by omega] at br; have hrl : ((b.drop (i + 8)).take S).length = S := (by rw [List.length_take, List.length_drop]; omega); have hs := ygL (σ := s) br (by omega); simp only [k89_a, WKV, Nat.reduceLT, Nat.reduceEqDiff, ↓reduceIte, reduceCtorEq, Nat.reduceAdd, Int.reduceLT, Int.reduceNeg, yac, g0, h5, hlen, w1, w2, w3, w4', hbig', hlong', decide_false, T22, hvr]; refine KD.ret hs ?_; have hwe : BitVec.ofNat 32 (b.getD (i + 4) 0).toNat ||| BitVec.ofNat 32 (b.getD (i + 5) 0).toNat <<< 8 ||| BitVec.ofNat 32 (b.getD (i + 6) 0).toNat <<< 16 ||| BitVec.ofNat 32 (b.getD (i + 7) 0).toNat <<< 24 = w4 b (i + 4) := rfl; by_cases hc : ydy ((b.drop (i + 8)).take S) = w4 b (i + 4)
 · have hn : yca b i = some S := (by unfold yca; rw [if_neg h8, hS, if_neg (by omega), if_pos hc]); have hc' : (((ydy ((b.drop (i + 8)).take S)).toNat : Nat) : Int) = (((w4 b (i + 4)).toNat : Nat) : Int) := by rw [hc]
   cases hr with
   | stop h => rw [hn] at h; cases h
   | more h hr' =>
     rw [hn] at h; injection h with h; subst h; rename_i rest'; obtain ⟨v5, s5, a1, a2, a3, a4⟩ := OwnV.append' (P := Tryz.prog) (t := 30) (t2 := 30) BT (σ := s) (show OwnV 5 s.toks.length s (.slice .exact 1 [] 0) [] from .inr ⟨.exact, rfl, .inl rfl⟩) (σ0 := s) rfl (Keep.refl s) T22 br (by simp; omega); rw [List.nil_append] at a2; obtain ⟨v6, s6, b1, b2, b3, b4⟩ := (hO.keep a3.2.2).app (s0 := σ) rfl (hk.trans a3) a2.bts (by omega); have w5 : IntKind.i64.wrap (8 + ((S : Nat) : Int)) = ((8 + S : Nat) : Int) := (by rw [yae (by omega) (by omega)]; omega); have w6 : IntKind.i64.wrap (((i : Nat) : Int) + ((8 + S : Nat) : Int)) = ((i + 8 + S : Nat) : Int) := (by rw [yae (by omega) (by omega)]; omega); simp only [k89_a, WKV, Nat.reduceLT, Nat.reduceEqDiff, ↓reduceIte, reduceCtorEq, Nat.reduceAdd, Int.reduceLT, Int.reduceNeg, yac, uV, t4, t5, t6, t7, l4, l5, l6, l7, yns, shl8, shl16, shl24, ypF, hwe, hc', eq_self, decide_true, Bool.not_true, ypr BT, a1, ynY v5 a2.bts.one, b1, h5, w5, w6]; refine ⟨i + 8 + S, ⟨by simp [yaa], by omega, _, rest', by simpa [yaa] using b2, hr', ?_, by simp; omega, b3⟩, by omega⟩; rw [hll]; simp
 · have hn : yca b i = none := (by unfold yca; rw [if_neg h8, hS, if_neg (by omega), if_neg hc]); have hc' : ¬ (((ydy ((b.drop (i + 8)).take S)).toNat : Nat) : Int) = (((w4 b (i + 4)).toNat : Nat) : Int) := fun h => hc ((yoG _ _).1 h)
   cases hr with
   | more h _ => rw [hn] at h; cases h
   | stop h =>
     simp only [k89_a, WKV, Nat.reduceLT, Nat.reduceEqDiff, ↓reduceIte, reduceCtorEq, Nat.reduceAdd, Int.reduceLT, Int.reduceNeg, yac, uV, t4, t5, t6, t7, l4, l5, l6, l7, yns, shl8, shl16, shl24, ypF, hwe, hc', decide_false, Bool.not_false, h5]; exact ⟨_, ps, rfl, hO, by rw [hll, List.append_nil], hk⟩
theorem yl7 {b : List UInt8} {i n : Nat} (h : i + 8 + n ≤ b.length) : (b.drop i).take (8 + n) = ybR (w4 b i) ++ ybR (w4 b (i + 4)) ++ (b.drop (i + 8)).take n := by
 rw [yoh (by omega), yoh (by omega)]; have h1 : (b.drop i).take (8 + n) = (b.drop i).take 8 ++ ((b.drop i).drop 8).take n := List.take_add (i := 8) (j := n); have h2 : (b.drop i).take 8 = (b.drop i).take 4 ++ ((b.drop i).drop 4).take 4 := List.take_add (i := 4) (j := 4); rw [h1, h2, List.drop_drop, List.drop_drop]
theorem yoI {b : List UInt8} {i n : Nat} (h : i + 8 + n ≤ b.length) (hn : (w4 b i).toNat = n) : yar ((b.drop (i + 8)).take n) = (b.drop i).take (8 + n) ↔ ydy ((b.drop (i + 8)).take n) = w4 b (i + 4) := by
 have hl : ((b.drop (i + 8)).take n).length = n := by rw [List.length_take, List.length_drop]; omega
 have hw : BitVec.ofNat 32 n = w4 b i := by
   apply BitVec.eq_of_toNat_eq; have := (w4 b i).isLt; rw [BitVec.toNat_ofNat, Nat.mod_eq_of_lt (by omega), hn]
 rw [yl7 h]; unfold yar; rw [hl, hw]; constructor
 · intro he; have h2 := congrArg (fun l => (l.drop 4).take 4) he; simp only [List.append_assoc] at h2; rw [List.drop_left' (yba _), List.drop_left' (yba _), List.take_left' (yba _), List.take_left' (yba _)] at h2; exact ymH h2
 · intro he; rw [he]
theorem yh6 {σ : St} {x : V} {b : List UInt8} {l : List (List UInt8)} {en : Nat} (hb : BtsV x b) (hl : b.length ≤ 100000000) (hR : Recs b 0 l en) :
   ∃ q σ', Does Tryz.prog prims 74 [x] σ q σ' ∧ ∃ w ps, q = .ret (.tuple [w, .int .i64 (en : Nat)]) ∧ OwnB σ.toks.length σ' w ps ∧ ps.map Prod.snd = l ∧ Keep σ σ' := by
 apply k74_is.does (by simp); simp only [k74_a, WKV, Nat.reduceLT, Nat.reduceEqDiff, ↓reduceIte, reduceCtorEq, Nat.reduceAdd, Int.reduceLT, Int.reduceNeg, yac, gD0, gD1, ybd]; refine Ev.loopF (fun (i : Nat) e s => e 5 = .int .i64 (i : Nat) ∧ i ≤ b.length ∧ ∃ ps rest, OwnB σ.toks.length s (e 4) ps ∧ Recs b i rest en ∧ l = ps.map Prod.snd ++ rest ∧ ps.length ≤ i ∧ Keep σ s) (fun i => b.length - i) 0 ?_ ?_
 · exact ⟨by simp [yaa], Nat.zero_le _, [], l, by simpa [yaa] using OwnB.nil, hR, rfl, Nat.le_refl _, Keep.refl _⟩
 rintro i e s ⟨h5, hi, ps, rest, hO, hr, hll, hpl, hk⟩ hf; have g0 : e 0 = x := (hf 0 (by decide)).trans (by simp [yaa]); clear hf; obtain ⟨v6, hv6, b6⟩ := hb.slice (t := 30) T22 S5 (yg9 (k := .i64) (n := (i : Int)) (len := b.length) (by omega) (by omega)) (by omega) (by omega); rw [Int.toNat_natCast, List.take_of_length_le (by rw [List.length_drop]; omega)] at b6; have hdl : (b.drop i).length = b.length - i := List.length_drop; have hl6 := b6.len T22; rw [hdl] at hl6; by_cases h8 : b.length < i + 8
 · have h8' : ((b.length - i : Nat) : Int) < 8 := (by omega); have hn : yca b i = none := by unfold yca; rw [if_pos h8]
   cases hr with
   | more h _ => rw [hn] at h; cases h
   | stop h =>
     simp only [k74_a, WKV, Nat.reduceLT, Nat.reduceEqDiff, ↓reduceIte, reduceCtorEq, Nat.reduceAdd, Int.reduceLT, Int.reduceNeg, yac, g0, h5, T22, hv6, hl6, h8', decide_true]; exact ⟨_, ps, rfl, hO, by rw [hll, List.append_nil], hk⟩
 have h8' : ¬ ((b.length - i : Nat) : Int) < 8 := (by omega); obtain ⟨m5, m6, m7, a5, a6, a7⟩ := rsize (b.getD i 0) (b.getD (i + 1) 0) (b.getD (i + 2) 0) (b.getD (i + 3) 0); rw [← ylo b i] at a7; generalize hS : (w4 b i).toNat = S at a7; have t0 : yai Tryz.prog 30 v6 (.int .i64 0) = some (.eptr ((b.drop i).map yal) 0) := b6.at' (i := 0) (by omega); have t1 : yai Tryz.prog 30 v6 (.int .i64 1) = some (.eptr ((b.drop i).map yal) 1) := b6.at' (i := 1) (by omega); have t2 : yai Tryz.prog 30 v6 (.int .i64 2) = some (.eptr ((b.drop i).map yal) 2) := b6.at' (i := 2) (by omega); have t3 : yai Tryz.prog 30 v6 (.int .i64 3) = some (.eptr ((b.drop i).map yal) 3) := b6.at' (i := 3) (by omega)
 have ld : ∀ (objs : List Ob) (j : Nat) (hj : j < 8), yad Tryz.prog objs 5 (.eptr ((b.drop i).map yal) j) = some (.int .u8 ((b.getD (i + j) 0).toNat : Nat)) := fun objs j hj => by
   rw [yn4 (by omega), ynI]
 have l0 := fun objs => ld objs 0 (by omega); rw [Nat.add_zero] at l0; have l1 := fun objs => ld objs 1 (by omega); have l2 := fun objs => ld objs 2 (by omega); have l3 := fun objs => ld objs 3 (by omega); simp only [k74_a, WKV, Nat.reduceLT, Nat.reduceEqDiff, ↓reduceIte, reduceCtorEq, Nat.reduceAdd, Int.reduceLT, Int.reduceNeg, yac, g0, h5, T22, hv6, hl6, h8', decide_false, t0, t1, t2, t3, l0, l1, l2, l3, ynF, m5, m6, m7, a5, a6, a7]; clear m5 m6 m7 a5 a6 a7 t0 t1 t2 t3 l0 l1 l2 l3 ld; by_cases hbig : 65536 < S
 · have hbig' : (65536 : Int) < (S : Nat) := Int.ofNat_lt.2 hbig; have hn : yca b i = none := by unfold yca; rw [if_neg h8, hS, if_pos (.inl hbig)]
   cases hr with
   | more h _ => rw [hn] at h; cases h
   | stop h =>
     simp only [k74_a, WKV, Nat.reduceLT, Nat.reduceEqDiff, ↓reduceIte, reduceCtorEq, Nat.reduceAdd, Int.reduceLT, Int.reduceNeg, yac, h5, hbig', decide_true]; exact ⟨_, ps, rfl, hO, by rw [hll, List.append_nil], hk⟩
 have hbig' : ¬ (65536 : Int) < (S : Nat) := fun h => hbig (Int.ofNat_lt.1 h); have w5 : IntKind.i64.wrap (8 + ((S : Nat) : Int)) = ((8 + S : Nat) : Int) := (by rw [yae (by omega) (by omega)]; omega); by_cases hlong : b.length < i + 8 + S
 · have hlong' : ((b.length - i : Nat) : Int) < ((8 + S : Nat) : Int) := (by omega); have hn : yca b i = none := by unfold yca; rw [if_neg h8, hS, if_pos (.inr hlong)]
   cases hr with
   | more h _ => rw [hn] at h; cases h
   | stop h =>
     simp only [k74_a, WKV, Nat.reduceLT, Nat.reduceEqDiff, ↓reduceIte, reduceCtorEq, Nat.reduceAdd, Int.reduceLT, Int.reduceNeg, yac, h5, hl6, w5, hbig', hlong', decide_true, decide_false]; exact ⟨_, ps, rfl, hO, by rw [hll, List.append_nil], hk⟩
 have hlong' : ¬ ((b.length - i : Nat) : Int) < ((8 + S : Nat) : Int) := (by omega); obtain ⟨vr, hvr, br⟩ := b6.slice (t := 30) T22 S5 (ydN (k := .i64) (k' := .i64) (n := 8) (m := ((8 + S : Nat) : Int)) (len := (b.drop i).length) (by omega) (by omega) (by omega)) (by omega) (by omega); rw [Int.toNat_natCast, show (8 : Int).toNat = 8 from rfl, show 8 + S - 8 = S from by omega, List.drop_drop] at br; have hrl : ((b.drop (i + 8)).take S).length = S := (by rw [List.length_take, List.length_drop]; omega); obtain ⟨v5, s5, a1, a2, a3, a4⟩ := OwnV.append' (P := Tryz.prog) (t := 30) (t2 := 30) BT (σ := s) (show OwnV 5 s.toks.length s (.slice .exact 1 [] 0) [] from .inr ⟨.exact, rfl, .inl rfl⟩) (σ0 := s) rfl (Keep.refl s) T22 br (by simp; omega); rw [List.nil_append] at a2; obtain ⟨q7, s7, d7, v7, rfl, b7, k7⟩ := yga (σ := s5) a2.bts (by omega); have hfr : ybI ((b.drop (i + 8)).take S) = (yar ((b.drop (i + 8)).take S), 0) := (by unfold ybI; rw [if_neg (by omega)]); rw [hfr] at d7 b7; obtain ⟨vw, hvw, bw⟩ := b6.slice (t := 30) T22 S5 (yc0 (k := .i64) (n := ((8 + S : Nat) : Int)) (len := (b.drop i).length) (by omega) (by omega)) (by omega) (by omega); rw [Int.toNat_natCast, List.drop_zero, Nat.sub_zero] at bw; have hfe := yoI (b := b) (i := i) (n := S) (by omega) hS; simp only [k74_a, WKV, Nat.reduceLT, Nat.reduceEqDiff, ↓reduceIte, reduceCtorEq, Nat.reduceAdd, Int.reduceLT, Int.reduceNeg, yac, h5, hl6, w5, hbig', hlong', decide_false, T22, hvr, ypr BT, a1]; refine KD.ret d7 ?_; by_cases hc : ydy ((b.drop (i + 8)).take S) = w4 b (i + 4)
 · have hn : yca b i = some S := (by unfold yca; rw [if_neg h8, hS, if_neg (by omega), if_pos hc]); have hc' := hfe.2 hc
   cases hr with
   | stop h => rw [hn] at h; cases h
   | more h hr' =>
     rw [hn] at h; injection h with h; subst h; rename_i rest'; have kt := a3.trans k7; obtain ⟨v8, s8, b1, b2, b3, b4⟩ := (hO.keep kt.2.2).app (s0 := σ) rfl (hk.trans kt) a2.bts (by omega); have w6 : IntKind.i64.wrap (((i : Nat) : Int) + 8) = ((i + 8 : Nat) : Int) := (by rw [yae (by omega) (by omega)]; omega); have w7 : IntKind.i64.wrap (((i + 8 : Nat) : Int) + ((S : Nat) : Int)) = ((i + 8 + S : Nat) : Int) := (by rw [yae (by omega) (by omega)]; omega); have cs := yeP b7; rw [hc'] at cs; simp only [k74_a, WKV, Nat.reduceLT, Nat.reduceEqDiff, ↓reduceIte, reduceCtorEq, Nat.reduceAdd, Int.reduceLT, Int.reduceNeg, yac, cs, w5, T22, hvw, yeP bw, sbN, eq_self, decide_true, Bool.not_true, ynY v5 a2.bts.one, b1, h5, w6, w7]; refine ⟨i + 8 + S, ⟨by simp [yaa], by omega, _, rest', by simpa [yaa] using b2, hr', ?_, by simp; omega, b3⟩, by omega⟩; rw [hll]; simp
 · have hn : yca b i = none := (by unfold yca; rw [if_neg h8, hS, if_neg (by omega), if_neg hc]); have hc' : ¬ yar ((b.drop (i + 8)).take S) = (b.drop i).take (8 + S) := fun h => hc (hfe.1 h)
   cases hr with
   | more h _ => rw [hn] at h; cases h
   | stop h =>
     have kt := a3.trans k7; simp only [k74_a, WKV, Nat.reduceLT, Nat.reduceEqDiff, ↓reduceIte, reduceCtorEq, Nat.reduceAdd, Int.reduceLT, Int.reduceNeg, yac, yeP b7, w5, T22, hvw, yeP bw, sbN, hc', decide_false, Bool.not_false, h5]; exact ⟨_, ps, rfl, hO.keep kt.2.2, by rw [hll, List.append_nil], hk.trans kt⟩
theorem ydg {σ : St} {v w : V} {ps qs : List BV} (hv : PtsV v ps) (hw : PtsV w qs) (hp : ∀ p ∈ ps, BtsV p.1 p.2) (hq : ∀ p ∈ qs, BtsV p.1 p.2) (he : ps.map Prod.snd = qs.map Prod.snd) (hl : ps.length ≤ 1000000000) (hs : ∀ p ∈ ps, p.2.length ≤ 1000000000) :
   Does Tryz.prog prims 33 [v, w] σ (.ret (.bool true)) σ := by
 apply k33_is.ret (by simp)
 have hll : qs.length = ps.length := by
   have := congrArg List.length he; simpa using this.symm
 have hlv := hv.len; have hlw := hw.len; rw [hll] at hlw; simp only [k33_a, WKV, Nat.reduceLT, Nat.reduceEqDiff, ↓reduceIte, reduceCtorEq, Nat.reduceAdd, Int.reduceLT, Int.reduceNeg, yac, gD0, gD1, hlv, hlw, eq_self, decide_true, Bool.not_true]; refine Ev.loopF (fun (i : Nat) e s => e 13 = .int .i64 (i : Nat) ∧ i ≤ ps.length ∧ s = σ) (fun i => ps.length - i) 0 ⟨by simp [yaa], Nat.zero_le _, rfl⟩ ?_; rintro i e s ⟨h13, hi, rfl⟩ hf; have g0 : e 0 = v := (hf 0 (by decide)).trans (by simp [yaa]); have g1 : e 1 = w := (hf 1 (by decide)).trans (by simp [yaa]); have g12 : e 12 = .int .i64 (ps.length : Nat) := (hf 12 (by decide)).trans (by simp [yaa]); clear hf; by_cases hlt : i < ps.length
 · have hlt' : (i : Int) < (ps.length : Nat) := (by omega); have hlq : i < qs.length := (by omega); have hwi : IntKind.i64.wrap ((i : Int) + 1) = ((i + 1 : Nat) : Int) := by rw [yae (by omega) (by omega)]; omega
   have hee : ps[i].2 = qs[i].2 := by
     have : (ps.map Prod.snd)[i]? = (qs.map Prod.snd)[i]? := (by rw [he]); rw [List.getElem?_map, List.getElem?_map, List.getElem?_eq_getElem hlt, List.getElem?_eq_getElem hlq] at this; simpa using this
   have sm := yhg (.inl (hp _ (List.getElem_mem hlt)) : RB s ps[i].1 ps[i].2) (.inl (hq _ (List.getElem_mem hlq)) : RB s qs[i].1 qs[i].2) (by have := hs _ (List.getElem_mem hlt); omega); rw [decide_eq_true hee] at sm; simp only [k33_a, WKV, Nat.reduceLT, Nat.reduceEqDiff, ↓reduceIte, reduceCtorEq, Nat.reduceAdd, Int.reduceLT, Int.reduceNeg, yac, h13, g12, g0, g1, hlt', decide_true, hv.addr hlt, PtsV.load hlt, hw.addr hlq, PtsV.load hlq]; refine KD.ret sm ?_; simp only [k33_a, WKV, Nat.reduceLT, Nat.reduceEqDiff, ↓reduceIte, reduceCtorEq, Nat.reduceAdd, Int.reduceLT, Int.reduceNeg, yac, h13, g12, g0, g1, hlt', decide_true, Bool.not_true, hwi]; exact ⟨i + 1, ⟨by simp [yaa], by omega⟩, by omega⟩
 · have hlt' : ¬ (i : Int) < (ps.length : Nat) := (by omega); simp only [k33_a, WKV, Nat.reduceLT, Nat.reduceEqDiff, ↓reduceIte, reduceCtorEq, Nat.reduceAdd, Int.reduceLT, Int.reduceNeg, yac, h13, g12, hlt', decide_false]
theorem yjM {b : List UInt8} {i e : Nat} {l : List (List UInt8)} (h : Recs b i l e) : (∀ r ∈ l, r.length ≤ b.length) ∧ l.length + i ≤ max b.length i := by
 induction h with
 | stop h => exact ⟨fun r hr => absurd hr List.not_mem_nil, by simp only [List.length_nil]; omega⟩
 | more h r ih =>
   have := ymg h; refine ⟨fun r hr => ?_, by have := ih.2; simp only [List.length_cons]; omega⟩; rcases List.mem_cons.1 hr with rfl | hr
   · rw [List.length_take, List.length_drop]; omega
   · exact ih.1 r hr
theorem ykF (σ : St) (k : IntKind) (n : Int) : yqB σ (.int k n) = none := rfl
theorem iced {σ : St} {v : V} {q : Option Nat} {bs : List UInt8} (h : yaU σ.objs v = some (q, bs.map yal)) : ∃ v' σ', (yqB σ v = some (v', σ') ∨ (yqB σ v = none ∧ v' = v ∧ σ' = σ)) ∧ BtsV v' bs ∧ KS q.toList σ σ' := by
 rcases yaC h with ⟨rfl, rfl, e⟩ | ⟨r, full, rfl, rfl, hr, hl, hc⟩
 · have : bs = [] := (by simpa using e); subst this; exact ⟨.nils, σ, .inr ⟨rfl, rfl, rfl⟩, .inl ⟨rfl, rfl⟩, KS.refl _ _⟩
 · refine ⟨.slice .ro 1 (bs.map yal) bs.length, ⟨σ.objs.set r .dead, σ.toks⟩, .inl ?_, .inr ⟨.ro, rfl⟩, KS.set (.inl (by simp)) _⟩; simp only [List.length_map] at hl hc ⊢; simp only [yqB, hr, Nat.zero_add]; rw [if_pos hl, List.drop_zero, ← hc]
def yaX (name : List UInt8) : Nat := (ygP 106 name).getD 0
theorem yfx {σ : St} (name : List UInt8) : ∃ q σ', Does Tryz.prog prims 68 [.str name] σ q σ' ∧ q = .ret (.int .i64 (yaX name : Nat)) ∧ KS [] σ σ' := by
 apply k68_is.does (by simp); have hl := yqw name; by_cases h10 : name.length = 10
 · obtain ⟨b, t, rfl⟩ : ∃ b t, name = b :: t := by
     cases name with
     | nil => simp at h10
     | cons b t => exact ⟨b, t, rfl⟩
   have ht9 : t.length = 9 := (by simpa using h10); have h10' : (((b :: t).length : Nat) : Int) = 10 := (by omega); have hix : yeB Tryz.prog 9 (.str (b :: t)) (.int .i64 0) = some (.int .u8 ((b.toNat : Nat) : Int)) := (by simp [yeB, T9]); by_cases hb : b = 106
   · subst hb; have hb' : (((106 : UInt8).toNat : Nat) : Int) = 106 := by decide
     have hsl : yck Tryz.prog 9 (.str (106 :: t)) (some (.int .i64 1)) none none = some (.str t) := by
       have hv := yg9 (k := .i64) (n := 1) (len := (106 :: t : List UInt8).length) (by omega) (by simp only [List.length_cons]; omega); simp only [yck, T9, hv]; simp only [show (1 : Int).toNat = 1 from rfl, List.drop_succ_cons, List.drop_zero, List.length_cons]; rw [List.take_of_length_le (by omega)]
     cases ha : Lib.atoi t with
     | none =>
       have hn := ype (pre := 106) ht9 ha; have hz : yaX (106 :: t) = 0 := (by unfold yaX; rw [hn]; rfl); have hnm : ¬ ya0 106 1 0 = 106 :: t := by unfold ya0; rw [if_pos (by omega)]; intro h; cases h
       simp only [k68_a, WKV, Nat.reduceLT, Nat.reduceEqDiff, ↓reduceIte, reduceCtorEq, Nat.reduceAdd, Int.reduceLT, Int.reduceNeg, yac, gD0, gD1, hl, h10', eq_self, decide_true, Bool.not_true, hix, hb', hsl, T9]; refine KD.ret (ymR (by omega) ha) ?_; simp only [k68_a, WKV, Nat.reduceLT, Nat.reduceEqDiff, ↓reduceIte, reduceCtorEq, Nat.reduceAdd, Int.reduceLT, Int.reduceNeg, yac, gD0, gD1]; refine KD.ret (yeb 0) ?_; simp only [k68_a, WKV, Nat.reduceLT, Nat.reduceEqDiff, ↓reduceIte, reduceCtorEq, Nat.reduceAdd, Int.reduceLT, Int.reduceNeg, yac, gD0, gD1, sbN, hnm, decide_false, Bool.not_false, hz, Int.natCast_zero]
       first | exact ⟨trivial, KS.push _ _ _⟩ | exact KS.push _ _ _
     | some m =>
       obtain ⟨n1, n2⟩ := yo2 (pre := 106) ht9 ha; simp only [k68_a, WKV, Nat.reduceLT, Nat.reduceEqDiff, ↓reduceIte, reduceCtorEq, Nat.reduceAdd, Int.reduceLT, Int.reduceNeg, yac, gD0, gD1, hl, h10', eq_self, decide_true, Bool.not_true, hix, hb', hsl, T9]; refine KD.ret (ynO (by omega) ha) ?_; simp only [k68_a, WKV, Nat.reduceLT, Nat.reduceEqDiff, ↓reduceIte, reduceCtorEq, Nat.reduceAdd, Int.reduceLT, Int.reduceNeg, yac, gD0, gD1]; refine KD.ret (yeb m) ?_; by_cases hnm : ya0 106 1 m = 106 :: t
       · have hm1 : 1 ≤ m := by
           unfold ya0 at hnm; split at hnm
           · cases hnm
           · omega
         have h0 : ya0 106 0 m = 106 :: t := by
           unfold ya0 at hnm ⊢; split at hnm
           · cases hnm
           · rw [if_neg (by omega)]; exact hnm
         obtain ⟨g1, g2, g3⟩ := n1 h0.symm; have hz : ((yaX (106 :: t) : Nat) : Int) = m := (by unfold yaX; rw [g3]; simp only [Option.getD_some]; omega); simp only [k68_a, WKV, Nat.reduceLT, Nat.reduceEqDiff, ↓reduceIte, reduceCtorEq, Nat.reduceAdd, Int.reduceLT, Int.reduceNeg, yac, gD0, gD1, sbN, hnm, eq_self, decide_true, Bool.not_true, hz]
         first | exact ⟨trivial, KS.refl _ _⟩ | exact KS.refl _ _
       · have hz : yaX (106 :: t) = 0 := by
           by_cases h0 : ya0 106 0 m = 106 :: t
           · obtain ⟨g1, g2, g3⟩ := n1 h0.symm
             have : m = 0 := by
               refine Classical.byContradiction fun hm => hnm ?_; unfold ya0 at h0 ⊢; rw [if_neg (by omega)] at h0 ⊢; exact h0
             unfold yaX; rw [g3, this]; rfl
           · unfold yaX; rw [n2 (fun h => h0 h.symm)]; rfl
         simp only [k68_a, WKV, Nat.reduceLT, Nat.reduceEqDiff, ↓reduceIte, reduceCtorEq, Nat.reduceAdd, Int.reduceLT, Int.reduceNeg, yac, gD0, gD1, sbN, hnm, decide_false, Bool.not_false, hz, Int.natCast_zero]
         first | exact ⟨trivial, KS.refl _ _⟩ | exact KS.refl _ _
   · have hb' : ¬ ((b.toNat : Nat) : Int) = 106 := fun h => hb (by apply UInt8.toNat_inj.1; have : (106 : UInt8).toNat = 106 := rfl; omega)
     have hz : yaX (b :: t) = 0 := by
       unfold yaX ygP; simp only; rw [if_neg (fun h => hb h.1)]; rfl
     simp only [k68_a, WKV, Nat.reduceLT, Nat.reduceEqDiff, ↓reduceIte, reduceCtorEq, Nat.reduceAdd, Int.reduceLT, Int.reduceNeg, yac, gD0, gD1, hl, h10', eq_self, decide_true, decide_false, Bool.not_true, Bool.not_false, hix, hb', hz, Int.natCast_zero]
     first | exact ⟨trivial, KS.refl _ _⟩ | exact KS.refl _ _
 · have h10' : ¬ ((name.length : Nat) : Int) = 10 := by omega
   have hz : yaX name = 0 := by
     unfold yaX ygP
     cases name with
     | nil => rfl
     | cons b t => simp only; rw [if_neg (fun h => h10 (by simp [h.2.1]))]; rfl
   simp only [k68_a, WKV, Nat.reduceLT, Nat.reduceEqDiff, ↓reduceIte, reduceCtorEq, Nat.reduceAdd, Int.reduceLT, Int.reduceNeg, yac, gD0, gD1, hl, h10', decide_false, Bool.not_false, hz, Int.natCast_zero]
   first | exact ⟨trivial, KS.refl _ _⟩ | exact KS.refl _ _
def yfN (e : Nat) : V := .iface 121 (.agg [.int .i64 (e : Nat)])
theorem bldS (e : Int) : ydA Tryz.prog 121 [(0, .int .i64 e)] = some (.agg [.int .i64 e]) := by kernel_rfl
theorem mkS (v : V) : yd0 Tryz.prog 121 v = some (.iface 121 v) := by kernel_rfl
theorem ygk {σ : St} {e : Nat} (he : e = 0) : Does Tryz.prog prims 72 [.int .i64 (e : Nat)] σ (.ret (.tuple [])) σ := by
 subst he; apply k72_is.ret (by simp); simp only [k72_a, WKV, Nat.reduceLT, Nat.reduceEqDiff, ↓reduceIte, reduceCtorEq, Nat.reduceAdd, Int.reduceLT, Int.reduceNeg, yac, gD0, gD1, Int.natCast_zero, eq_self, decide_true, Bool.not_true]
theorem yeM {σ : St} {e : Nat} (he : e ≠ 0) : Does Tryz.prog prims 72 [.int .i64 (e : Nat)] σ (.pan (yfN e)) σ := by
 have key : ∃ q σ', Does Tryz.prog prims 72 [.int .i64 (e : Nat)] σ q σ' ∧ q = .pan (yfN e) ∧ σ' = σ := by
   apply k72_is.does (by simp); have he' : ¬ ((e : Nat) : Int) = 0 := (by omega); simp only [k72_a, WKV, Nat.reduceLT, Nat.reduceEqDiff, ↓reduceIte, reduceCtorEq, Nat.reduceAdd, Int.reduceLT, Int.reduceNeg, yac, gD0, gD1, he', decide_false, Bool.not_false, bldS, mkS]
   first | rfl | exact ⟨rfl, rfl⟩
 obtain ⟨q, σ', h, rfl, rfl⟩ := key; exact h
def ylD (b : List UInt8) : Nat → Nat → List (List UInt8) × Nat
 | 0, i => ([], i)
 | k + 1, i => match yca b i with
   | none => ([], i)
   | some n => ((b.drop (i + 8)).take n :: (ylD b k (i + 8 + n)).1, (ylD b k (i + 8 + n)).2)
def ybb (b : List UInt8) : List (List UInt8) × Nat := ylD b (b.length + 1) 0
theorem yka (b : List UInt8) : ∀ k i, b.length < i + k → Recs b i (ylD b k i).1 (ylD b k i).2
 | 0, i, h => by
   refine .stop ?_; unfold yca; rw [if_pos (by omega)]
 | k + 1, i, h => by
   rw [ylD]
   cases hr : yca b i with
   | none => exact .stop hr
   | some n => exact .more hr (yka b k _ (by omega))
theorem yeW (b : List UInt8) : Recs b 0 (ybb b).1 (ybb b).2 := yka b _ 0 (by omega)
def ybJ (n : List UInt8) (d : Dk) : (Nat × List (List UInt8)) × Dk :=
 if (yav n d).1 ≠ 0 then (((yav n d).1, []), d) else
 let t : Nat × Dk := if (ybb (yav n d).2).2 < (yav n d).2.length then yaL n ((ybb (yav n d).2).2 : Nat) d else (0, d)
 if t.1 ≠ 0 then ((t.1, []), t.2) else
 if (yaO n t.2).1 ≠ 0 then (((yaO n t.2).1, []), (yaO n t.2).2) else ((0, (ybb (yav n d).2).1), (yaO n t.2).2)
theorem yif {σ : St} {r rm : Nat} {d : Dk} {fs : List Ent} (n : List UInt8) (h : DiskAt σ r d rm fs) (hok : d.Ok) (hw : d.writes ≤ 1000000000) :
   ∃ q σ', Does Tryz.prog prims 73 [.optr r 0, .str n] σ q σ' ∧ (Next σ r rm fs σ' (ybJ n d).2 ∧ (((ybJ n d).1.1 = 0 ∧ ∃ w ps, q = .ret w ∧ PtsV w ps ∧ (∀ p ∈ ps, BtsV p.1 p.2) ∧ ps.map Prod.snd = (ybJ n d).1.2) ∨ ((ybJ n d).1.1 ≠ 0 ∧ q = .pan (yfN (ybJ n d).1.1)))) := by
 suffices key : ∀ P : VRes → St → Prop, (∀ q σ', (Next σ r rm fs σ' (ybJ n d).2 ∧ (((ybJ n d).1.1 = 0 ∧ ∃ w ps, q = .ret w ∧ PtsV w ps ∧ (∀ p ∈ ps, BtsV p.1 p.2) ∧ ps.map Prod.snd = (ybJ n d).1.2) ∨ ((ybJ n d).1.1 ≠ 0 ∧ q = .pan (yfN (ybJ n d).1.1)))) → P q σ') → ∃ q σ', Does Tryz.prog prims 73 [.optr r 0, .str n] σ q σ' ∧ P q σ' from key _ fun _ _ h => h
 intro P hP; apply k73_is.does (by simp); obtain ⟨q1, s1, c1, v1, o1, rfl, n1, K1, I1⟩ := yil (n := n) h hok; obtain ⟨v2, s2, ei, b2, K2⟩ := iced n1; have K12 : KS [] σ s2 := K1.trans K2 (fun y hy => .inr (I1 y hy)); have D2 := h.pushes K12; have hrl := ydM hok n; obtain ⟨J, hJ⟩ : ∃ J, J = yjh Tryz.prog prims 36 ((.seq (.region k73_r6) (.seq (.region k73_r7) .ret)) : CC) (fnK Tryz.prog 36 [ResultVar.tmp 4] P) := ⟨_, rfl⟩; obtain ⟨K, hK⟩ : ∃ K, K = yjh Tryz.prog prims 36 ((.seq (.region k73_r2) (.seq (.region k73_r3) (.seq (.seq (.region k73_r4) (.cond (.tmp 25) (.region k73_r5) .skip)) (.seq (.region k73_r6) (.seq (.region k73_r7) .ret))))) : CC) (fnK Tryz.prog 36 [ResultVar.tmp 4] P) := ⟨_, rfl⟩
 have rest : ∀ (e : Nat → V), e 0 = .optr r 0 → e 1 = .str n → e 5 = v2 → e 6 = .int .i64 ((yav n d).1 : Nat) → K .normal e s2 := by
   intro e g0 g1 g5 g6; rw [hK]; by_cases hr : (yav n d).1 = 0
   rotate_left
   · have e0 : ybJ n d = (((yav n d).1, []), d) := (by unfold ybJ; rw [if_pos hr]); simp only [k73_a, WKV, Nat.reduceLT, Nat.reduceEqDiff, ↓reduceIte, reduceCtorEq, Nat.reduceAdd, Int.reduceLT, Int.reduceNeg, yac, g6]; refine KD.pan (yeM hr) ?_; simp only [k73_a, WKV, Nat.reduceLT, Nat.reduceEqDiff, ↓reduceIte, reduceCtorEq, Nat.reduceAdd, Int.reduceLT, Int.reduceNeg, yac]; exact hP _ _ ⟨by rw [e0]; exact ⟨fs, D2, K12.nils, fun y hy => .inl hy⟩, .inr ⟨by rw [e0]; exact hr, by rw [e0]⟩⟩
   obtain ⟨q3, s3, c3, w, ps, rfl, O3, P3, K3⟩ := yiN (σ := s2) b2 (by omega) (yeW _); have D3 := D2.pushes (K3.ks []); have K13 : KS [] σ s3 := K12.trans' (K3.ks []); have hen := (yjM (yeW (yav n d).2)).2; have hlen := b2.len T22
   have back : ∀ (e : Nat → V) (s4 : St) (t : Nat × Dk) (fs4 : List Ent), e 0 = .optr r 0 → e 1 = .str n → e 7 = w → DiskAt s4 r t.2 rm fs4 → t.2.Ok → t.2.writes ≤ 1000000001 → Next σ r rm fs s4 t.2 → KS (yay r rm fs) σ s4 → (∀ y ∈ yay r rm fs4, y ∈ yay r rm fs ∨ σ.objs.length ≤ y) → t.1 = 0 → t = (if (ybb (yav n d).2).2 < (yav n d).2.length then yaL n ((ybb (yav n d).2).2 : Nat) d else (0, d)) → J .normal e s4 := by
     intro e s4 t fs4 g0 g1 g7 D4 ok4 hw4 N4 K4 I4 ht et; rw [hJ]; obtain ⟨q5, s5, c5, rfl, fs5, D5, K5, I5⟩ := ygj (n := n) D4 ok4 (by omega); have N5 : Next σ r rm fs s5 (yaO n t.2).2 := Next.trans K4 I4 ⟨fs5, D5, K5, I5⟩; simp only [k73_a, WKV, Nat.reduceLT, Nat.reduceEqDiff, ↓reduceIte, reduceCtorEq, Nat.reduceAdd, Int.reduceLT, Int.reduceNeg, yac, g0, g1]; refine KD.ret c5 ?_; simp only [k73_a, WKV, Nat.reduceLT, Nat.reduceEqDiff, ↓reduceIte, reduceCtorEq, Nat.reduceAdd, Int.reduceLT, Int.reduceNeg, yac]; by_cases hy : (yaO n t.2).1 = 0
     · have e0 : ybJ n d = ((0, (ybb (yav n d).2).1), (yaO n t.2).2) := by
         unfold ybJ; rw [if_neg (by omega)]; simp only; rw [← et, if_neg (by omega), if_neg (by omega)]
       refine KD.ret (ygk hy) ?_; simp only [k73_a, WKV, Nat.reduceLT, Nat.reduceEqDiff, ↓reduceIte, reduceCtorEq, Nat.reduceAdd, Int.reduceLT, Int.reduceNeg, yac, g7]; exact hP _ _ ⟨by rw [e0]; exact N5, .inl ⟨by rw [e0], w, ps, rfl, O3.pts, O3.b, by rw [e0]; exact P3⟩⟩
     · have e0 : ybJ n d = (((yaO n t.2).1, []), (yaO n t.2).2) := by
         unfold ybJ; rw [if_neg (by omega)]; simp only; rw [← et, if_neg (by omega), if_pos hy]
       refine KD.pan (yeM hy) ?_; simp only [k73_a, WKV, Nat.reduceLT, Nat.reduceEqDiff, ↓reduceIte, reduceCtorEq, Nat.reduceAdd, Int.reduceLT, Int.reduceNeg, yac]; exact hP _ _ ⟨by rw [e0]; exact N5, .inr ⟨by rw [e0]; exact hy, by rw [e0]⟩⟩
   simp only [k73_a, WKV, Nat.reduceLT, Nat.reduceEqDiff, ↓reduceIte, reduceCtorEq, Nat.reduceAdd, Int.reduceLT, Int.reduceNeg, yac, g6]; refine KD.ret (ygk hr) ?_; simp only [k73_a, WKV, Nat.reduceLT, Nat.reduceEqDiff, ↓reduceIte, reduceCtorEq, Nat.reduceAdd, Int.reduceLT, Int.reduceNeg, yac, g5]; refine KD.ret c3 ?_; simp only [k73_a, WKV, Nat.reduceLT, Nat.reduceEqDiff, ↓reduceIte, reduceCtorEq, Nat.reduceAdd, Int.reduceLT, Int.reduceNeg, yac, g5, hlen]; by_cases hc : (ybb (yav n d).2).2 < (yav n d).2.length
   · have hc' : (((ybb (yav n d).2).2 : Nat) : Int) < ((yav n d).2.length : Nat) := (by omega); obtain ⟨q4, s4, c4, rfl, fs4, D4, K4, I4⟩ := ylR (n := n) (k := ((ybb (yav n d).2).2 : Nat)) D3 hok (by omega); obtain ⟨ok4, hw4⟩ := yhU (n := n) (k := ((ybb (yav n d).2).2 : Nat)) hok
     have I4' : ∀ y ∈ yay r rm fs4, y ∈ yay r rm fs ∨ σ.objs.length ≤ y := fun y hy => by
       rcases I4 y hy with h | h
       · exact .inl h
       · have := K13.le; exact .inr (by omega)
     have K4' : KS (yay r rm fs) σ s4 := K13.nils.trans' K4; have N4 : Next σ r rm fs s4 (yaL n ((ybb (yav n d).2).2 : Nat) d).2 := ⟨fs4, D4, K4', I4'⟩; rw [← hJ]; simp only [k73_a, WKV, Nat.reduceLT, Nat.reduceEqDiff, ↓reduceIte, reduceCtorEq, Nat.reduceAdd, Int.reduceLT, Int.reduceNeg, yac, g0, g1, hc', decide_true]; refine KD.ret c4 ?_; simp only [k73_a, WKV, Nat.reduceLT, Nat.reduceEqDiff, ↓reduceIte, reduceCtorEq, Nat.reduceAdd, Int.reduceLT, Int.reduceNeg, yac]; by_cases ht : (yaL n ((ybb (yav n d).2).2 : Nat) d).1 = 0
     · refine KD.ret (ygk ht) ?_; simp only [k73_a, WKV, Nat.reduceLT, Nat.reduceEqDiff, ↓reduceIte, reduceCtorEq, Nat.reduceAdd, Int.reduceLT, Int.reduceNeg, yac]; exact back _ s4 _ fs4 (by simp [yaa, g0]) (by simp [yaa, g1]) (by simp [yaa]) D4 ok4 (by omega) N4 K4' I4' ht (by rw [if_pos hc])
     · have e0 : ybJ n d = (((yaL n ((ybb (yav n d).2).2 : Nat) d).1, []), (yaL n ((ybb (yav n d).2).2 : Nat) d).2) := by
         unfold ybJ; rw [if_neg (by omega)]; simp only; rw [if_pos hc, if_pos ht]
       refine KD.pan (yeM ht) ?_; rw [hJ]; simp only [k73_a, WKV, Nat.reduceLT, Nat.reduceEqDiff, ↓reduceIte, reduceCtorEq, Nat.reduceAdd, Int.reduceLT, Int.reduceNeg, yac]; exact hP _ _ ⟨by rw [e0]; exact N4, .inr ⟨by rw [e0]; exact ht, by rw [e0]⟩⟩
   · have hc' : ¬ (((ybb (yav n d).2).2 : Nat) : Int) < ((yav n d).2.length : Nat) := (by omega); rw [← hJ]; simp only [k73_a, WKV, Nat.reduceLT, Nat.reduceEqDiff, ↓reduceIte, reduceCtorEq, Nat.reduceAdd, Int.reduceLT, Int.reduceNeg, yac, g0, g1, hc', decide_false]; exact back _ s3 (0, d) fs (by simp [yaa, g0]) (by simp [yaa, g1]) (by simp [yaa]) D3 hok (by simp only; omega) ⟨fs, D3, K13.nils, fun y hy => .inl hy⟩ K13.nils (fun y hy => .inl hy) rfl (by rw [if_neg hc])
 simp only [k73_a, WKV, Nat.reduceLT, Nat.reduceEqDiff, ↓reduceIte, reduceCtorEq, Nat.reduceAdd, Int.reduceLT, Int.reduceNeg, yac, gD0, gD1, ybd]; rw [← hK]; refine KD.ret c1 ?_; rcases ei with ei | ⟨ei, e1, e2⟩
 · simp only [k73_a, WKV, Nat.reduceLT, Nat.reduceEqDiff, ↓reduceIte, reduceCtorEq, Nat.reduceAdd, Int.reduceLT, Int.reduceNeg, yac, ei, ykF]; exact rest _ (by simp [yaa]) (by simp [yaa]) (by simp [yaa]) (by simp [yaa])
 · simp only [k73_a, WKV, Nat.reduceLT, Nat.reduceEqDiff, ↓reduceIte, reduceCtorEq, Nat.reduceAdd, Int.reduceLT, Int.reduceNeg, yac, ei, ykF]; rw [← e2]; exact rest _ (by simp [yaa]) (by simp [yaa]) (by simp [yaa, e1]) (by simp [yaa])
structure OpS where
 first : Nat
 wf : Nat
 next : Nat
 brk : Bool
 recs : List (List UInt8)
def OpS.skips (s : OpS) (n : Nat) : Prop := 0 < s.first ∧ (s.brk = true ∨ n ≠ s.next)
instance (s : OpS) (n : Nat) : Decidable (s.skips n) := by unfold OpS.skips; infer_instance
def OpS.more (s : OpS) (n : Nat) (l : List (List UInt8)) : OpS := ⟨if s.first = 0 then n else s.first, n, n + l.length, s.brk, s.recs ++ l⟩
def ybG : List (List UInt8) → OpS → Dk → (Nat × OpS) × Dk
 | [], s, d => ((0, s), d)
 | x :: l, s, d =>
   if yaX x = 0 then ybG l s d else
   if s.skips (yaX x) then (if (yaj x d).1 ≠ 0 then (((yaj x d).1, s), (yaj x d).2) else ybG l { s with brk := true } (yaj x d).2) else
   if (ybJ x d).1.1 ≠ 0 then (((ybJ x d).1.1, s), (ybJ x d).2) else ybG l (s.more (yaX x) (ybJ x d).1.2) (ybJ x d).2
def op0 : OpS := ⟨0, 1, 1, false, []⟩
def yaI (per : Int) (d : Dk) : (Nat × OpS) × Dk :=
 if per < 1 then ((1, op0), d) else
 if d.on = false then ((20, op0), d) else
 ybG (yaS d) op0 d
def OpS.from (s : OpS) : Nat := if s.first = 0 then 1 else s.first
theorem yhI (name : List UInt8) : yaX name ≤ 999999999 := by
 unfold yaX
 cases h : ygP 106 name with
 | none => simp
 | some m => have := (yh5 h).2; simp only [Option.getD_some]; omega
theorem yir {n : List UInt8} {d : Dk} (h : d.Ok) : (ybJ n d).2.Ok ∧ (ybJ n d).2.writes ≤ d.writes + 2 := by
 have ht : ∀ t : Nat × Dk, t = (if (ybb (yav n d).2).2 < (yav n d).2.length then yaL n ((ybb (yav n d).2).2 : Nat) d else (0, d)) → t.2.Ok ∧ t.2.writes ≤ d.writes + 1 := by
   rintro t rfl; split
   · exact yhU h
   · exact ⟨h, by simp only; omega⟩
 unfold ybJ; split
 · exact ⟨h, by simp only; omega⟩
 · obtain ⟨t, et⟩ : ∃ t : Nat × Dk, t = (if (ybb (yav n d).2).2 < (yav n d).2.length then yaL n ((ybb (yav n d).2).2 : Nat) d else (0, d)) := ⟨_, rfl⟩
   obtain ⟨o1, w1⟩ := ht t et; obtain ⟨o2, w2⟩ := yjw (n := n) o1; simp only; rw [← et]; split
   · exact ⟨o1, by simp only; omega⟩
   · split
     · exact ⟨o2, by simp only; omega⟩
     · exact ⟨o2, by simp only; omega⟩
theorem yj4 {n : List UInt8} {d : Dk} (h : d.Ok) : (ybJ n d).1.2.length ≤ 1048576 := by
 have hl := ydM h n; have hr := (yjM (yeW (yav n d).2)).2; unfold ybJ; split
 · simp
 · obtain ⟨t, et⟩ : ∃ t : Nat × Dk, t = (if (ybb (yav n d).2).2 < (yav n d).2.length then yaL n ((ybb (yav n d).2).2 : Nat) d else (0, d)) := ⟨_, rfl⟩
   simp only; rw [← et]; split
   · simp
   · split
     · simp
     · simp only; omega
theorem GEr : ybc Tryz.prog 33 = some false := by kernel_rfl
theorem SEr : yaQ Tryz.prog 33 = some 1 := by kernel_rfl
theorem ZSt : ybl Tryz.prog 121 = some (.agg [.int .i64 0]) := by kernel_rfl
theorem SSt : yaQ Tryz.prog 121 = some 1 := by kernel_rfl
theorem FSt (r : Nat) : yan Tryz.prog 121 (.optr r 0) 0 = some (.optr r 0) := by kernel_rfl
theorem SWp : yaQ Tryz.prog 54 = some 1 := by kernel_rfl
theorem GWp : ybc Tryz.prog 54 = some false := by kernel_rfl
theorem SRs : yaQ Tryz.prog 60 = some 1 := by kernel_rfl
theorem GRs : ybc Tryz.prog 60 = some false := by kernel_rfl
theorem TAny : Tryz.prog.underlying 20 = some (.interface #[]) := by kernel_rfl
theorem yov {t : TypeId} {v : V} {xo : Operand} : yci Tryz.prog .eql 20 xo (.const .nilIface) (.iface t v) .nili = some (.bool false) := by
 simp [yci, ycr, ybB, aggEq, TAny]
theorem ylZ {xo : Operand} : yci Tryz.prog .eql 20 xo (.const .nilIface) .nili .nili = some (.bool true) := by
 simp [yci, ycr, ybB, aggEq, TAny, isC]
theorem TAs (v : V) : ydt Tryz.prog (.iface 121 v) 20 121 true = some (.tuple [v, .bool true]) := by kernel_rfl
theorem yi8 {σ : St} {a : Nat} {va : V} (ha : σ.objs[a]? = some (.cells [va])) (e : Nat) : ∃ q σ', Does Tryz.prog prims 71 [.optr a 0, yfN e] σ q σ' ∧ q = .ret (.tuple []) ∧ σ'.objs[a]? = some (.cells [.int .i64 (e : Nat)]) ∧ KS [a] σ σ' := by
 apply k71_is.does (by simp); have hla := (gA0.1 ha).1; have oni : ycl Value.nilIface = some .nili := rfl; obtain ⟨s1, hs1⟩ : ∃ s1 : St, s1 = ⟨σ.objs ++ [Ob.cells [.int .i64 0]], σ.toks⟩ := ⟨_, rfl⟩; obtain ⟨s2, hs2⟩ : ∃ s2 : St, s2 = ⟨s1.objs.set σ.objs.length (.cells [.int .i64 (e : Nat)]), s1.toks⟩ := ⟨_, rfl⟩; have f1 : s1.objs[σ.objs.length]? = some (.cells [.int .i64 0]) := (by rw [hs1]; exact yap _ _); have k1 : KS [a] σ s1 := (by rw [hs1]; exact KS.push _ _ _); have k2 : KS [a] σ s2 := k1.trans (by rw [hs2]; exact KS.set (S := [σ.objs.length]) (.inl (by simp)) _) (fun x hx => by simp at hx; exact .inr (by omega)); have hst : yak Tryz.prog s1 121 (.optr σ.objs.length 0) (.agg [.int .i64 (e : Nat)]) = some s2 := (by rw [ycY (cs' := [.int .i64 (e : Nat)]) f1 (by rw [SSt]; rfl) rfl rfl, hs2]); have f2 : s2.objs[σ.objs.length]? = some (.cells [.int .i64 (e : Nat)]) := by rw [hs2]; exact yaM f1
 have a2 : s2.objs[a]? = some (.cells [va]) := by
   rw [hs2, hs1]; simp only; rw [gA3 (by omega), gA2 hla]; exact ha
 have l0 : yad Tryz.prog s2.objs 33 (.optr σ.objs.length 0) = some (.int .i64 (e : Nat)) := (by rw [yab f2 GEr]; rfl); obtain ⟨s3, hs3⟩ : ∃ s3 : St, s3 = ⟨s2.objs.set a (.cells [.int .i64 (e : Nat)]), s2.toks⟩ := ⟨_, rfl⟩; have hst3 : yak Tryz.prog s2 33 (.optr a 0) (.int .i64 (e : Nat)) = some s3 := (by rw [yag a2 SEr rfl (by simp), hs3]; rfl); have hzc : yah (V.agg [.int .i64 0]) = [.int .i64 0] := rfl; simp only [k71_a, WKV, Nat.reduceLT, Nat.reduceEqDiff, ↓reduceIte, reduceCtorEq, Nat.reduceAdd, Int.reduceLT, Int.reduceNeg, yac, gD0, gD1, yfN, yov, oni, TAs, ZSt, ycn, hzc, ← hs1, hst, FSt, l0, hst3]; exact ⟨by rw [hs3]; exact yaM a2, k2.trans' (by rw [hs3]; exact KS.set (.inl (by simp)) _)⟩
theorem yl3 {σ : St} {a : Nat} : ∃ q σ', Does Tryz.prog prims 71 [.optr a 0, .nili] σ q σ' ∧ q = .ret (.tuple []) ∧ σ' = σ := by
 apply k71_is.does (by simp); have oni : ycl Value.nilIface = some .nili := rfl; simp only [k71_a, WKV, Nat.reduceLT, Nat.reduceEqDiff, ↓reduceIte, reduceCtorEq, Nat.reduceAdd, Int.reduceLT, Int.reduceNeg, yac, gD0, gD1, ylZ, oni]
theorem ya7 {σ : St} {a : Nat} {va u : V} {t : TypeId} (h : σ.objs[a]? = some (.cells [va])) (hs : yaQ Tryz.prog t = some 1) (h1 : one u = true) : ∃ σ', yak Tryz.prog σ t (.optr a 0) u = some σ' ∧ σ'.objs[a]? = some (.cells [u]) ∧ KS [a] σ σ' := by
 refine ⟨⟨σ.objs.set a (.cells [u]), σ.toks⟩, ?_, yaM h, KS.set (.inl (by simp)) _⟩; rw [yag h hs h1 (by simp)]; rfl
theorem KS.over {S S1 : List Nat} {σ σ1 : St} (h : KS S1 σ σ1) (hs : ∀ x ∈ S1, x ∈ S) : KS S σ σ1 := h.mono fun x hx => .inl (hs x hx)
theorem yjJ {σ : St} {g a b c : Nat} {vg va vb vc : V} (hg : σ.objs[g]? = some (.cells [vg])) (ha : σ.objs[a]? = some (.cells [va])) (hb : σ.objs[b]? = some (.cells [vb])) (hc : σ.objs[c]? = some (.cells [vc])) (n1 : g ≠ a) (n2 : g ≠ b) (n3 : g ≠ c) (n4 : a ≠ b) (n5 : a ≠ c) (n6 : b ≠ c) {e : Nat} (he : e ≠ 0) :
   ∃ σ', ylX Tryz.prog prims 70 [.optr g 0, .optr a 0, .optr b 0, .optr c 0] (some (yfN e, false)) σ (some (yfN e, true)) σ' ∧ σ'.objs[g]? = some (.cells [.int .i64 (e : Nat)]) ∧ σ'.objs[a]? = some (.cells [.nilp]) ∧ σ'.objs[b]? = some (.cells [.nils]) ∧ σ'.objs[c]? = some (.cells [.int .i64 0]) ∧ KS [g, a, b, c] σ σ' := by
 have key : ∃ m' σ', ylX Tryz.prog prims 70 [.optr g 0, .optr a 0, .optr b 0, .optr c 0] (some (yfN e, false)) σ m' σ' ∧ (m' = some (yfN e, true) ∧ σ'.objs[g]? = some (.cells [.int .i64 (e : Nat)]) ∧ σ'.objs[a]? = some (.cells [.nilp]) ∧ σ'.objs[b]? = some (.cells [.nils]) ∧ σ'.objs[c]? = some (.cells [.int .i64 0]) ∧ KS [g, a, b, c] σ σ') := by
   apply k70_is.does (by simp); obtain ⟨q1, s1, c1, rfl, g1, k1⟩ := yi8 hg e; have a1 := k1.ko _ _ (by simp; omega) ha; have b1 := k1.ko _ _ (by simp; omega) hb; have d1 := k1.ko _ _ (by simp; omega) hc; have he' : ¬ ((e : Nat) : Int) = 0 := (by omega); have lg : yad Tryz.prog s1.objs 33 (.optr g 0) = some (.int .i64 (e : Nat)) := (by rw [yab g1 GEr]; rfl); obtain ⟨s2, st2, a2, k2⟩ := ya7 (u := .nilp) a1 SWp rfl; obtain ⟨s3, st3, b3, k3⟩ := ya7 (u := .nils) (k2.ko _ _ (by simp; omega) b1) SRs rfl; obtain ⟨s4, st4, d4, k4⟩ := ya7 (u := .int .i64 0) (k3.ko _ _ (by simp; omega) (k2.ko _ _ (by simp; omega) d1)) S3 rfl; simp only [k70_a, WD, WKV, Nat.reduceLT, Nat.reduceEqDiff, ↓reduceIte, reduceCtorEq, Nat.reduceAdd, Int.reduceLT, Int.reduceNeg, yac, gD0, gD1]; refine KD.ret c1 ?_; simp only [k70_a, WD, WKV, Nat.reduceLT, Nat.reduceEqDiff, ↓reduceIte, reduceCtorEq, Nat.reduceAdd, Int.reduceLT, Int.reduceNeg, yac, gD0, gD1, lg, he', decide_false, Bool.not_false, yaJ, ybd, st2, st3, st4]; exact ⟨⟨_, rfl⟩, k4.ko _ _ (by simp; omega) (k3.ko _ _ (by simp; omega) (k2.ko _ _ (by simp; omega) g1)), k4.ko _ _ (by simp; omega) (k3.ko _ _ (by simp; omega) a2), k4.ko _ _ (by simp; omega) b3, d4, (((k1.over (by simp)).trans' (k2.over (by simp))).trans' (k3.over (by simp))).trans' (k4.over (by simp))⟩
 obtain ⟨m', σ', h, rfl, h2⟩ := key; exact ⟨σ', h, h2⟩
theorem yj1 {σ : St} {g a b c : Nat} (hg : σ.objs[g]? = some (.cells [.int .i64 0])) : ylX Tryz.prog prims 70 [.optr g 0, .optr a 0, .optr b 0, .optr c 0] none σ none σ := by
 have key : ∃ m' σ', ylX Tryz.prog prims 70 [.optr g 0, .optr a 0, .optr b 0, .optr c 0] none σ m' σ' ∧ (m' = none ∧ σ' = σ) := by
   apply k70_is.does (by simp); obtain ⟨q1, s1, c1, rfl, hs1⟩ := yl3 (σ := σ) (a := g); rw [hs1] at c1; have lg : yad Tryz.prog σ.objs 33 (.optr g 0) = some (.int .i64 0) := (by rw [yab hg GEr]; rfl); simp only [k70_a, WD, WKV, Nat.reduceLT, Nat.reduceEqDiff, ↓reduceIte, reduceCtorEq, Nat.reduceAdd, Int.reduceLT, Int.reduceNeg, yac, gD0, gD1]; refine KD.ret c1 ?_; simp only [k70_a, WD, WKV, Nat.reduceLT, Nat.reduceEqDiff, ↓reduceIte, reduceCtorEq, Nat.reduceAdd, Int.reduceLT, Int.reduceNeg, yac, gD0, gD1, lg, eq_self, decide_true, Bool.not_true]; exact ⟨_, rfl⟩
 obtain ⟨m', σ', h, rfl, rfl⟩ := key; exact h
end Go.Proofs.YtnegdinonfjdfaaGreatDoor.Q
