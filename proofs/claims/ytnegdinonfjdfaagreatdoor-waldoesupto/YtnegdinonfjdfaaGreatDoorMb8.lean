/- A part of the proof: Kd, Mp, Ke, Kf, Kg, Kh, Ki, Kj, Kk, Rw, Kl, Sa, Sb, Sc, Sd, Se, Sf, Za, Zb. -/
import Derived.Test.YtnegdinonfjdfaaGreatDoorMb7
import Derived.Test.YtnegdinonfjdfaaGreatDoorMb5
set_option linter.unusedVariables false
set_option linter.unusedSimpArgs false
set_option maxRecDepth 100000
namespace Go.Proofs.YtnegdinonfjdfaaGreatDoor.Q
open Go Go.RowKit Go.Proofs
theorem Does.prim {f : FuncId} {vs : List V} {σ : St} {v : V} {σ' : St} (hi : prims.is f = true) (h : prims.f f vs σ = some (v, σ')) : Does Tryz.prog prims f vs σ (.ret v) σ' := ⟨1, by rw [ycS, if_pos hi, h]; rfl⟩
def w1 (k : Int) (b : Nat) (f : FO) : List (Nat × Ob) :=
 if f.kept k = [] then [(f.rf, .cells [f.s, .nils])] else
   f.rs.toList.map (·, Ob.dead) ++ [(f.rf, .cells [.hslice b 0 1 (f.cs.length + (f.kept k).length), .nils]), (b, .cells (f.cs ++ f.kept k))]
def yqb (k : Int) : Nat → List FO → List (Nat × Ob)
 | _, [] => []
 | b, f :: fos => w1 k b f ++ yqb k (b + 1) fos
def ynW (k : Int) (b : Nat) (p : Ent) : Ent := (yjF k p.1, if p.2.kept k = [] then { p.2 with w := .nils, rw := none, ds := [] } else { rf := p.2.rf, s := .hslice b 0 1 (p.2.cs.length + (p.2.kept k).length), rs := some b, cs := p.2.cs ++ p.2.kept k, w := .nils, rw := none, ds := [] })
def yjn (k : Int) : Nat → List Ent → List Ent
 | _, [] => []
 | b, p :: fs => ynW k b p :: yjn k (b + 1) fs
theorem yf1 (k : Int) : ∀ (fos : List FO) (b : Nat), (List.range fos.length).flatMap (yb6 k b fos) = yqb k b fos
 | [], b => rfl
 | f :: fos, b => by
   rw [List.length_cons, List.range_succ_eq_map, List.flatMap_cons, List.flatMap_map, yqb, ← yf1 k fos (b + 1)]
   congr 1
   · by_cases hk : f.kept k = []
     · rw [ycg (f := f) rfl hk, w1, if_pos hk]
     · rw [ycf (f := f) rfl hk, w1, if_neg hk]; rfl
   refine congrArg (fun g => List.flatMap g (List.range fos.length)) (funext fun i => ?_); show yb6 k b (f :: fos) (i + 1) = yb6 k (b + 1) fos i; by_cases hk : (fos.getD i default).kept k = []
   · rw [ycg (fos := f :: fos) (i := i + 1) (f := fos.getD i default) (by simp) hk, ycg (fos := fos) (i := i) (f := fos.getD i default) rfl hk]
   · rw [ycf (fos := f :: fos) (i := i + 1) (f := fos.getD i default) (by simp) hk, ycf (fos := fos) (i := i) (f := fos.getD i default) rfl hk, show b + (i + 1) = b + 1 + i by omega]
theorem yfR {k : Int} {b : Nat} {p : Ent} : ∀ x ∈ (ynW k b p).2.ids, x ∈ p.2.ids ∨ x = b := by
 intro x hx; simp only [ynW] at hx; split at hx
 · simp only [FO.ids, List.mem_cons, List.mem_append] at hx ⊢; rcases hx with h | h | h
   · exact .inl (.inl h)
   · exact .inl (.inr (.inl h))
   · cases h
 · simp only [FO.ids, List.mem_cons, List.mem_append] at hx ⊢; rcases hx with h | h | h
   · exact .inl (.inl h)
   · simp at h; exact .inr h
   · cases h
theorem ylC {k : Int} {b : Nat} {p : Ent} (h : p.2.ids.Nodup) (hb : ∀ x ∈ p.2.ids, x < b) : (ynW k b p).2.ids.Nodup := by
 have hrf : p.2.rf < b := hb _ (by simp [FO.ids]); simp only [ynW]; split
 · simp only [FO.ids, List.nodup_cons] at h ⊢; refine ⟨fun hx => h.1 ?_, ?_⟩
   · simp only [Option.toList, List.append_nil, List.mem_append] at hx ⊢; exact .inl hx
   · have := (List.nodup_append.1 h.2).1; simpa using this
 · simp only [FO.ids, Option.toList, List.append_nil, List.nodup_cons, List.mem_singleton]; exact ⟨by omega, by simp, by simp⟩
theorem yhT {k : Int} : ∀ {fs : List Ent} {b : Nat}, ∀ x ∈ (yjn k b fs).flatMap (fun p => p.2.ids), x ∈ fs.flatMap (fun p => p.2.ids) ∨ b ≤ x
 | [], b, x, hx => by simp [yjn] at hx
 | p :: fs, b, x, hx => by
   simp only [yjn, List.flatMap_cons, List.mem_append] at hx ⊢; rcases hx with h | h
   · rcases yfR x h with h | h
     · exact .inl (.inl h)
     · exact .inr (by omega)
   · rcases yhT x h with h | h
     · exact .inl (.inr h)
     · exact .inr (by omega)
theorem ygY {k : Int} : ∀ {fs : List Ent} {b : Nat}, (fs.flatMap fun p => p.2.ids).Nodup → (∀ x ∈ fs.flatMap (fun p => p.2.ids), x < b) → ((yjn k b fs).flatMap fun p => p.2.ids).Nodup
 | [], b, _, _ => by simp [yjn]
 | p :: fs, b, h, hb => by
   simp only [yjn, List.flatMap_cons] at h hb ⊢; rw [List.nodup_append] at h ⊢; have hb1 : ∀ x ∈ p.2.ids, x < b := fun x hx => hb x (List.mem_append_left _ hx); have hb2 : ∀ x ∈ fs.flatMap (fun p => p.2.ids), x < b := fun x hx => hb x (List.mem_append_right _ hx); refine ⟨ylC h.1 hb1, ygY h.2.1 fun x hx => by have := hb2 x hx; omega, fun x hx y hy e => ?_⟩; subst e
   rcases yfR x hx with h1 | h1 <;> rcases yhT x hy with h2 | h2
   · exact h.2.2 x h1 x h2 rfl
   · have := hb1 x h1; omega
   · have := hb2 x h2; omega
   · omega
theorem yfa (l : List UInt8) (n : Nat) : (l.map yal).take n = (l.take n).map yal := (List.map_take ..).symm
theorem w1_at {k : Int} {b : Nat} {O : List Ob} {p : Ent} (h : FAt O p) (hn : p.2.ids.Nodup) (hb : ∀ x ∈ p.2.ids, x < b) (hl : b < O.length) :
   FAt (yaZ (w1 k b p.2) O) (ynW k b p) ∧ ∀ q, q ∉ p.2.ids → q ≠ b → (yaZ (w1 k b p.2) O)[q]? = O[q]? := by
 have hrf : p.2.rf < b := hb _ (by simp [FO.ids]); have hkm : p.2.kept k = (p.1.wait.take k.toNat).map yal := (by rw [FO.kept, h.ds, yfa]); by_cases hk : p.2.kept k = []
 · have e : w1 k b p.2 = [(p.2.rf, .cells [p.2.s, .nils])] := by unfold w1; rw [if_pos hk]
   have e2 : ynW k b p = (yjF k p.1, { p.2 with w := .nils, rw := none, ds := [] }) := by unfold ynW; rw [if_pos hk]
   have hw0 : p.1.wait.take k.toNat = [] := (by rw [hk] at hkm; exact List.map_eq_nil_iff.1 hkm.symm); rw [e, e2]; simp only [yaZ, List.foldl_cons, List.foldl_nil]; refine ⟨⟨by simp only; rw [gA5 (by omega)], ?_, rfl, ?_, rfl⟩, fun q hq _ => ?_⟩
   · simp only [yjF, hw0, List.append_nil]; refine yd8 h.s fun q hq => ?_; rw [gA3]; intro e3; simp only [FO.ids, List.nodup_cons] at hn; exact hn.1 (by simp [hq, e3])
   · simp only [yjF, hw0, List.append_nil]; exact h.cs
   · rw [gA3]; intro e3; exact hq (by simp [FO.ids, e3])
 · have e : w1 k b p.2 = p.2.rs.toList.map (·, Ob.dead) ++ [(p.2.rf, .cells [.hslice b 0 1 (p.2.cs.length + (p.2.kept k).length), .nils]), (b, .cells (p.2.cs ++ p.2.kept k))] := (by unfold w1; rw [if_neg hk]); have e2 : ynW k b p = (yjF k p.1, { rf := p.2.rf, s := .hslice b 0 1 (p.2.cs.length + (p.2.kept k).length), rs := some b, cs := p.2.cs ++ p.2.kept k, w := .nils, rw := none, ds := [] }) := (by unfold ynW; rw [if_neg hk]); have hcat : p.2.cs ++ p.2.kept k = (p.1.safe ++ p.1.wait.take k.toNat).map yal := (by rw [h.cs, hkm, List.map_append]); rw [e, e2, ybU]; obtain ⟨O1, hO1⟩ : ∃ O1, O1 = yaZ (p.2.rs.toList.map (·, Ob.dead)) O := ⟨_, rfl⟩; have hl1 : O1.length = O.length := (by rw [hO1, ybF]); rw [← hO1]; simp only [yaZ, List.foldl_cons, List.foldl_nil]; refine ⟨⟨?_, ?_, rfl, ?_, rfl⟩, fun q hq hqb => ?_⟩
   · simp only; rw [gA3 (by omega), gA5 (by omega)]
   · simp only [yaU]; rw [gA5 (by rw [List.length_set]; omega)]; simp only [yjF, List.length_append, Nat.le_refl, ↓reduceIte]; rw [List.take_of_length_le (by simp), hcat]
   · simp only [yjF]; exact hcat
   · rw [gA3 (Ne.symm hqb), gA3, hO1, ybK]
     · intro hm; rw [List.map_map, List.mem_map] at hm; obtain ⟨x, hx, rfl⟩ := hm; exact hq (by simp only [FO.ids, List.mem_cons, List.mem_append]; exact .inr (.inl hx))
     · intro e3; exact hq (by simp [FO.ids, e3])
theorem offW {k : Int} : ∀ {fs : List Ent} {b : Nat} {O : List Ob}, (fs.flatMap fun p => p.2.ids).Nodup → (∀ x ∈ fs.flatMap (fun p => p.2.ids), x < b) → b + fs.length ≤ O.length → (∀ p ∈ fs, FAt O p) →
   (∀ p ∈ yjn k b fs, FAt (yaZ (yqb k b (fs.map (·.2))) O) p) ∧ ∀ q, q ∉ fs.flatMap (fun p => p.2.ids) → q < b → (yaZ (yqb k b (fs.map (·.2))) O)[q]? = O[q]?
 | [], b, O, _, _, _, _ => ⟨fun p hp => by simp [yjn] at hp, fun q _ _ => rfl⟩
 | p :: fs, b, O, hn, hb, hl, hF => by
   simp only [List.flatMap_cons, List.length_cons] at hn hb hl; rw [List.nodup_append] at hn; have hb1 : ∀ x ∈ p.2.ids, x < b := fun x hx => hb x (List.mem_append_left _ hx); have hb2 : ∀ x ∈ fs.flatMap (fun p => p.2.ids), x < b := fun x hx => hb x (List.mem_append_right _ hx); obtain ⟨g1, g2⟩ := w1_at (k := k) (hF p (List.mem_cons_self ..)) hn.1 hb1 (by omega); obtain ⟨O1, hO1⟩ : ∃ O1, O1 = yaZ (w1 k b p.2) O := ⟨_, rfl⟩; have hl1 : O1.length = O.length := (by rw [hO1, ybF]); rw [← hO1] at g1 g2
   have hF1 : ∀ q ∈ fs, FAt O1 q := fun q hq => (hF q (List.mem_cons_of_mem _ hq)).frame fun x hx o ho => by
     have hxm : x ∈ fs.flatMap (fun p => p.2.ids) := List.mem_flatMap.2 ⟨q, hq, hx⟩; have := hb2 x hxm; rw [g2 x (fun h => hn.2.2 x h x hxm rfl) (by omega)]; exact ho
   obtain ⟨i1, i2⟩ := offW (k := k) (b := b + 1) (O := O1) hn.2.1 (fun x hx => by have := hb2 x hx; omega) (by omega) hF1; simp only [List.map_cons, yqb, ybU, yjn, ← hO1]; refine ⟨fun q hq => ?_, fun q hq hqb => ?_⟩
   · rcases List.mem_cons.1 hq with rfl | hq
     · refine g1.frame fun x hx o ho => ?_; rw [i2 x ?_ ?_]
       · exact ho
       · intro hxm; rcases yfR x hx with h | h
         · exact hn.2.2 x h x hxm rfl
         · have := hb2 x hxm; omega
       · rcases yfR x hx with h | h
         · have := hb1 x h; omega
         · omega
     · exact i1 q hq
   · rw [List.flatMap_cons, List.mem_append] at hq; rw [i2 q (fun h => hq (.inr h)) (by omega), g2 q (fun h => hq (.inl h)) (by omega)]
theorem ykZ {k : Int} : ∀ {fs : List Ent} {b : Nat}, (yjn k b fs).map yfM = fs.map yfM
 | [], b => rfl
 | p :: fs, b => by
   simp only [yjn, List.map_cons, ykZ (k := k) (fs := fs) (b := b + 1)]
   congr 1
   simp only [yfM, ynW, yjF]; split <;> rfl
theorem ylc {k : Int} : ∀ {fs : List Ent} {b : Nat}, (yjn k b fs).map (·.1) = (fs.map (·.1)).map (yjF k)
 | [], b => rfl
 | p :: fs, b => by
   simp only [yjn, List.map_cons, ylc (k := k) (fs := fs) (b := b + 1)]; rfl
theorem ykc {σ : St} {r rm : Nat} {d : Dk} {fs : List Ent} (h : DiskAt σ r d rm fs) (hok : d.Ok) (k : Int) :
   ∃ σ' fs', Does Tryz.prog prims 20 [.optr r 0, .int .i64 k] σ (.ret (.tuple [])) σ' ∧ DiskAt σ' r (ydG k d) rm fs' ∧ KS (yay r rm fs) σ σ' ∧ ∀ x ∈ yay r rm fs', x ∈ yay r rm fs ∨ σ.objs.length ≤ x := by
 cases hon : d.on with
 | false =>
   refine ⟨σ, fs, Does.prim (by kernel_rfl) ?_, by simp only [ydG, hon]; exact h, KS.refl _ _, fun x hx => .inl hx⟩; simp only [prims]; rw [if_neg (by decide +kernel), if_pos trivial]; simp only [offP, h.hd, ybV, hon, Bool.not_false, ↓reduceIte]
 | true =>
   have hnd := h.nd; unfold yay at hnd; rw [List.nodup_cons, List.nodup_cons] at hnd; have hlt := h.lt; have hids : ∀ x ∈ fs.flatMap (fun p => p.2.ids), x < σ.objs.length := fun x hx => hlt x (by simp only [yay, List.mem_cons]; exact .inr (.inr hx)); have hrl := hlt r (by simp [yay]); have hml := hlt rm (by simp [yay]); have hne : r ≠ rm := fun e => hnd.1 (by rw [e]; exact List.mem_cons_self ..); have hfm : (fs.map (·.2)).flatMap FO.ids = fs.flatMap fun p => p.2.ids := by rw [List.flatMap_map]
   obtain ⟨O, hO⟩ : ∃ O, O = σ.objs ++ [Ob.dead] ++ List.replicate fs.length Ob.unb := ⟨_, rfl⟩; have hOl : O.length = σ.objs.length + 1 + fs.length := by rw [hO]; simp; omega
   have hOo : ∀ q, q < σ.objs.length → O[q]? = σ.objs[q]? := fun q hq => by
     rw [hO, gA2 (by simp; omega), gA2 hq]
   have hFO : ∀ p ∈ fs, FAt O p := fun p hp => (h.hf p hp).frame fun x hx o ho => by
     rw [hOo x (hids x (List.mem_flatMap.2 ⟨p, hp, hx⟩))]; exact ho
   obtain ⟨i1, i2⟩ := offW (k := k) (b := σ.objs.length + 1) (O := O) hnd.2.2 (fun x hx => by have := hids x hx; omega) (by omega) hFO; obtain ⟨O1, hO1⟩ : ∃ O1, O1 = yaZ (yqb k (σ.objs.length + 1) (fs.map (·.2))) O := ⟨_, rfl⟩; have hO1l : O1.length = O.length := (by rw [hO1, ybF]); rw [← hO1] at i1 i2; have hrn : r ∉ fs.flatMap fun p => p.2.ids := fun hx => hnd.1 (List.mem_cons_of_mem _ hx)
   have hd2 : ydG k d = { d with files := d.files.map (yjF k), on := false, armed := 0 } := by simp [ydG, hon]
   have hids2 : ∀ x ∈ (yjn k (σ.objs.length + 1) fs).flatMap (fun p => p.2.ids), x ∈ fs.flatMap (fun p => p.2.ids) ∨ σ.objs.length + 1 ≤ x := fun x hx => yhT x hx; refine ⟨⟨O1.set r (.cells (ybV rm (ydG k d))), σ.toks⟩, yjn k (σ.objs.length + 1) fs, Does.prim (by kernel_rfl) ?_, ⟨?_, ?_, fun p hp => (i1 p hp).frame fun x hx o ho => ?_, ?_, ?_⟩, ⟨fun q o hq ho => ?_, ?_, Nat.le_refl _, fun _ h => h⟩, fun x hx => ?_⟩
   · simp only [prims]; rw [if_neg (by decide +kernel), if_pos trivial]
     have hc : (((fs.map (·.2)).flatMap FO.ids).Nodup ∧ r ∉ (fs.map (·.2)).flatMap FO.ids ∧ ((fs.map (·.2)).all fun f => (f.kept k).all one && decide (f.cs.length + (f.kept k).length ≤ 140737488355328)) = true) := by
       rw [hfm]; refine ⟨hnd.2.2, hrn, ?_⟩; rw [List.all_eq_true]; intro f hf; obtain ⟨p, hp, rfl⟩ := List.mem_map.1 hf; have hF := h.hf p hp; have hsm := hok.sm p.1 (h.pm.mem_iff.1 (List.mem_map_of_mem hp)); have hkm : p.2.kept k = (p.1.wait.take k.toNat).map yal := (by rw [FO.kept, hF.ds, yfa]); rw [hkm, hF.cs, Bool.and_eq_true, decide_eq_true_eq]; refine ⟨ycE _, ?_⟩; simp only [Fl.len, List.length_map, List.length_take] at hsm ⊢; omega
     simp only [offP, h.hd, ybV, hon, Bool.not_true, Bool.false_eq_true, ↓reduceIte, h.hm, yiU h.hf]; rw [if_pos hc, List.length_map, ← hO]; have := yf1 k (fs.map (·.2)) (σ.objs.length + 1); rw [List.length_map] at this; rw [this, ← hO1, hd2]; rfl
   · simp only; rw [gA5 (by omega)]
   · simp only; rw [gA3 hne, i2 rm hnd.2.1 (by omega), hOo rm hml, ykZ]; exact h.hm
   · simp only; rw [gA3]
     · exact ho
     · rintro rfl; rcases hids2 r (List.mem_flatMap.2 ⟨p, hp, hx⟩) with h | h
       · exact hrn h
       · omega
   · unfold yay; rw [List.nodup_cons, List.nodup_cons]; refine ⟨fun hx => ?_, fun hx => ?_, ygY hnd.2.2 fun x hx => by have := hids x hx; omega⟩
     · rcases List.mem_cons.1 hx with e | hx
       · exact hne e
       · rcases hids2 _ hx with h | h
         · exact hrn h
         · omega
     · rcases hids2 _ hx with h | h
       · exact hnd.2.1 h
       · omega
   · rw [ylc, hd2]; exact h.pm.map _
   · have hql := (gA0.1 ho).1; simp only [yay, List.mem_cons, not_or] at hq; simp only; rw [gA3 (Ne.symm hq.1), i2 q hq.2.2 (by omega), hOo q hql]; exact ho
   · simp only [List.length_set]; omega
   · simp only [yay, List.mem_cons] at hx ⊢; rcases hx with h | h | h
     · exact .inl (.inl h)
     · exact .inl (.inr (.inl h))
     · rcases hids2 x h with h | h
       · exact .inl (.inr (.inr h))
       · exact .inr (by omega)
theorem yn1 {σ : St} {r rm : Nat} {d : Dk} {fs : List Ent} (h : DiskAt σ r d rm fs) (hok : d.Ok) :
   ∃ σ' fs', Does Tryz.prog prims 40 [.optr r 0] σ (.ret (.int .i64 20)) σ' ∧ DiskAt σ' r (ydG d.keep d) rm fs' ∧ KS (yay r rm fs) σ σ' ∧ ∀ x ∈ yay r rm fs', x ∈ yay r rm fs ∨ σ.objs.length ≤ x := by
 obtain ⟨σ', fs', h1, h2, h3, h4⟩ := ykc h hok d.keep; refine ⟨σ', fs', ?_, h2, h3, h4⟩
 have key : ∃ q s, Does Tryz.prog prims 40 [.optr r 0] σ q s ∧ (q = .ret (.int .i64 20) ∧ s = σ') := by
   apply k40_is.does (by simp); have l1 : yad Tryz.prog σ.objs 3 (.optr r 5) = some (.int .i64 d.keep) := (by rw [yab h.hd G3]; rfl); simp only [k40_a, WKV, Nat.reduceLT, Nat.reduceEqDiff, ↓reduceIte, reduceCtorEq, Nat.reduceAdd, Int.reduceLT, Int.reduceNeg, yac, gD0, pFA r 5 (by omega), l1]; refine KD.ret h1 ?_; simp only [k40_a, WKV, Nat.reduceLT, Nat.reduceEqDiff, ↓reduceIte, reduceCtorEq, Nat.reduceAdd, Int.reduceLT, Int.reduceNeg, yac]
 obtain ⟨q, s, h5, rfl, rfl⟩ := key; exact h5
theorem IT : IntT Tryz.prog 94 3 := ⟨by kernel_rfl, T3, by kernel_rfl, by kernel_rfl, by kernel_rfl, by kernel_rfl, by kernel_rfl⟩
def HB (σ : St) (v : V) (r : Nat) (bs : List UInt8) : Prop := v = .hslice r 0 1 bs.length ∧ σ.objs[r]? = some (.cells (bs.map yal))
def RB (σ : St) (v : V) (bs : List UInt8) : Prop := BtsV v bs ∨ ∃ r off cs, v = .hslice r off 1 bs.length ∧ σ.objs[r]? = some (.cells cs) ∧ off + bs.length ≤ cs.length ∧ (cs.drop off).take bs.length = bs.map yal
theorem RB.keep {σ σ' : St} {v : V} {bs : List UInt8} (h : RB σ v bs) (hk : Keep σ σ') : RB σ' v bs := by
 rcases h with h | ⟨r, off, cs, h1, h2, h3⟩
 · exact .inl h
 · exact .inr ⟨r, off, cs, h1, hk.1 _ _ h2, h3⟩
theorem RB.len {σ : St} {v : V} {bs : List UInt8} (h : RB σ v bs) : ydn Tryz.prog 30 v = some (.int .i64 (bs.length : Nat)) := by
 rcases h with h | ⟨r, off, cs, rfl, _⟩
 · exact h.len T22
 · simp [ydn, T22]
theorem RB.news {σ : St} {v : V} {bs : List UInt8} (h : RB σ v bs) : ybu Tryz.prog σ.objs 30 v 1 = some (bs.map yal, bs.length) := by
 rcases h with h | ⟨r, off, cs, rfl, h2, h3, h4⟩
 · refine yf3 ?_; rcases h with ⟨rfl, rfl⟩ | ⟨p, rfl⟩ <;> simp [ycP, T22]
 · simp [ybu, ycP, T22, h2, h3, h4]
theorem RB.at {σ : St} {v : V} {bs : List UInt8} (h : RB σ v bs) {i : Nat} (hi : i < bs.length) : ∃ p, yai Tryz.prog 30 v (.int .i64 (i : Int)) = some p ∧ yad Tryz.prog σ.objs 5 p = some (.int .u8 (bs[i].toNat : Nat)) := by
 have hi' : (i : Int) < bs.length := (by omega); rcases h with h | ⟨r, off, cs, rfl, h2, h3, h4⟩
 · refine ⟨_, h.addr T22 S5 (Int.natCast_nonneg i) hi', ?_⟩; have := BtsV.load (P := Tryz.prog) (objs := σ.objs) G5 hi; simpa using this
 · refine ⟨.optr r (off + i), by simp [yai, T22, S5, hi'], ?_⟩
   have h5 : cs[off + i]? = some (yal bs[i]) := by
     have := congrArg (·[i]?) h4; simp only [List.getElem?_take_of_lt hi, List.getElem?_drop, List.getElem?_map, List.getElem?_eq_getElem hi] at this; simpa using this
   rw [yab h2 G5, h5]; rfl
theorem made {σ : St} (v : V) (bs : List UInt8) (hv : v = .hslice σ.objs.length 0 1 bs.length) : HB ⟨σ.objs ++ [.cells (bs.map yal)], σ.toks⟩ v σ.objs.length bs := ⟨hv, yap _ _⟩
theorem SBB : yaQ Tryz.prog 30 = some 1 := pSB
theorem bInfo : (Tryz.prog.info? 5).map (·.bytes) = some 1 := by kernel_rfl
theorem bZero : ybl Tryz.prog 5 = some (.int .u8 0) := by kernel_rfl
theorem ymW {σ : St} {s w' : V} {q : Option Nat} {cs ys : List V} (h : yaU σ.objs s = some (q, cs)) (hw : ybu Tryz.prog σ.objs 30 w' 1 = some (ys, ys.length)) (ho : ys.all one = true) (hl : cs.length + ys.length ≤ 140737488355328) :
   ∃ s' q' σ', yaK Tryz.prog σ 30 30 s w' = some (s', σ') ∧ yaU σ'.objs s' = some (q', cs ++ ys) ∧ KS q.toList σ σ' ∧ (∀ x ∈ q'.toList, x ∈ q.toList ∨ σ.objs.length ≤ x) ∧ one s' = true := by
 have ha := yhr (toks := σ.toks) h hw ho hl; by_cases h0 : ys = []
 · rw [if_pos h0] at ha; refine ⟨s, q, σ, ha, by rw [h0, List.append_nil]; exact h, KS.refl _ _, fun x hx => .inl hx, ?_⟩; rcases yaC h with ⟨rfl, _⟩ | ⟨r, full, rfl, _⟩ <;> rfl
 · rw [if_neg h0] at ha; refine ⟨_, some σ.objs.length, _, ha, ?_, ⟨fun r o hr ho => ?_, ?_, Nat.le_refl _, fun _ h => h⟩, fun x hx => ?_, rfl⟩
   · have e : (yaZ (q.toList.map (·, Ob.dead)) σ.objs).length = σ.objs.length := ybF _ _; have := yap (yaZ (q.toList.map (·, Ob.dead)) σ.objs) (.cells (cs ++ ys)); rw [e] at this; simp only [yaU, this, List.length_append, Nat.le_refl, ↓reduceIte]; rw [List.take_of_length_le (by simp)]
   · have hrl := (gA0.1 ho).1; simp only; rw [gA2 (by rw [ybF]; exact hrl), ybK]
     · exact ho
     · rw [List.map_map]; intro hx; obtain ⟨y, hy, rfl⟩ := List.mem_map.1 hx; exact hr hy
   · simp only [List.length_append, ybF]; omega
   · simp at hx; exact .inr (by omega)
theorem yeS {objs : List Ob} {v : V} {q : Option Nat} {cs : List V} (h : yaU objs v = some (q, cs)) : one v = true := by
 rcases yaC h with ⟨rfl, _⟩ | ⟨r, full, rfl, _⟩ <;> rfl
theorem yeC {objs : List Ob} {v : V} {q : Option Nat} {cs : List V} (h : yaU objs v = some (q, cs)) : ydn Tryz.prog 30 v = some (.int .i64 (cs.length : Nat)) := by
 rcases yaC h with ⟨rfl, rfl, rfl⟩ | ⟨r, full, rfl, _⟩ <;> simp [ydn, pTB]
theorem ykj {objs : List Ob} {v : V} {q : Option Nat} {cs : List V} (h : yaU objs v = some (q, cs)) : ygh v = some cs.length := by
 rcases yaC h with ⟨rfl, rfl, rfl⟩ | ⟨r, full, rfl, _⟩ <;> simp [ygh]
theorem yhR {σ : St} {v : V} {q : Option Nat} {bs : List UInt8} (h : yaU σ.objs v = some (q, bs.map yal)) : RB σ v bs := by
 rcases yaC h with ⟨rfl, rfl, h0⟩ | ⟨r, full, rfl, rfl, hr, hl, hc⟩
 · exact .inl (.inl ⟨rfl, List.map_eq_nil_iff.1 h0⟩)
 · simp only [List.length_map] at hl hc ⊢; exact .inr ⟨r, 0, full, rfl, hr, by omega, by rw [List.drop_zero]; exact hc.symm⟩
theorem ycA {objs objs2 : List Ob} {v : V} {q : Option Nat} {cs : List V} (h : yaU objs v = some (q, cs)) (hk : ∀ x ∈ q.toList, ∀ o, objs[x]? = some o → objs2[x]? = some o) : yaU objs2 v = some (q, cs) := by
 rcases yaC h with ⟨rfl, rfl, rfl⟩ | ⟨r, full, e1, e2, hr, hl, hc⟩
 · rfl
 · exact yd8 h fun x hx => by
     rw [e2] at hx; injection hx with hx; subst hx
     rw [hr]; exact hk _ (by simp [e2]) _ hr
theorem yg5 {objs : List Ob} {v : V} {q : Option Nat} {cs : List V} (h : yaU objs v = some (q, cs)) {n : Nat} (hn : n ≤ cs.length) : ∃ v', yck Tryz.prog 30 v none (some (.int .i64 (n : Int))) none = some v' ∧ yaU objs v' = some (q, cs.take n) := by
 have hb := yc0 (k := .i64) (n := (n : Int)) (len := cs.length) (by omega) (by omega); rcases yaC h with ⟨rfl, rfl, rfl⟩ | ⟨r, full, rfl, rfl, hr, hl, hc⟩
 · have : n = 0 := (by simpa using hn); subst this; exact ⟨.nils, by kernel_rfl, rfl⟩
 · refine ⟨.hslice r 0 1 n, ?_, ?_⟩
   · simp only [yck, pTB, pS1, hb]; simp
   · have h1 : full.take n = cs.take n := (by rw [hc, List.take_take, Nat.min_eq_left]; omega); simp only [yaU, hr]; rw [if_pos (by omega), h1]
theorem ycJ (a b : List Ent) (p : Ent) : ((a ++ p :: b).flatMap fun p => p.2.ids) = (a.flatMap fun p => p.2.ids) ++ (p.2.ids ++ b.flatMap fun p => p.2.ids) := by simp
theorem ymX {A I J B : List Nat} {n : Nat} (h : (A ++ (I ++ B)).Nodup) (hl : ∀ x ∈ A ++ (I ++ B), x < n) (hj : J.Nodup) (hs : ∀ x ∈ J, x ∈ I ∨ n ≤ x) : (A ++ (J ++ B)).Nodup := by
 rw [List.nodup_append, List.nodup_append] at h ⊢; obtain ⟨h1, ⟨h2, h3, h4⟩, h5⟩ := h; refine ⟨h1, ⟨hj, h3, fun x hx y hy e => ?_⟩, fun x hx y hy e => ?_⟩
 · rcases hs x hx with h | h
   · exact h4 x h y hy e
   · have := hl y (by simp [hy]); omega
 · rcases List.mem_append.1 hy with hy | hy
   · rcases hs y hy with h | h
     · exact h5 x hx y (List.mem_append_left _ h) e
     · have := hl x (by simp [hx]); omega
   · exact h5 x hx y (List.mem_append_right _ hy) e
theorem ymP {l : List Fl} {f x : Fl} {A B : List Fl} (hr : l.Pairwise fun f g => f.name < g.name) (hp : (A ++ f :: B).Perm l) (hx : x.name = f.name) : (A ++ x :: B).Perm (ycy x l) := by
 have hnl : (l.map Fl.name).Nodup := by
   rw [List.nodup_iff_pairwise_ne, List.pairwise_map]; exact hr.imp fun {f g} hlt (he : f.name = g.name) => yaD f.name (by rw [← he] at hlt; exact hlt)
 have hn2 : ((ycy x l).map Fl.name).Nodup := by
   rw [List.nodup_iff_pairwise_ne, List.pairwise_map]; exact (yeT hr).imp fun {f g} hlt (he : f.name = g.name) => yaD f.name (by rw [← he] at hlt; exact hlt)
 have hn1 : ((A ++ f :: B).map Fl.name).Nodup := (hp.map _).nodup_iff.2 hnl
 have hn3 : ((A ++ x :: B).map Fl.name).Nodup := by
   simp only [List.map_append, List.map_cons, hx] at hn1 ⊢; exact hn1
 refine yjt hn3 hn2 fun g => ?_; rw [mem_putF, ← hp.mem_iff, List.mem_append, List.mem_cons, List.mem_append, List.mem_cons]
 have hA : ∀ g, g ∈ A → g.name ≠ x.name := fun g hg e => by
   simp only [List.map_append, List.map_cons] at hn3; rw [List.nodup_append] at hn3; exact hn3.2.2 _ (List.mem_map_of_mem hg) _ (List.mem_cons_self ..) e
 have hB : ∀ g, g ∈ B → g.name ≠ x.name := fun g hg e => by
   simp only [List.map_append, List.map_cons] at hn3; rw [List.nodup_append, List.nodup_cons] at hn3; exact hn3.2.1.1 (by rw [← e]; exact List.mem_map_of_mem hg)
 constructor
 · rintro (h | rfl | h)
   · exact .inr ⟨.inl h, hA g h⟩
   · exact .inl rfl
   · exact .inr ⟨.inr (.inr h), hB g h⟩
 · rintro (rfl | ⟨h | rfl | h, h2⟩)
   · exact .inr (.inl rfl)
   · exact .inl h
   · exact absurd hx.symm h2
   · exact .inr (.inr h)
theorem DiskAt.change {σ σ' : St} {r rm : Nat} {d d2 : Dk} {fs a b : List Ent} {p p' : Ent} {n : List UInt8} (h : DiskAt σ r d rm fs) (hok : d.Ok) (hA : Has d fs a b p n) (hk : KS p.2.ids σ σ') (hF : FAt σ'.objs p') (hrf : p'.2.rf = p.2.rf) (hn : p'.1.name = n)
   (hnd : p'.2.ids.Nodup) (hids : ∀ x ∈ p'.2.ids, x ∈ p.2.ids ∨ σ.objs.length ≤ x) (hd2 : d2 = { d with files := ycy p'.1 d.files }) : DiskAt σ' r d2 rm (a ++ p' :: b) ∧ KS (yay r rm fs) σ σ' ∧ ∀ x ∈ yay r rm (a ++ p' :: b), x ∈ yay r rm fs ∨ σ.objs.length ≤ x := by
 have hlt := h.lt; have hN := h.nd; have hfs := hA.e; subst hfs; have hpm := h.pm; have hN0 := hN; unfold yay at hN; rw [List.nodup_cons, List.nodup_cons, ycJ] at hN; obtain ⟨n1, n2, n3⟩ := hN
 have hdj : ∀ q ∈ a ++ b, ∀ x ∈ q.2.ids, x ∉ p.2.ids := by
   intro q hq x hx hx2; rw [List.nodup_append, List.nodup_append] at n3; rcases List.mem_append.1 hq with hq | hq
   · exact n3.2.2 x (List.mem_flatMap.2 ⟨q, hq, hx⟩) x (List.mem_append_left _ hx2) rfl
   · exact n3.2.1.2.2 x hx2 x (List.mem_flatMap.2 ⟨q, hq, hx⟩) rfl
 have hpi : ∀ x ∈ p.2.ids, x ∈ yay r rm (a ++ p :: b) := fun x hx => by
   simp only [yay, List.mem_cons, List.mem_flatMap]; exact .inr (.inr ⟨p, by simp, hx⟩)
 have hrp : r ∉ p.2.ids := fun hx => n1 (List.mem_cons_of_mem _ (by simp [hx])); have hmp : rm ∉ p.2.ids := fun hx => n2 (by simp [hx])
 have hfoot : ∀ x ∈ yay r rm (a ++ p' :: b), x ∈ yay r rm (a ++ p :: b) ∨ σ.objs.length ≤ x := by
   intro x hx; simp only [yay, List.mem_cons, List.flatMap_append, List.flatMap_cons, List.mem_append] at hx ⊢; rcases hx with hx | hx | hx | hx | hx
   · exact .inl (.inl hx)
   · exact .inl (.inr (.inl hx))
   · exact .inl (.inr (.inr (.inl hx)))
   · rcases hids x hx with h | h
     · exact .inl (.inr (.inr (.inr (.inl h))))
     · exact .inr h
   · exact .inl (.inr (.inr (.inr (.inr hx))))
 have hent : (a ++ p' :: b).map yfM = (a ++ p :: b).map yfM := by
   simp only [List.map_append, List.map_cons]; rw [show yfM p' = yfM p by simp only [yfM, hn, hA.nm, hrf]]
 refine ⟨⟨?_, ?_, fun q hq => ?_, ?_, ?_⟩, hk.mono fun x hx => .inl (hpi x hx), hfoot⟩
 · rw [hd2]; exact hk.ko _ _ hrp h.hd
 · rw [hent]; exact hk.ko _ _ hmp h.hm
 · by_cases hqp : q ∈ a ++ b
   · have hqm : q ∈ a ++ p :: b := by
       rcases List.mem_append.1 hqp with h | h <;> simp [h]
     exact (h.hf q hqm).frame fun x hx o ho => hk.ko _ _ (hdj q hqp x hx) ho
   · have : q = p' := by
       simp only [List.mem_append, List.mem_cons, not_or] at hq hqp; rcases hq with h | h | h
       · exact absurd h hqp.1
       · exact h
       · exact absurd h hqp.2
     subst this; exact hF
 · have hx := ymX (n := σ.objs.length) (A := r :: rm :: a.flatMap fun p => p.2.ids) (I := p.2.ids) (J := p'.2.ids) (B := b.flatMap fun p => p.2.ids) (by
     unfold yay at hN0; rw [ycJ] at hN0; exact hN0) (fun x hx => hlt x (by unfold yay; rw [ycJ]; exact hx)) hnd hids
   unfold yay; rw [ycJ]; exact hx
 · rw [hd2]; simp only [List.map_append, List.map_cons] at hpm ⊢; exact ymP hok.rise hpm (by rw [hn, hA.nm])
theorem FAt.upd {σ σa : St} {p : Ent} {s' w' : V} {qs qw : Option Nat} {f' : Fl} (h : FAt σ.objs p) (hk : KS (p.2.rs.toList ++ p.2.rw.toList) σ σa) (hnd : p.2.ids.Nodup) (hlt : ∀ x ∈ p.2.ids, x < σ.objs.length)
   (hs : yaU σa.objs s' = some (qs, f'.safe.map yal)) (hw : yaU σa.objs w' = some (qw, f'.wait.map yal)) (hq : ∀ x ∈ qs.toList ++ qw.toList, x ∈ p.2.rs.toList ++ p.2.rw.toList ∨ σ.objs.length ≤ x) (hqn : (qs.toList ++ qw.toList).Nodup) :
   ∃ p' : Ent, p'.1 = f' ∧ p'.2.rf = p.2.rf ∧ FAt (σa.objs.set p.2.rf (.cells [s', w'])) p' ∧ KS p.2.ids σ ⟨σa.objs.set p.2.rf (.cells [s', w']), σa.toks⟩ ∧ p'.2.ids.Nodup ∧ (∀ x ∈ p'.2.ids, x ∈ p.2.ids ∨ σ.objs.length ≤ x) ∧ σa.objs[p.2.rf]? = some (.cells [p.2.s, p.2.w]) := by
 have hrfl := hlt p.2.rf (by simp [FO.ids]); simp only [FO.ids, List.nodup_cons] at hnd
 have hrf : p.2.rf ∉ qs.toList ++ qw.toList := fun hx => by
   rcases hq _ hx with h | h
   · exact hnd.1 h
   · omega
 have hoba : σa.objs[p.2.rf]? = some (.cells [p.2.s, p.2.w]) := hk.ko _ _ hnd.1 h.ob; have hk1 : KS p.2.ids σ σa := hk.mono fun x hx => .inl (by simp only [FO.ids, List.mem_cons]; exact .inr hx); refine ⟨(f', ⟨p.2.rf, s', qs, f'.safe.map yal, w', qw, f'.wait.map yal⟩), rfl, rfl, ⟨yaM hoba, ?_, ?_, rfl, rfl⟩, hk1.trans' (KS.set (.inl (by simp [FO.ids])) _), ?_, ?_, hoba⟩
 · refine ycA hs fun x hx o ho => ?_; rw [gA3]
   · exact ho
   · rintro rfl; exact hrf (List.mem_append_left _ hx)
 · refine ycA hw fun x hx o ho => ?_; rw [gA3]
   · exact ho
   · rintro rfl; exact hrf (List.mem_append_right _ hx)
 · simp only [FO.ids, List.nodup_cons]; exact ⟨hrf, hqn⟩
 · intro x hx; simp only [FO.ids, List.mem_cons] at hx ⊢; rcases hx with h | h
   · exact .inl (.inl h)
   · rcases hq x h with h | h
     · exact .inl (.inr h)
     · exact .inr h
def Next (σ : St) (r rm : Nat) (fs : List Ent) (σ' : St) (d' : Dk) : Prop := ∃ fs', DiskAt σ' r d' rm fs' ∧ KS (yay r rm fs) σ σ' ∧ ∀ x ∈ yay r rm fs', x ∈ yay r rm fs ∨ σ.objs.length ≤ x
theorem Next.refl {σ : St} {r rm : Nat} {d : Dk} {fs : List Ent} (h : DiskAt σ r d rm fs) : Next σ r rm fs σ d := ⟨fs, h, KS.refl _ _, fun x hx => .inl hx⟩
theorem Next.trans {σ σ1 σ2 : St} {r rm : Nat} {d : Dk} {fs fs1 : List Ent} (hk : KS (yay r rm fs) σ σ1) (hs : ∀ x ∈ yay r rm fs1, x ∈ yay r rm fs ∨ σ.objs.length ≤ x) (h : Next σ1 r rm fs1 σ2 d) : Next σ r rm fs σ2 d := by
 obtain ⟨fs', h1, h2, h3⟩ := h; refine ⟨fs', h1, hk.trans h2 hs, fun x hx => ?_⟩; have := hk.le; rcases h3 x hx with h | h
 · exact hs x h
 · exact .inr (by omega)
theorem Has.ids {σ : St} {r rm : Nat} {d : Dk} {fs a b : List Ent} {p : Ent} {n : List UInt8} (h : DiskAt σ r d rm fs) (hA : Has d fs a b p n) : FAt σ.objs p ∧ p.2.ids.Nodup ∧ ∀ x ∈ p.2.ids, x < σ.objs.length := by
 have hp : p ∈ fs := (by rw [hA.e]; simp); have hN := h.nd; unfold yay at hN; rw [List.nodup_cons, List.nodup_cons, hA.e, ycJ, List.nodup_append, List.nodup_append] at hN; refine ⟨h.hf p hp, hN.2.2.2.1.1, fun x hx => h.lt x ?_⟩; simp only [yay, List.mem_cons, List.mem_flatMap]; exact .inr (.inr ⟨p, hp, hx⟩)
theorem DiskAt.upd {σ σa : St} {r rm : Nat} {d : Dk} {fs a b : List Ent} {p : Ent} {n : List UInt8} {s' w' : V} {qs qw : Option Nat} {f' : Fl} (h : DiskAt σ r d rm fs) (hok : d.Ok) (hA : Has d fs a b p n) (hk : KS (p.2.rs.toList ++ p.2.rw.toList) σ σa)
   (hs : yaU σa.objs s' = some (qs, f'.safe.map yal)) (hw : yaU σa.objs w' = some (qw, f'.wait.map yal)) (hq : ∀ x ∈ qs.toList ++ qw.toList, x ∈ p.2.rs.toList ++ p.2.rw.toList ∨ σ.objs.length ≤ x) (hqn : (qs.toList ++ qw.toList).Nodup) (hn : f'.name = n) :
   Next σ r rm fs ⟨σa.objs.set p.2.rf (.cells [s', w']), σa.toks⟩ { d with files := ycy f' d.files } ∧ σa.objs[p.2.rf]? = some (.cells [p.2.s, p.2.w]) := by
 obtain ⟨g1, g2, g3⟩ := hA.ids h; obtain ⟨p', e1, e2, e3, e4, e5, e6, e7⟩ := g1.upd hk g2 g3 hs hw hq hqn; obtain ⟨i1, i2, i3⟩ := h.change hok hA e4 e3 e2 (by rw [e1, hn]) e5 e6 (d2 := { d with files := ycy f' d.files }) (by rw [e1]); exact ⟨⟨_, i1, i2, i3⟩, e7⟩
theorem Dk.Ok.head {d d2 : Dk} (h : d.Ok) (hf : d2.files = d.files) (ha : (d2.armed : Int) ≤ 9223372036854775807) (hr : ycm d2.room) (hk : ycm d2.keep) : d2.Ok := ⟨by rw [hf]; exact h.rise, by rw [hf]; exact h.nm, by rw [hf]; exact h.few, by rw [hf]; exact h.sm, ha, hr, hk⟩
theorem Dk.Ok.raw {d : Dk} (h : d.Ok) : (ybj d).2.Ok := by
 have := h.arm; unfold ybj; split
 · exact h.head rfl h.arm h.rm h.kp
 · exact h.head rfl (by simp only; omega) h.rm h.kp
theorem ybm (d : Dk) : (ybj d).2.files = d.files ∧ (ybj d).2.keep = d.keep ∧ (ybj d).2.room = d.room ∧ (ybj d).2.on = d.on ∧ (ybj d).2.writes = d.writes + 1 := by
 unfold ybj; split <;> exact ⟨rfl, rfl, rfl, rfl, rfl⟩
theorem Dk.Ok.off {d : Dk} (h : d.Ok) (k : Int) : (ydG k d).Ok := by
 unfold ydG; split
 · refine ⟨?_, fun f hf => ?_, by simp only [List.length_map]; exact h.few, fun f hf => ?_, by simp, h.rm, h.kp⟩
   · simp only [List.pairwise_map]; exact h.rise
   · obtain ⟨g, hg, rfl⟩ := List.mem_map.1 hf; exact h.nm g hg
   · obtain ⟨g, hg, rfl⟩ := List.mem_map.1 hf; have := h.sm g hg; simp only [Fl.len, yjF, List.length_append, List.length_take, List.length_nil] at this ⊢; omega
 · exact h
theorem Dk.Ok.put {d : Dk} (h : d.Ok) {x : Fl} (hn : ybZ x.name = true) (hs : x.len ≤ 1048576) (hl : (yc7 d.files x.name).isNone = true → d.files.length < 16) : ({ d with files := ycy x d.files } : Dk).Ok := by
 refine ⟨yeT h.rise, fun f hf => ?_, ?_, fun f hf => ?_, h.arm, h.rm, h.kp⟩
 · rcases mem_putF.1 hf with rfl | ⟨hf, _⟩
   · exact hn
   · exact h.nm f hf
 · simp only; rw [ypd h.rise]; have := h.few; split
   · rename_i h1; have := hl h1; omega
   · exact h.few
 · rcases mem_putF.1 hf with rfl | ⟨hf, _⟩
   · exact hs
   · exact h.sm f hf
theorem Dk.Ok.drop {d : Dk} (h : d.Ok) (n : List UInt8) : ({ d with files := ydU n d.files } : Dk).Ok := by
 refine ⟨ylQ h.rise, fun f hf => h.nm f (mem_dropF.1 hf).1, ?_, fun f hf => h.sm f (mem_dropF.1 hf).1, h.arm, h.rm, h.kp⟩; exact Nat.le_trans (List.length_filter_le ..) h.few
theorem ycI {d : Dk} {n : List UInt8} (h : yaw d n = 0) : ybZ n = true ∧ d.on = true := by
 unfold yaw at h; split at h
 · cases h
 · rename_i h1; split at h
   · cases h
   · rename_i h2; exact ⟨by simpa using h1, by simpa using h2⟩
theorem ydr {d : Dk} {n : List UInt8} (h : yao d n = 0) : yaw d n = 0 ∧ ∃ f, yc7 d.files n = some f := by
 unfold yao at h; split at h
 · rename_i h1; exact absurd h h1
 · rename_i h1; refine ⟨Classical.byContradiction h1, ?_⟩
   cases hg : yc7 d.files n with
   | none => rw [hg] at h; cases h
   | some f => exact ⟨f, rfl⟩
theorem Has.files {d d2 : Dk} {fs a b : List Ent} {p : Ent} {n : List UInt8} (hA : Has d fs a b p n) (h : d2.files = d.files) : Has d2 fs a b p n := ⟨hA.e, hA.nm, by rw [h]; exact hA.g, hA.a, hA.b⟩
theorem Dk.Ok.get {d : Dk} (h : d.Ok) {n : List UInt8} {f : Fl} (hg : yc7 d.files n = some f) : f ∈ d.files ∧ f.name = n ∧ ybZ n = true ∧ f.len ≤ 1048576 := by
 obtain ⟨h1, h2⟩ := yey hg; exact ⟨h1, h2, by rw [← h2]; exact h.nm f h1, h.sm f h1⟩
theorem yhB {σ : St} {r rm : Nat} {d : Dk} {fs : List Ent} (h : DiskAt σ r d rm fs) (hok : d.Ok) (hw : d.writes < 4611686018427387904) :
   ∃ σ1, Does Tryz.prog prims 39 [.optr r 0] σ (.ret (.bool (ybj d).1)) σ1 ∧ DiskAt σ1 r (ybj d).2 rm fs ∧ KS (yay r rm fs) σ σ1 ∧ σ1.objs.length = σ.objs.length ∧
     ∃ σ2, Does Tryz.prog prims 40 [.optr r 0] σ1 (.ret (.int .i64 20)) σ2 ∧ Next σ r rm fs σ2 (ydG d.keep (ybj d).2) := by
 obtain ⟨σ1, h1, h2, h3, h4⟩ := yoV h hok hw; obtain ⟨σ2, fs2, h5, h6, h7, h8⟩ := yn1 h2 hok.raw; refine ⟨σ1, h1, h2, h3, h4, σ2, h5, ?_⟩; rw [(ybm d).2.1] at h6; exact Next.trans h3 (fun x hx => .inl hx) ⟨fs2, h6, h7, h8⟩
theorem ykQ {objs : List Ob} : ∀ {fs : List Ent}, (∀ p ∈ fs, FAt objs p) → ydl objs (fs.map yfM) = some (fs.map fun p => p.1.len)
 | [], _ => rfl
 | p :: fs, h => by
   have hp := h p (List.mem_cons_self ..); have h1 := ykj hp.s; have h2 := ykj hp.w; rw [List.length_map] at h1 h2; simp only [List.map_cons, ydl, yhO, yfM, hp.ob, h1, h2]; have := ykQ fun q hq => h q (List.mem_cons_of_mem _ hq); rw [this]
theorem ylV {l : List Nat} {m : Nat} (h : ∀ x ∈ l, x ≤ m) : l.sum ≤ l.length * m := by
 induction l with
 | nil => simp
 | cons x l ih =>
   have h1 := h x (List.mem_cons_self ..); have h2 := ih fun y hy => h y (List.mem_cons_of_mem _ hy); simp only [List.sum_cons, List.length_cons, Nat.succ_mul]; omega
theorem yfS {d : Dk} (hok : d.Ok) : ydC d.files ≤ 16777216 := by
 have h1 := ylV (l := d.files.map Fl.len) (m := 1048576) fun x hx => by
   obtain ⟨f, hf, rfl⟩ := List.mem_map.1 hx; exact hok.sm f hf
 have h2 := hok.few; unfold ydC; rw [List.length_map] at h1; omega
theorem yol {σ : St} {r rm : Nat} {d : Dk} {fs : List Ent} (h : DiskAt σ r d rm fs) (hok : d.Ok) : Does Tryz.prog prims 38 [.optr r 0] σ (.ret (.int .i64 (ydC d.files : Nat))) ⟨σ.objs ++ [.dead], σ.toks⟩ := by
 refine Does.prim (by kernel_rfl) ?_; simp only [prims]; rw [if_pos trivial]
 have hs : (fs.map fun p => p.1.len).sum = ydC d.files := by
   have := (h.pm.map Fl.len).sum_nat; rw [List.map_map] at this; exact this
 have hb := yfS hok; simp only [yoJ, h.hd, ybV, h.hm, ykQ h.hf, hs]; rw [if_pos (by omega)]
theorem DiskAt.pushed {σ : St} {r rm : Nat} {d : Dk} {fs : List Ent} (h : DiskAt σ r d rm fs) (o : Ob) : DiskAt ⟨σ.objs ++ [o], σ.toks⟩ r d rm fs := h.keep (KS.push [] σ o) fun x _ => by simp
theorem ynK {x y : Fl} {l : List Fl} (hn : x.name = y.name) : ycy x (ycy y l) = ycy x l := by
 unfold ycy; have h1 : ¬ y.name < y.name := yaD _
 have e1 : (List.filter (fun f => decide (f.name < x.name)) (l.filter fun f => decide (y.name < f.name))) = [] := by
   rw [List.filter_filter, List.filter_eq_nil_iff]; intro f _; rw [hn]; simp only [Bool.and_eq_true, decide_eq_true_eq, not_and]; intro h2 h3; exact yaD _ (ybX h2 h3)
 have e2 : (List.filter (fun f => decide (x.name < f.name)) (l.filter fun f => decide (f.name < y.name))) = [] := by
   rw [List.filter_filter, List.filter_eq_nil_iff]; intro f _; rw [hn]; simp only [Bool.and_eq_true, decide_eq_true_eq, not_and]; intro h2 h3; exact yaD _ (ybX h2 h3)
 rw [List.filter_append, List.filter_append, List.filter_cons, List.filter_cons, e1, e2, hn]; simp only [h1, decide_false, Bool.false_eq_true, ↓reduceIte, List.append_nil, List.nil_append, List.filter_filter, Bool.and_self]
theorem RB.ks {σ σ' : St} {v : V} {bs : List UInt8} {S : List Nat} (h : RB σ v bs) (hk : KS S σ σ') (hs : ∀ q ∈ S, ∀ cs, σ.objs[q]? ≠ some (.cells cs)) : RB σ' v bs := by
 rcases h with h | ⟨q, off, cs, e1, e2, e3⟩
 · exact .inl h
 · exact .inr ⟨q, off, cs, e1, hk.ko q _ (fun hq => hs q hq cs e2) e2, e3⟩
theorem DiskAt.fresh {σ : St} {r rm : Nat} {d : Dk} {fs : List Ent} (h : DiskAt σ r d rm fs) (hok : d.Ok) {n : List UInt8} (hg : yc7 d.files n = none) {σ1 σ2 : St} (h1 : σ1 = ⟨σ.objs ++ [.cells [.nils, .nils]], σ.toks⟩) :
   ∃ σ2 p d2, yfs Tryz.prog σ1 72 (.omap rm) (.str n) (.optr σ.objs.length 0) = some σ2 ∧ d2 = { d with files := ycy ⟨n, [], []⟩ d.files } ∧ p.1 = ⟨n, [], []⟩ ∧ p.2.rf = σ.objs.length ∧ DiskAt σ2 r d2 rm (fs ++ [p]) ∧ KS [rm] σ σ2 ∧ Has d2 (fs ++ [p]) fs [] p n ∧ σ2.objs.length = σ.objs.length + 1 ∧ ∀ x ∈ yay r rm (fs ++ [p]), x ∈ yay r rm fs ∨ σ.objs.length ≤ x := by
 have D1 : DiskAt σ1 r d rm fs := (by rw [h1]; exact h.pushed _); have hlt := h.lt; have hN := h.nd; have hno := h.get_no hg; unfold yay at hN; rw [List.nodup_cons, List.nodup_cons] at hN; have hrl := hlt r (by simp [yay]); have hml := hlt rm (by simp [yay]); have hml1 : rm < σ1.objs.length := (by rw [h1]; simp; omega); have hfl : ∀ x ∈ fs.flatMap (fun p => p.2.ids), x < σ.objs.length := fun x hx => hlt x (by simp only [yay, List.mem_cons]; exact .inr (.inr hx)); refine ⟨⟨σ1.objs.set rm (.mp (fs.map yfM ++ [(.str n, .optr σ.objs.length 0)])), σ1.toks⟩, (⟨n, [], []⟩, ⟨σ.objs.length, .nils, none, [], .nils, none, []⟩), _, ?_, rfl, rfl, rfl, ⟨?_, ?_, ?_, ?_, ?_⟩, ?_, ⟨rfl, rfl, ?_, hno, fun q hq => by cases hq⟩, ?_, ?_⟩
 · simp only [yfs, pTM, D1.hm, keyD, yn7 hno]
 · simp only; rw [gA3 (fun e => hN.1 (by rw [e]; exact List.mem_cons_self ..))]; exact D1.hd
 · simp only; rw [gA5 hml1, List.map_append]; rfl
 · intro q hq; rcases List.mem_append.1 hq with hq | hq
   · exact (D1.hf q hq).frame fun x hx o ho => by
       simp only; rw [gA3 (fun e => hN.2.1 (by rw [e]; exact List.mem_flatMap.2 ⟨q, hq, hx⟩))]; exact ho
   · rw [List.mem_singleton] at hq; subst hq; refine ⟨?_, rfl, rfl, rfl, rfl⟩; simp only; rw [gA3 (by omega), h1]; exact yap _ _
 · have e : yay r rm (fs ++ [((⟨n, [], []⟩ : Fl), (⟨σ.objs.length, .nils, none, [], .nils, none, []⟩ : FO))]) = yay r rm fs ++ [σ.objs.length] := by
     simp [yay, FO.ids]
   rw [e, List.nodup_append]; exact ⟨h.nd, by simp, fun x hx y hy => by rw [List.mem_singleton] at hy; have := hlt x hx; omega⟩
 · simp only [List.map_append, List.map_cons, List.map_nil]; have hp := h.pm
   have h3 : (ycy ⟨n, [], []⟩ d.files).Perm (⟨n, [], []⟩ :: d.files) := by
     unfold ycy; refine (List.perm_middle).trans (.cons _ ?_)
     have e : (d.files.filter fun f => decide (n < f.name)) = d.files.filter fun f => !decide (f.name < n) := by
       refine List.filter_congr fun f hf => ?_; have hne := yeD hg f hf; rcases yql hne with h | h
       · have : ¬ n < f.name := fun h2 => yaD _ (ybX h h2); simp [h, this]
       · have : ¬ f.name < n := fun h2 => yaD _ (ybX h h2); simp [h, this]
     rw [e]; exact List.filter_append_perm _ _
   exact (List.perm_append_singleton ..).trans ((hp.cons _).trans h3.symm)
 · refine (KS.push [rm] σ (.cells [.nils, .nils])).trans' ?_; rw [← h1]; exact KS.set (.inl (by simp)) _
 · have hm : (⟨n, [], []⟩ : Fl) ∈ ycy ⟨n, [], []⟩ d.files := mem_putF.2 (.inl rfl)
   have hnd : ((ycy ⟨n, [], []⟩ d.files).map Fl.name).Nodup := by
     rw [List.nodup_iff_pairwise_ne, List.pairwise_map]; exact (yeT hok.rise).imp fun {f g} hlt (he : f.name = g.name) => yaD f.name (by rw [← he] at hlt; exact hlt)
   exact ylb hnd hm
 · simp [h1]
 · intro x hx; simp only [yay, List.mem_cons, List.flatMap_append, List.mem_append] at hx ⊢; rcases hx with hx | hx | hx | hx
   · exact .inl (.inl hx)
   · exact .inl (.inr (.inl hx))
   · exact .inl (.inr (.inr hx))
   · simp [FO.ids] at hx; exact .inr (by omega)
theorem ygH {σ : St} {r rm : Nat} {d : Dk} {fs a b : List Ent} {p : Ent} {n bs : List UInt8} {v : V} {e : Nat → V} {R : VRes → St → Prop} (h : DiskAt σ r d rm fs) (hok : d.Ok) (hA : Has d fs a b p n) (hw : d.writes < 4611686018427387904) (hb : RB σ v bs) (hl : p.1.len + bs.length ≤ 1048576)
   (h0 : e 0 = .optr r 0) (h2 : e 2 = v) (h8 : e 8 = .optr p.2.rf 0) (d2 : Dk) (hd2 : d2 = { d with files := ycy ⟨n, p.1.safe, p.1.wait ++ bs⟩ d.files })
   (hR : ∀ σ' x, Next σ r rm fs σ' (if (ybj d2).1 = true then ydG d.keep (ybj d2).2 else (ybj d2).2) → x = (if (ybj d2).1 = true then 20 else 0 : Nat) → R (.ret (.int .i64 (x : Nat))) σ') :
   Ev Tryz.prog prims 88 (k9_r14.seq (((CC.region k9_r15).seq (CC.cond (.tmp 85) ((CC.region k9_r16).seq CC.ret) CC.skip)).seq ((CC.region k9_r17).seq CC.ret))) e σ (fnK Tryz.prog 88 [ResultVar.tmp 6] R) := by
 obtain ⟨g1, g2, g3⟩ := hA.ids h; simp only [Fl.len] at hl; have hbn := hb.news; rw [← List.length_map (f := yal)] at hbn; obtain ⟨w', qw, σa, ha, hwa, hka, hqa, h1a⟩ := ymW g1.w hbn (ycE bs) (by simp; omega); have hk2 : KS (p.2.rs.toList ++ p.2.rw.toList) σ σa := hka.mono fun x hx => .inl (List.mem_append_right _ hx); have hnd2 : (p.2.rs.toList ++ p.2.rw.toList).Nodup := (by simp only [FO.ids, List.nodup_cons] at g2; exact g2.2); have hlt2 : ∀ x ∈ p.2.rs.toList, x < σ.objs.length := fun x hx => g3 x (by simp only [FO.ids, List.mem_cons, List.mem_append]; exact .inr (.inl hx)); have hsa : yaU σa.objs p.2.s = some (p.2.rs, p.1.safe.map yal) := ycA g1.s fun x hx o ho => hka.ko _ _ (fun hx2 => (List.nodup_append.1 hnd2).2.2 x hx x hx2 rfl) ho
 have hqn : (p.2.rs.toList ++ qw.toList).Nodup := by
   rw [List.nodup_append] at hnd2 ⊢; refine ⟨hnd2.1, by cases qw <;> simp, fun x hx y hy e => ?_⟩; rcases hqa y hy with h | h
   · exact hnd2.2.2 x hx y h e
   · have := hlt2 x hx; omega
 obtain ⟨N1, hob⟩ := h.upd hok hA (f' := ⟨n, p.1.safe, p.1.wait ++ bs⟩) hk2 hsa (by rw [List.map_append]; exact hwa) (fun x hx => by
   rcases List.mem_append.1 hx with h | h
   · exact .inl (List.mem_append_left _ h)
   · rcases hqa x h with h | h
     · exact .inl (List.mem_append_right _ h)
     · exact .inr h) hqn rfl
 rw [← hd2] at N1; have lw : yad Tryz.prog σ.objs 30 (.optr p.2.rf 1) = some p.2.w := (by rw [yab g1.ob pGB]; rfl); obtain ⟨σb, hσb⟩ : ∃ σb : St, σb = ⟨σa.objs.set p.2.rf (.cells [p.2.s, w']), σa.toks⟩ := ⟨_, rfl⟩; have st : yak Tryz.prog σa 30 (.optr p.2.rf 1) w' = some σb := (by rw [yag hob SBB h1a (by simp), hσb]; rfl); rw [← hσb] at N1; obtain ⟨fs1, D1, K1, I1⟩ := N1; have hgt := hok.get hA.g
 have ok2 : d2.Ok := by
   rw [hd2]; refine hok.put hgt.2.2.1 (by simp only [Fl.len, List.length_append]; omega) fun hn => ?_; simp only at hn; rw [hA.g] at hn
   cases hn
 have hw2 : d2.writes < 4611686018427387904 := (by rw [hd2]; exact hw); have hkp : d2.keep = d.keep := (by rw [hd2]); obtain ⟨σ1, r1, r2, r3, r4, σ2, r5, r6⟩ := yhB D1 ok2 hw2; simp only [k9_a, WKV, Nat.reduceLT, Nat.reduceEqDiff, ↓reduceIte, reduceCtorEq, Nat.reduceAdd, Int.reduceLT, Int.reduceNeg, yac, h8, h2, h0, ymo, lw, ha, st]; refine KD.ret r1 ?_
 cases hgo : (ybj d2).1 with
 | true =>
   simp only [k9_a, WKV, Nat.reduceLT, Nat.reduceEqDiff, ↓reduceIte, reduceCtorEq, Nat.reduceAdd, Int.reduceLT, Int.reduceNeg, yac, h0]; refine KD.ret r5 ?_; simp only [k9_a, WKV, Nat.reduceLT, Nat.reduceEqDiff, ↓reduceIte, reduceCtorEq, Nat.reduceAdd, Int.reduceLT, Int.reduceNeg, yac]; refine hR _ 20 ?_ (by rw [if_pos hgo]); rw [if_pos hgo, ← hkp]; exact Next.trans K1 I1 r6
 | false =>
   simp only [k9_a, WKV, Nat.reduceLT, Nat.reduceEqDiff, ↓reduceIte, reduceCtorEq, Nat.reduceAdd, Int.reduceLT, Int.reduceNeg, yac, h0]; refine hR _ 0 ?_ (by rw [if_neg (by rw [hgo]; simp)]); rw [if_neg (by rw [hgo]; simp)]; exact Next.trans K1 I1 ⟨fs1, r2, r3, fun x hx => .inl hx⟩
theorem ygn {σ : St} {r rm : Nat} {d : Dk} {fs : List Ent} {v : V} {n bs : List UInt8} (h : DiskAt σ r d rm fs) (hok : d.Ok) (hw : d.writes < 4611686018427387904) (hb : RB σ v bs) (hbl : bs.length ≤ 1000000000) :
   ∃ q σ', Does Tryz.prog prims 9 [.optr r 0, .str n, v] σ q σ' ∧ (q = .ret (.int .i64 ((yaf n bs d).1 : Nat)) ∧ Next σ r rm fs σ' (yaf n bs d).2) := by
 apply k9_is.does (by simp); have lm : yad Tryz.prog σ.objs 72 (.optr r 0) = some (.omap rm) := (by rw [yab h.hd pGM]; rfl); have lr : yad Tryz.prog σ.objs 3 (.optr r 1) = some (.int .i64 d.room) := (by rw [yab h.hd G3]; rfl); obtain ⟨σd, hσd⟩ : ∃ σd : St, σd = ⟨σ.objs ++ [.dead], σ.toks⟩ := ⟨_, rfl⟩; have Kd : KS (yay r rm fs) σ σd := (by rw [hσd]; exact KS.push _ _ _); have Dd : DiskAt σd r d rm fs := (by rw [hσd]; exact h.pushed .dead); have lr2 : yad Tryz.prog σd.objs 3 (.optr r 1) = some (.int .i64 d.room) := (by rw [yab Dd.hd G3]; rfl); have lm2 : yad Tryz.prog σd.objs 72 (.optr r 0) = some (.omap rm) := (by rw [yab Dd.hd pGM]; rfl); have hsz := yol h hok; rw [← hσd] at hsz
 have hbd : RB σd v bs := by
   rw [hσd]; exact hb.keep ((Keep.refl σ).push _)
 have hszl := yfS hok; have hws : IntKind.i64.wrap (((ydC d.files : Nat) : Int) + (bs.length : Nat)) = ((ydC d.files + bs.length : Nat) : Int) := (by rw [yae (by omega) (by omega)]; omega); have hkt : ∀ σ', Next σd r rm fs σ' (yaf n bs d).2 → Next σ r rm fs σ' (yaf n bs d).2 := fun σ' hN => Next.trans Kd (fun x hx => .inl hx) hN; simp only [k9_a, WKV, Nat.reduceLT, Nat.reduceEqDiff, ↓reduceIte, reduceCtorEq, Nat.reduceAdd, Int.reduceLT, Int.reduceNeg, yac, gD0, gD1]; refine KD.ret (yfq h n) ?_; generalize hC : CC.seq k9_r14 _ = C14; by_cases hr : yaw d n = 0
 · have hr' : ((yaw d n : Nat) : Int) = 0 := by omega
   cases hg : yc7 d.files n with
   | some f =>
     obtain ⟨a, p, b, hA⟩ := h.get_yes hok hg
     have hf : p.1 = f := by have := hA.g; rw [hg] at this; injection this with this; exact this.symm
     obtain ⟨g1, g2, g3⟩ := hA.ids h; have hgt := hok.get hg; have ls : yad Tryz.prog σ.objs 30 (.optr p.2.rf 0) = some p.2.s := (by rw [yab g1.ob pGB]; rfl); have lw : yad Tryz.prog σ.objs 30 (.optr p.2.rf 1) = some p.2.w := (by rw [yab g1.ob pGB]; rfl); have vs : ydn Tryz.prog 30 p.2.s = some (.int .i64 (p.1.safe.length : Nat)) := (by rw [yeC g1.s, List.length_map]); have vw : ydn Tryz.prog 30 p.2.w = some (.int .i64 (p.1.wait.length : Nat)) := (by rw [yeC g1.w, List.length_map]); have hlen : p.1.safe.length + p.1.wait.length ≤ 1048576 := (by rw [hf]; exact hgt.2.2.2); have w1 : IntKind.i64.wrap (1048576 - (p.1.safe.length : Int)) = 1048576 - (p.1.safe.length : Int) := yae (by omega) (by omega); have w2 : IntKind.i64.wrap (1048576 - (p.1.safe.length : Int) - (p.1.wait.length : Int)) = 1048576 - (p.1.safe.length : Int) - (p.1.wait.length : Int) := yae (by omega) (by omega); have hn0 : ¬ yaw d n ≠ 0 := fun h => h hr; by_cases hbig : 1048576 < f.len + bs.length
     · have e : yaf n bs d = (3, d) := (by unfold yaf; rw [if_neg hn0, hg]; simp only [Option.getD_some]; rw [if_pos hbig]); have hbig' : 1048576 - (p.1.safe.length : Int) - (p.1.wait.length : Int) < (bs.length : Nat) := (by rw [hf]; simp only [Fl.len] at hbig; omega); simp only [k9_a, WKV, Nat.reduceLT, Nat.reduceEqDiff, ↓reduceIte, reduceCtorEq, Nat.reduceAdd, Int.reduceLT, Int.reduceNeg, yac, hr', pFA r 0 (by omega), lm, h.look_yes hA, hb.len, ybx pTF, ybe pTF, ynm, ymo, ls, lw, vs, vw, w1, w2, hbig', e]; exact ⟨rfl, Next.refl h⟩
     · have hbig' : ¬ 1048576 - (p.1.safe.length : Int) - (p.1.wait.length : Int) < (bs.length : Nat) := (by rw [hf]; simp only [Fl.len] at hbig; omega); have hb2 : ¬ (1048576 : Int) < (bs.length : Nat) := (by simp only [Fl.len] at hbig; omega); simp only [k9_a, WKV, Nat.reduceLT, Nat.reduceEqDiff, ↓reduceIte, reduceCtorEq, Nat.reduceAdd, Int.reduceLT, Int.reduceNeg, yac, hr', pFA r 0 (by omega), pFA r 1 (by omega), lm, lr, lr2, h.look_yes hA, hb.len, ybx pTF, ybe pTF, ynm, ymo, ls, lw, vs, vw, w1, w2, hbig', hb2, decide_false]; refine KD.ret hsz ?_; by_cases hfull : d.room < ((ydC d.files + bs.length : Nat) : Int)
       · have e : yaf n bs d = (22, d) := by
           unfold yaf; rw [if_neg hn0, hg]; simp only [Option.getD_some]; rw [if_neg hbig, if_pos (.inr hfull)]
         rw [e] at hkt ⊢; simp only [k9_a, WKV, Nat.reduceLT, Nat.reduceEqDiff, ↓reduceIte, reduceCtorEq, Nat.reduceAdd, Int.reduceLT, Int.reduceNeg, yac, hr', pFA r 0 (by omega), pFA r 1 (by omega), lm, lr, lr2, hb.len, hws, hfull, decide_true]; exact ⟨rfl, hkt _ (Next.refl Dd)⟩
       · have e : yaf n bs d = (if (ybj { d with files := ycy ⟨n, f.safe, f.wait ++ bs⟩ d.files }).1 = true then (20, ydG d.keep (ybj { d with files := ycy ⟨n, f.safe, f.wait ++ bs⟩ d.files }).2) else (0, (ybj { d with files := ycy ⟨n, f.safe, f.wait ++ bs⟩ d.files }).2)) := by
           unfold yaf; rw [if_neg hn0, hg]; simp only [Option.getD_some]; rw [if_neg hbig, if_neg (fun h => h.elim (fun h1 => by simp at h1) hfull)]
         simp only [k9_a, WKV, Nat.reduceLT, Nat.reduceEqDiff, ↓reduceIte, reduceCtorEq, Nat.reduceAdd, Int.reduceLT, Int.reduceNeg, yac, hr', pFA r 0 (by omega), pFA r 1 (by omega), lm, lr, lr2, hb.len, hws, hfull, decide_false, ybe pTF]; rw [← hC]; refine ygH Dd hok hA hw hbd (by rw [hf]; omega) (by simp [yaa]) (by simp [yaa]) (by simp [yaa]) _ rfl ?_; intro σ' x hN hx; rw [hf] at hN hx; refine ⟨?_, hkt σ' ?_⟩
         · rw [hx, e]; split <;> rfl
         · rw [e]; split at hN
           · rename_i h9; rw [if_pos h9]; exact hN
           · rename_i h9; rw [if_neg h9]; exact hN
   | none =>
     have hn0 : ¬ yaw d n ≠ 0 := fun h => h hr
     have hlD : ygs Tryz.prog σ.objs 72 (.omap rm) = some (.int .i64 (d.files.length : Nat)) := by
       simp only [ygs, pTM, h.hm, List.length_map]; have := h.pm.length_eq; rw [List.length_map] at this; rw [this]
     have hvl : ydn Tryz.prog 72 (.omap rm) = none := (by simp [ydn, pTM]); by_cases hbig : 1048576 < bs.length
     · have hbig' : (1048576 : Int) < (bs.length : Nat) := (by omega); have e : yaf n bs d = (3, d) := (by unfold yaf; rw [if_neg hn0, hg]; simp only [Option.getD_none]; rw [if_pos (by simp [Fl.len]; omega)]); simp only [k9_a, WKV, Nat.reduceLT, Nat.reduceEqDiff, ↓reduceIte, reduceCtorEq, Nat.reduceAdd, Int.reduceLT, Int.reduceNeg, yac, hr', pFA r 0 (by omega), lm, h.look_no hg, hb.len, yd7 pTF, ycd pTF, yaJ, hbig', decide_true, e]; exact ⟨rfl, Next.refl h⟩
     · have hbig' : ¬ (1048576 : Int) < (bs.length : Nat) := (by omega); have hbig2 : ¬ 1048576 < (⟨n, [], []⟩ : Fl).len + bs.length := (by simp [Fl.len]; omega); simp only [k9_a, WKV, Nat.reduceLT, Nat.reduceEqDiff, ↓reduceIte, reduceCtorEq, Nat.reduceAdd, Int.reduceLT, Int.reduceNeg, yac, hr', pFA r 0 (by omega), lm, h.look_no hg, hb.len, yd7 pTF, ycd pTF, yaJ, hbig', decide_false, hlD, hvl]; by_cases hmany : 16 ≤ d.files.length
       · have hmany' : (16 : Int) ≤ (d.files.length : Nat) := by omega
         have e : yaf n bs d = (22, d) := by
           unfold yaf; rw [if_neg hn0, hg]; simp only [Option.getD_none]; rw [if_neg hbig2, if_pos (.inl ⟨rfl, hmany⟩)]
         simp only [k9_a, WKV, Nat.reduceLT, Nat.reduceEqDiff, ↓reduceIte, reduceCtorEq, Nat.reduceAdd, Int.reduceLT, Int.reduceNeg, yac, hmany', decide_true, e]; exact ⟨rfl, Next.refl h⟩
       · have hmany' : ¬ (16 : Int) ≤ (d.files.length : Nat) := (by omega); simp only [k9_a, WKV, Nat.reduceLT, Nat.reduceEqDiff, ↓reduceIte, reduceCtorEq, Nat.reduceAdd, Int.reduceLT, Int.reduceNeg, yac, hmany', decide_false, pFA r 0 (by omega), pFA r 1 (by omega), lm, lr, lr2, hb.len]; refine KD.ret hsz ?_; by_cases hfull : d.room < ((ydC d.files + bs.length : Nat) : Int)
         · have e : yaf n bs d = (22, d) := by
             unfold yaf; rw [if_neg hn0, hg]; simp only [Option.getD_none]; rw [if_neg hbig2, if_pos (.inr hfull)]
           rw [e] at hkt ⊢; simp only [k9_a, WKV, Nat.reduceLT, Nat.reduceEqDiff, ↓reduceIte, reduceCtorEq, Nat.reduceAdd, Int.reduceLT, Int.reduceNeg, yac, hr', pFA r 0 (by omega), pFA r 1 (by omega), lm, lr, lr2, hb.len, hws, hfull, decide_true]; exact ⟨rfl, hkt _ (Next.refl Dd)⟩
         · obtain ⟨x, hx⟩ : ∃ x : Dk, x = { d with files := ycy ⟨n, [], bs⟩ d.files } := ⟨_, rfl⟩
           have e : yaf n bs d = (if (ybj x).1 = true then (20, ydG d.keep (ybj x).2) else (0, (ybj x).2)) := by
             unfold yaf; rw [if_neg hn0, hg]; simp only [Option.getD_none]; rw [if_neg hbig2, if_neg (fun h => h.elim (fun h1 => hmany h1.2) hfull), hx]; rfl
           obtain ⟨s1, hs1⟩ : ∃ s1 : St, s1 = ⟨σd.objs ++ [.cells [.nils, .nils]], σd.toks⟩ := ⟨_, rfl⟩; obtain ⟨s2, p, d2, hst, hd2, hp1, hp2, D2, K2, A2, L2, I2⟩ := Dd.fresh hok hg (σ2 := s1) hs1; have l1 : yad Tryz.prog s1.objs 72 (.optr r 0) = some (.omap rm) := (by rw [hs1, yab (Dd.pushed _).hd pGM]; rfl); have hbf : ydA Tryz.prog 77 [] = some (.agg [.nils, .nils]) := by kernel_rfl
           have ok2 : d2.Ok := by
             rw [hd2]; exact hok.put (ycI hr).1 (by simp [Fl.len]) fun _ => by omega
           have hb2 : RB s2 v bs := hbd.ks K2 fun q hq cs hc => by
             rw [List.mem_singleton] at hq; subst hq; rw [Dd.hm] at hc
             cases hc
           have K2 : KS (yay r rm fs) σd s2 := K2.mono fun q hq => .inl (by rw [List.mem_singleton] at hq; subst hq; simp [yay]); simp only [k9_a, WKV, Nat.reduceLT, Nat.reduceEqDiff, ↓reduceIte, reduceCtorEq, Nat.reduceAdd, Int.reduceLT, Int.reduceNeg, yac, hr', pFA r 0 (by omega), pFA r 1 (by omega), lm, lr, lr2, hb.len, hws, hfull, decide_false, ycd pTF, hbf, ycn, yah, ← hs1, l1, hst]; rw [← hC]; refine ygH D2 ok2 A2 (by rw [hd2]; exact hw) hb2 (by rw [hp1]; simp [Fl.len]; omega) (by simp [yaa]) (by simp [yaa]) (by simp [yaa, hp2]) x ?_ ?_
           · rw [hx, hd2, hp1]; simp only [List.nil_append]; rw [ynK (x := ⟨n, [], bs⟩) (y := ⟨n, [], []⟩) rfl]
           intro σ' c hN hc; have hkp : d2.keep = d.keep := (by rw [hd2]); rw [hkp] at hN; refine ⟨?_, hkt σ' ?_⟩
           · rw [hc, e]; split <;> rfl
           · rw [e]; split at hN
             · rename_i h9; rw [if_pos h9]; exact Next.trans K2 I2 hN
             · rename_i h9; rw [if_neg h9]; exact Next.trans K2 I2 hN
 · have hr' : ¬ ((yaw d n : Nat) : Int) = 0 := (by omega); have e : yaf n bs d = (yaw d n, d) := (by unfold yaf; rw [if_pos hr]); simp only [k9_a, WKV, Nat.reduceLT, Nat.reduceEqDiff, ↓reduceIte, reduceCtorEq, Nat.reduceAdd, Int.reduceLT, Int.reduceNeg, yac, hr', e]; exact Next.refl h
theorem yl2 {objs : List Ob} {v : V} {q : Option Nat} {cs : List V} (h : yaU objs v = some (q, cs)) : ybu Tryz.prog objs 30 v 1 = some (cs, cs.length) := by
 rcases yaC h with ⟨rfl, rfl, rfl⟩ | ⟨r, full, rfl, rfl, hr, hl, hc⟩
 · simp [ybu, ycP, pTB]
 · have h2 : List.take cs.length full = cs := hc.symm; simp [ybu, ycP, pTB, hr, hl, h2]
theorem Has.facts {σ : St} {r rm : Nat} {d : Dk} {fs a b : List Ent} {p : Ent} {n : List UInt8} (h : DiskAt σ r d rm fs) (hok : d.Ok) (hA : Has d fs a b p n) :
   yad Tryz.prog σ.objs 30 (.optr p.2.rf 0) = some p.2.s ∧ yad Tryz.prog σ.objs 30 (.optr p.2.rf 1) = some p.2.w ∧ ydn Tryz.prog 30 p.2.s = some (.int .i64 (p.1.safe.length : Nat)) ∧ ydn Tryz.prog 30 p.2.w = some (.int .i64 (p.1.wait.length : Nat)) ∧
     p.1.safe.length + p.1.wait.length ≤ 1048576 ∧ ybZ n = true ∧ (p.2.rs.toList ++ p.2.rw.toList).Nodup ∧ p.2.rf ∉ p.2.rs.toList ++ p.2.rw.toList := by
 obtain ⟨g1, g2, g3⟩ := hA.ids h; have hgt := hok.get hA.g; simp only [FO.ids, List.nodup_cons] at g2; exact ⟨by rw [yab g1.ob pGB]; rfl, by rw [yab g1.ob pGB]; rfl, by rw [yeC g1.s, List.length_map], by rw [yeC g1.w, List.length_map], hgt.2.2.2, hgt.2.2.1, g2.2, g2.1⟩
theorem ygj {σ : St} {r rm : Nat} {d : Dk} {fs : List Ent} {n : List UInt8} (h : DiskAt σ r d rm fs) (hok : d.Ok) (hw : d.writes < 4611686018427387904) :
   ∃ q σ', Does Tryz.prog prims 11 [.optr r 0, .str n] σ q σ' ∧ (q = .ret (.int .i64 ((yaO n d).1 : Nat)) ∧ Next σ r rm fs σ' (yaO n d).2) := by
 apply k11_is.does (by simp); simp only [k11_a, WKV, Nat.reduceLT, Nat.reduceEqDiff, ↓reduceIte, reduceCtorEq, Nat.reduceAdd, Int.reduceLT, Int.reduceNeg, yac, gD0, gD1]; by_cases hz : yao d n = 0
 · obtain ⟨a, b, p, hA, hr⟩ := yfT h hok hz; refine KD.ret (ye4 h hr hA) ?_; obtain ⟨σ1, r1, D1, r3, r4, σ2, r5, r6⟩ := yhB h hok hw; obtain ⟨f1, f2, f3, f4, f5⟩ := ybm d; simp only [k11_a, WKV, Nat.reduceLT, Nat.reduceEqDiff, ↓reduceIte, reduceCtorEq, Nat.reduceAdd, Int.reduceLT, Int.reduceNeg, yac]; refine KD.ret r1 ?_; have hz' : ¬ yao d n ≠ 0 := fun h => h hz
   cases hgo : (ybj d).1 with
   | true =>
     have e : yaO n d = (20, ydG d.keep (ybj d).2) := (by unfold yaO; rw [if_neg hz', if_pos hgo]); simp only [k11_a, WKV, Nat.reduceLT, Nat.reduceEqDiff, ↓reduceIte, reduceCtorEq, Nat.reduceAdd, Int.reduceLT, Int.reduceNeg, yac]; refine KD.ret r5 ?_; simp only [k11_a, WKV, Nat.reduceLT, Nat.reduceEqDiff, ↓reduceIte, reduceCtorEq, Nat.reduceAdd, Int.reduceLT, Int.reduceNeg, yac, e]; exact ⟨rfl, r6⟩
   | false =>
     have A1 := hA.files (d2 := (ybj d).2) f1
     have e : yaO n d = (0, { (ybj d).2 with files := ycy ⟨n, p.1.safe ++ p.1.wait, []⟩ d.files }) := by
       unfold yaO; rw [if_neg hz', if_neg (by rw [hgo]; simp), hA.g]; rfl
     obtain ⟨g1, g2, g3⟩ := A1.ids D1; obtain ⟨l1, l2, v1, v2, hl, hn, hnd, hrf⟩ := A1.facts D1 hok.raw; obtain ⟨s', qs, σa, ha, hsa, hka, hqa, h1a⟩ := ymW g1.s (yl2 g1.w) (ycE _) (by simp; omega)
     obtain ⟨N1, hob⟩ := D1.upd hok.raw A1 (f' := ⟨n, p.1.safe ++ p.1.wait, []⟩) (s' := s') (w' := .nils) (qs := qs) (qw := none) (hka.mono fun x hx => .inl (List.mem_append_left _ hx)) (by rw [List.map_append]; exact hsa) rfl (fun x hx => by
       rcases List.mem_append.1 hx with h | h
       · rcases hqa x h with h | h
         · exact .inl (List.mem_append_left _ h)
         · exact .inr h
       · cases h) (by cases qs <;> simp) rfl
     obtain ⟨σb, hσb⟩ : ∃ σb : St, σb = ⟨σa.objs.set p.2.rf (.cells [s', p.2.w]), σa.toks⟩ := ⟨_, rfl⟩; have st1 : yak Tryz.prog σa 30 (.optr p.2.rf 0) s' = some σb := (by rw [yag hob SBB h1a (by simp), hσb]; rfl); have hobb : σb.objs[p.2.rf]? = some (.cells [s', p.2.w]) := by rw [hσb]; exact yaM hob
     have st2 : yak Tryz.prog σb 30 (.optr p.2.rf 1) .nils = some ⟨σa.objs.set p.2.rf (.cells [s', .nils]), σa.toks⟩ := by
       rw [yag hobb SBB rfl (by simp), hσb]; simp [List.set_set]
     simp only [k11_a, WKV, Nat.reduceLT, Nat.reduceEqDiff, ↓reduceIte, reduceCtorEq, Nat.reduceAdd, Int.reduceLT, Int.reduceNeg, yac, ynm, ymo, l1, l2, ha, st1, st2, ybd, e]; rw [f1] at N1; exact ⟨rfl, Next.trans r3 (fun x hx => .inl hx) N1⟩
 · refine KD.ret (yfX h n hz) ?_; have hz' : ¬ ((yao d n : Nat) : Int) = 0 := (by omega); have e : yaO n d = (yao d n, d) := (by unfold yaO; rw [if_pos hz]); simp only [k11_a, WKV, Nat.reduceLT, Nat.reduceEqDiff, ↓reduceIte, reduceCtorEq, Nat.reduceAdd, Int.reduceLT, Int.reduceNeg, yac, hz', e]; exact Next.refl h
theorem ylR {σ : St} {r rm : Nat} {d : Dk} {fs : List Ent} {n : List UInt8} {k : Int} (h : DiskAt σ r d rm fs) (hok : d.Ok) (hw : d.writes < 4611686018427387904) :
   ∃ q σ', Does Tryz.prog prims 90 [.optr r 0, .str n, .int .i64 k] σ q σ' ∧ (q = .ret (.int .i64 ((yaL n k d).1 : Nat)) ∧ Next σ r rm fs σ' (yaL n k d).2) := by
 apply k90_is.does (by simp); simp only [k90_a, WKV, Nat.reduceLT, Nat.reduceEqDiff, ↓reduceIte, reduceCtorEq, Nat.reduceAdd, Int.reduceLT, Int.reduceNeg, yac, gD0, gD1]; by_cases hz : yao d n = 0
 · obtain ⟨a, b, p, hA, hr⟩ := yfT h hok hz; refine KD.ret (ye4 h hr hA) ?_; have hz' : ¬ yao d n ≠ 0 := fun h => h hz; obtain ⟨l1, l2, v1, v2, hl, hn, hnd, hrf⟩ := hA.facts h hok; have hw1 : IntKind.i64.wrap ((p.1.safe.length : Int) + (p.1.wait.length : Int)) = ((p.1.safe.length + p.1.wait.length : Nat) : Int) := (by rw [yae (by omega) (by omega)]; omega); by_cases hneg : k < 0
   · have e : yaL n k d = (3, d) := (by unfold yaL; rw [if_neg hz', hA.g]; simp only [Option.getD_some]; rw [if_pos (.inl hneg)]); simp only [k90_a, WKV, Nat.reduceLT, Nat.reduceEqDiff, ↓reduceIte, reduceCtorEq, Nat.reduceAdd, Int.reduceLT, Int.reduceNeg, yac, hneg, decide_true, e]; exact ⟨rfl, Next.refl h⟩
   · by_cases hbig : ((p.1.safe.length + p.1.wait.length : Nat) : Int) < k
     · have e : yaL n k d = (3, d) := (by unfold yaL; rw [if_neg hz', hA.g]; simp only [Option.getD_some]; rw [if_pos (.inr hbig)]); simp only [k90_a, WKV, Nat.reduceLT, Nat.reduceEqDiff, ↓reduceIte, reduceCtorEq, Nat.reduceAdd, Int.reduceLT, Int.reduceNeg, yac, hneg, decide_false, ynm, ymo, l1, l2, v1, v2, hw1, hbig, decide_true, e]; exact ⟨rfl, Next.refl h⟩
     · obtain ⟨σ1, r1, D1, r3, r4, σ2, r5, r6⟩ := yhB h hok hw; obtain ⟨f1, f2, f3, f4, f5⟩ := ybm d; simp only [k90_a, WKV, Nat.reduceLT, Nat.reduceEqDiff, ↓reduceIte, reduceCtorEq, Nat.reduceAdd, Int.reduceLT, Int.reduceNeg, yac, hneg, decide_false, ynm, ymo, l1, l2, v1, v2, hw1, hbig]; refine KD.ret r1 ?_; have hc : ¬ (k < 0 ∨ ((p.1.len : Nat) : Int) < k) := fun h => h.elim hneg hbig
       cases hgo : (ybj d).1 with
       | true =>
         have e : yaL n k d = (20, ydG d.keep (ybj d).2) := (by unfold yaL; rw [if_neg hz', hA.g]; simp only [Option.getD_some]; rw [if_neg hc, if_pos hgo]); simp only [k90_a, WKV, Nat.reduceLT, Nat.reduceEqDiff, ↓reduceIte, reduceCtorEq, Nat.reduceAdd, Int.reduceLT, Int.reduceNeg, yac]; refine KD.ret r5 ?_; simp only [k90_a, WKV, Nat.reduceLT, Nat.reduceEqDiff, ↓reduceIte, reduceCtorEq, Nat.reduceAdd, Int.reduceLT, Int.reduceNeg, yac, e]; exact ⟨rfl, r6⟩
       | false =>
         have A1 := hA.files (d2 := (ybj d).2) f1
         have e : yaL n k d = (0, { (ybj d).2 with files := ycy ⟨n, p.1.safe.take k.toNat, p.1.wait.take (k.toNat - p.1.safe.length)⟩ d.files }) := by
           unfold yaL; rw [if_neg hz', hA.g]; simp only [Option.getD_some]; rw [if_neg hc, if_neg (by rw [hgo]; simp)]
         obtain ⟨g1, g2, g3⟩ := A1.ids D1; obtain ⟨l1, l2, v1, v2, hl, hn, hnd, hrf⟩ := A1.facts D1 hok.raw; have hws : IntKind.i64.wrap (k - (p.1.safe.length : Int)) = k - (p.1.safe.length : Int) := yae (by omega) (by omega)
         have hmx : vmm true (.int .i64 0) (.int .i64 (k - (p.1.safe.length : Int))) = some (.int .i64 ((k.toNat - p.1.safe.length : Nat) : Int)) := by
           simp only [vmm, ↓reduceIte]
           congr 2
           split <;> omega
         have hmn : vmm false (.int .i64 k) (.int .i64 (p.1.safe.length : Nat)) = some (.int .i64 ((min k.toNat p.1.safe.length : Nat) : Int)) := by
           simp only [vmm, Bool.false_eq_true, ↓reduceIte]
           congr 2
           split <;> omega
         obtain ⟨w', hw', hrw⟩ := yg5 g1.w (n := k.toNat - p.1.safe.length) (by rw [List.length_map]; omega); obtain ⟨s', hs', hrs⟩ := yg5 g1.s (n := min k.toNat p.1.safe.length) (by rw [List.length_map]; omega); rw [yfa] at hrw hrs
         have hts : p.1.safe.take (min k.toNat p.1.safe.length) = p.1.safe.take k.toNat := by
           rw [← List.take_take, List.take_of_length_le (Nat.le_refl _)]
         rw [hts] at hrs; obtain ⟨N1, hob⟩ := D1.upd hok.raw A1 (σa := σ1) (f' := ⟨n, p.1.safe.take k.toNat, p.1.wait.take (k.toNat - p.1.safe.length)⟩) (s' := s') (w' := w') (qs := p.2.rs) (qw := p.2.rw) (KS.refl _ _) hrs hrw (fun x hx => .inl hx) hnd rfl; obtain ⟨σb, hσb⟩ : ∃ σb : St, σb = ⟨σ1.objs.set p.2.rf (.cells [p.2.s, w']), σ1.toks⟩ := ⟨_, rfl⟩; have st1 : yak Tryz.prog σ1 30 (.optr p.2.rf 1) w' = some σb := (by rw [yag hob SBB (yeS hrw) (by simp), hσb]; rfl); have hobb : σb.objs[p.2.rf]? = some (.cells [p.2.s, w']) := by rw [hσb]; exact yaM hob
         have st2 : yak Tryz.prog σb 30 (.optr p.2.rf 0) s' = some ⟨σ1.objs.set p.2.rf (.cells [s', w']), σ1.toks⟩ := by
           rw [yag hobb SBB (yeS hrs) (by simp), hσb]; simp [List.set_set]
         have l3 : yad Tryz.prog σb.objs 30 (.optr p.2.rf 0) = some p.2.s := (by rw [yab hobb pGB]; rfl); simp only [k90_a, WKV, Nat.reduceLT, Nat.reduceEqDiff, ↓reduceIte, reduceCtorEq, Nat.reduceAdd, Int.reduceLT, Int.reduceNeg, yac, ynm, ymo, l1, l2, v1, v2, hws, hmx, hw', st1, l3, hmn, hs', st2, pTB, e]; rw [f1] at N1; exact ⟨rfl, Next.trans r3 (fun x hx => .inl hx) N1⟩
 · refine KD.ret (yfX h n hz) ?_; have hz' : ¬ ((yao d n : Nat) : Int) = 0 := (by omega); have e : yaL n k d = (yao d n, d) := (by unfold yaL; rw [if_pos hz]); simp only [k90_a, WKV, Nat.reduceLT, Nat.reduceEqDiff, ↓reduceIte, reduceCtorEq, Nat.reduceAdd, Int.reduceLT, Int.reduceNeg, yac, hz', decide_false, e]; exact Next.refl h
theorem DiskAt.gone {σ : St} {r rm : Nat} {d : Dk} {fs a b : List Ent} {p : Ent} {n : List UInt8} (h : DiskAt σ r d rm fs) (hok : d.Ok) (hA : Has d fs a b p n) :
   ∃ σ', ygx Tryz.prog σ 72 (.omap rm) (.str n) = some σ' ∧ DiskAt σ' r { d with files := ydU n d.files } rm (a ++ b) ∧ KS [rm] σ σ' ∧ FAt σ'.objs p ∧ p.2.ids.Nodup ∧ (∀ x ∈ p.2.ids, x ∈ yay r rm fs ∧ x ∉ yay r rm (a ++ b)) ∧ ∀ x ∈ yay r rm (a ++ b), x ∈ yay r rm fs := by
 have hlt := h.lt; have hN := h.nd; obtain ⟨g1, g2, g3⟩ := hA.ids h; have hfs := hA.e; subst hfs; have hpm := h.pm; unfold yay at hN; rw [List.nodup_cons, List.nodup_cons, ycJ] at hN; obtain ⟨n1, n2, n3⟩ := hN; have hml := hlt rm (by simp [yay]); have hv := ykM (a := a) (b := b) (p := p) (by rw [hA.nm]; exact hA.a) 0; rw [hA.nm] at hv; have hne : ∀ x, x ∈ (a ++ p :: b).flatMap (fun p => p.2.ids) → rm ≠ x := fun x hx e => n2 (by rw [ycJ] at hx; rw [e]; exact hx)
 have hkeep : ∀ q ∈ a ++ p :: b, FAt (σ.objs.set rm (.mp ((a ++ b).map yfM))) q := fun q hq => (h.hf q hq).frame fun x hx o ho => by
   rw [gA3 (hne x (List.mem_flatMap.2 ⟨q, hq, hx⟩))]; exact ho
 have hids : ∀ x ∈ yay r rm (a ++ b), x ∈ yay r rm (a ++ p :: b) := by
   intro x hx; simp only [yay, List.mem_cons, List.flatMap_append, List.flatMap_cons, List.mem_append] at hx ⊢; rcases hx with h | h | h | h
   · exact .inl h
   · exact .inr (.inl h)
   · exact .inr (.inr (.inl h))
   · exact .inr (.inr (.inr (.inr h)))
 have hsub : ((a ++ b).flatMap fun p => p.2.ids).Sublist ((a ++ p :: b).flatMap fun p => p.2.ids) := by
   rw [ycJ, List.flatMap_append]; exact (List.Sublist.refl _).append (List.sublist_append_right ..)
 refine ⟨⟨σ.objs.set rm (.mp ((a ++ b).map yfM)), σ.toks⟩, ?_, ⟨?_, ?_, fun q hq => hkeep q ?_, ?_, ?_⟩, KS.set (.inl (by simp)) _, hkeep p (by simp), g2, fun x hx => ⟨?_, fun hx2 => ?_⟩, hids⟩
 · simp only [ygx, pTM, h.hm, keyD, hv]
   congr 3
   rw [List.map_append, List.map_cons, Nat.zero_add, ← List.length_map (f := yfM), List.eraseIdx_append_of_length_le (Nat.le_refl _), Nat.sub_self, List.map_append]; rfl
 · simp only; rw [gA3 (fun e => n1 (by rw [e]; exact List.mem_cons_self ..))]; exact h.hd
 · simp only; rw [gA5 hml]
 · rcases List.mem_append.1 hq with h | h <;> simp [h]
 · have := h.nd; unfold yay at this ⊢; exact (List.Sublist.cons_cons _ (List.Sublist.cons_cons _ hsub)).nodup this
 · simp only [List.map_append, List.map_cons] at hpm ⊢
   have e : (a.map (·.1) ++ b.map (·.1)) = ydU n (a.map (·.1) ++ p.1 :: b.map (·.1)) := by
     unfold ydU; rw [List.filter_append, List.filter_cons]; simp only [hA.nm, ne_eq, not_true_eq_false, decide_false, Bool.false_eq_true, ↓reduceIte]; rw [List.filter_eq_self.2, List.filter_eq_self.2]
     · intro f hf; obtain ⟨q, hq, rfl⟩ := List.mem_map.1 hf; simp [hA.b q hq]
     · intro f hf; obtain ⟨q, hq, rfl⟩ := List.mem_map.1 hf; simp [hA.a q hq]
   rw [e]; exact hpm.filter _
 · simp only [yay, List.mem_cons, List.mem_flatMap]; exact .inr (.inr ⟨p, by simp, hx⟩)
 · simp only [yay, List.mem_cons, List.flatMap_append, List.mem_append] at hx2; rw [List.nodup_append, List.nodup_append] at n3; rcases hx2 with h | h | h | h
   · subst h; exact n1 (List.mem_cons_of_mem _ (by simp [hx]))
   · subst h; exact n2 (by simp [hx])
   · exact n3.2.2 x h x (List.mem_append_left _ hx) rfl
   · exact n3.2.1.2.2 x hx x h rfl
theorem yf8 {σ : St} {r rm : Nat} {d : Dk} {fs : List Ent} {n : List UInt8} (h : DiskAt σ r d rm fs) (hok : d.Ok) (hw : d.writes < 4611686018427387904) :
   ∃ q σ', Does Tryz.prog prims 50 [.optr r 0, .str n] σ q σ' ∧ (q = .ret (.int .i64 ((yaj n d).1 : Nat)) ∧ Next σ r rm fs σ' (yaj n d).2) := by
 apply k50_is.does (by simp); simp only [k50_a, WKV, Nat.reduceLT, Nat.reduceEqDiff, ↓reduceIte, reduceCtorEq, Nat.reduceAdd, Int.reduceLT, Int.reduceNeg, yac, gD0, gD1]; by_cases hz : yao d n = 0
 · obtain ⟨a, b, p, hA, hr⟩ := yfT h hok hz; refine KD.ret (ye4 h hr hA) ?_; obtain ⟨σ1, r1, D1, r3, r4, σ2, r5, r6⟩ := yhB h hok hw; obtain ⟨f1, f2, f3, f4, f5⟩ := ybm d; simp only [k50_a, WKV, Nat.reduceLT, Nat.reduceEqDiff, ↓reduceIte, reduceCtorEq, Nat.reduceAdd, Int.reduceLT, Int.reduceNeg, yac]; refine KD.ret r1 ?_; have hz' : ¬ yao d n ≠ 0 := fun h => h hz
   cases hgo : (ybj d).1 with
   | true =>
     have e : yaj n d = (20, ydG d.keep (ybj d).2) := (by unfold yaj; rw [if_neg hz', if_pos hgo]); simp only [k50_a, WKV, Nat.reduceLT, Nat.reduceEqDiff, ↓reduceIte, reduceCtorEq, Nat.reduceAdd, Int.reduceLT, Int.reduceNeg, yac]; refine KD.ret r5 ?_; simp only [k50_a, WKV, Nat.reduceLT, Nat.reduceEqDiff, ↓reduceIte, reduceCtorEq, Nat.reduceAdd, Int.reduceLT, Int.reduceNeg, yac, e]; exact ⟨rfl, r6⟩
   | false =>
     have A1 := hA.files (d2 := (ybj d).2) f1
     have e : yaj n d = (0, { (ybj d).2 with files := ydU n d.files }) := by
       unfold yaj; rw [if_neg hz', if_neg (by rw [hgo]; simp)]
     have lm : yad Tryz.prog σ1.objs 72 (.optr r 0) = some (.omap rm) := (by rw [yab D1.hd pGM]; rfl); obtain ⟨σb, hdl, N1, K1, _, _, _, I1⟩ := D1.gone hok.raw A1; simp only [k50_a, WKV, Nat.reduceLT, Nat.reduceEqDiff, ↓reduceIte, reduceCtorEq, Nat.reduceAdd, Int.reduceLT, Int.reduceNeg, yac, pFA r 0 (by omega), lm, hdl, e]; rw [f1] at N1; exact ⟨rfl, Next.trans r3 (fun x hx => .inl hx) ⟨_, N1, K1.mono fun x hx => .inl (by rw [List.mem_singleton] at hx; subst hx; simp [yay]), fun x hx => .inl (I1 x hx)⟩⟩
 · refine KD.ret (yfX h n hz) ?_; have hz' : ¬ ((yao d n : Nat) : Int) = 0 := (by omega); have e : yaj n d = (yao d n, d) := (by unfold yaj; rw [if_pos hz]); simp only [k50_a, WKV, Nat.reduceLT, Nat.reduceEqDiff, ↓reduceIte, reduceCtorEq, Nat.reduceAdd, Int.reduceLT, Int.reduceNeg, yac, hz', e]; exact Next.refl h
theorem TBB : Tryz.prog.underlying 60 = some (.slice 30) := by kernel_rfl
theorem ymB {σ : St} {n : Nat} (hn : n ≤ 1000000000) : ∃ v q σ', Does Tryz.prog prims 95 [.nils, .int .i64 (n : Int)] σ (.ret v) σ' ∧ yaU σ'.objs v = some (q, []) ∧ KS [] σ σ' ∧ ∀ x ∈ q.toList, σ.objs.length ≤ x := by
 have key : ∃ r σ', Does Tryz.prog prims 95 [.nils, .int .i64 (n : Int)] σ r σ' ∧ ∃ v q, r = .ret v ∧ yaU σ'.objs v = some (q, []) ∧ KS [] σ σ' ∧ ∀ x ∈ q.toList, σ.objs.length ≤ x := by
   apply k95_is.does (by simp); have h0 : ¬ (n : Int) < 0 := (by omega); have hvc : vcap Tryz.prog 30 .nils = some (.int .i64 0) := (by kernel_rfl); have hvl : ydn Tryz.prog 30 .nils = some (.int .i64 0) := (by kernel_rfl); have hw0 : IntKind.i64.wrap ((0 : Int) - 0) = 0 := (by decide); have hwn : IntKind.i64.wrap ((n : Int) - 0) = n := (by rw [yae (by omega) (by omega)]; omega); have hsl : yck Tryz.prog 30 .nils none (some (.int .i64 0)) none = some .nils := (by kernel_rfl); by_cases hz : n = 0
   · have h1 : ¬ (0 : Int) < (n : Int) := (by omega); simp only [k95_a, WKV, Nat.reduceLT, Nat.reduceEqDiff, ↓reduceIte, reduceCtorEq, Nat.reduceAdd, Int.reduceLT, Int.reduceNeg, yac, gD0, gD1, h0, hvc, hvl, hw0, hwn, ybd, h1, decide_false]; exact ⟨.nils, none, rfl, rfl, KS.refl _ _, fun x hx => by cases hx⟩
   · have h1 : (0 : Int) < (n : Int) := by omega
     have hno : yaK Tryz.prog σ 30 3 .nils (.int .i64 (n : Int)) = none := by
       simp [yaK, pTB, bInfo, pS1, bZero, ybu, ycP, T3]
     have hmk : ycD Tryz.prog σ 30 3 .nils (.int .i64 (n : Int)) = some (.hslice σ.objs.length 0 1 n, ⟨σ.objs ++ [.cells []], σ.toks⟩) := by
       have : 0 < n := (by omega); have h9 : n ≤ 140737488355328 := (by omega); simp [ycD, pTB, bInfo, pS1, bZero, T3, yah, this, h9]
     have hb := yc0 (k := .i64) (n := 0) (len := n) (by omega) (by omega)
     have hs2 : yck Tryz.prog 30 (.hslice σ.objs.length 0 1 n) none (some (.int .i64 0)) none = some (.hslice σ.objs.length 0 1 0) := by
       simp only [yck, pTB, pS1, hb]; simp
     simp only [k95_a, WKV, Nat.reduceLT, Nat.reduceEqDiff, ↓reduceIte, reduceCtorEq, Nat.reduceAdd, Int.reduceLT, Int.reduceNeg, yac, gD0, gD1, h0, hvc, hvl, hw0, hwn, ybd, h1, decide_true, hsl, pTB, hno, hmk, hs2]; refine ⟨_, some σ.objs.length, rfl, ?_, KS.push _ _ _, fun x hx => by simp at hx; omega⟩; simp [yaU]
 obtain ⟨r, σ', h1, v, q, rfl, h2⟩ := key; exact ⟨v, q, σ', h1, h2⟩
theorem yjS {σ : St} {pm : Perm} {vs : List V} {bss : List (List UInt8)} (hl : vs.length = bss.length) (hb : ∀ (i : Nat) (h : i < vs.length) (h' : i < bss.length), RB σ vs[i] bss[i]) (hlen : bss.flatten.length ≤ 1000000000) (hcl : bss.length ≤ 1000000000) :
   ∃ v q σ', Does Tryz.prog prims 81 [.slice pm 1 vs vs.length] σ (.ret v) σ' ∧ yaU σ'.objs v = some (q, bss.flatten.map yal) ∧ KS [] σ σ' ∧ ∀ x ∈ q.toList, σ.objs.length ≤ x := by
 have key : ∃ r σ', Does Tryz.prog prims 81 [.slice pm 1 vs vs.length] σ r σ' ∧ ∃ v q, r = .ret v ∧ yaU σ'.objs v = some (q, bss.flatten.map yal) ∧ KS [] σ σ' ∧ ∀ x ∈ q.toList, σ.objs.length ≤ x := by
   apply k81_is.does (by simp); have hvl : ydn Tryz.prog 60 (.slice pm 1 vs vs.length) = some (.int .i64 (vs.length : Nat)) := by simp [ydn, TBB]
   have haddr : ∀ i : Nat, i < vs.length → yai Tryz.prog 60 (.slice pm 1 vs vs.length) (.int .i64 (i : Int)) = some (.eptr vs i) := by
     intro i hi
     have h1 : vs.isEmpty = false := by cases vs with | nil => simp at hi | cons => rfl
     have h2 : (i : Int) < vs.length := (by omega); simp [yai, TBB, SBB, h1, h2]
   have hload : ∀ (s : St) (i : Nat) (hi : i < vs.length), yad Tryz.prog s.objs 30 (.eptr vs i) = some vs[i] := by
     intro s i hi; simp [yad, ya1, ycp, pGB, hi]
   have hsum : ∀ i, i ≤ bss.length → (bss.take i).flatten.length ≤ bss.flatten.length := by
     intro i hi; have := congrArg List.length (congrArg List.flatten (List.take_append_drop i bss)); rw [List.flatten_append, List.length_append] at this; omega
   have hstep : ∀ i (h : i < bss.length), (bss.take (i + 1)).flatten = (bss.take i).flatten ++ bss[i] := by
     intro i h; rw [List.take_succ_eq_append_getElem h, List.flatten_append]; simp
   simp only [k81_a, WKV, Nat.reduceLT, Nat.reduceEqDiff, ↓reduceIte, reduceCtorEq, Nat.reduceAdd, Int.reduceLT, Int.reduceNeg, yac, gD0, gD1, hvl, ybd]; refine Ev.loopF (fun (i : Nat) e σ' => σ' = σ ∧ e 11 = .int .i64 (i : Nat) ∧ i ≤ vs.length ∧ e 3 = .int .i64 ((bss.take i).flatten.length : Nat)) (fun i => vs.length - i) 0 ⟨rfl, by simp [yaa], Nat.zero_le _, by simp [yaa]⟩ ?_; rintro i e σ' ⟨rfl, h11, hi, h3⟩ hf; have h0 : e 0 = .slice pm 1 vs vs.length := (hf 0 (by decide)).trans (by simp [yaa]); have h9 : e 9 = .slice pm 1 vs vs.length := (hf 9 (by decide)).trans (by simp [yaa]); have h10 : e 10 = .int .i64 (vs.length : Nat) := (hf 10 (by decide)).trans (by simp [yaa]); clear hf; by_cases hlt : i < vs.length
   · have hlt' : (i : Int) < vs.length := (by omega); have hlb : i < bss.length := (by omega); have hwi : IntKind.i64.wrap ((i : Int) + 1) = ((i + 1 : Nat) : Int) := (by rw [show ((i : Int) + 1) = ((i + 1 : Nat) : Int) from by omega]; exact ya8 (by omega)); have hle := hsum (i + 1) (by omega); have hst := hstep i hlb
     have hws : IntKind.i64.wrap (((bss.take i).flatten.length : Nat) + (bss[i].length : Nat) : Int) = (((bss.take (i + 1)).flatten.length : Nat) : Int) := by
       rw [hst, List.length_append] at hle ⊢; rw [yae (by omega) (by omega)]; omega
     have hn0 : ¬ (((bss.take (i + 1)).flatten.length : Nat) : Int) < 0 := (by omega); simp only [k81_a, WKV, Nat.reduceLT, Nat.reduceEqDiff, ↓reduceIte, reduceCtorEq, Nat.reduceAdd, Int.reduceLT, Int.reduceNeg, yac, h9, h10, h11, h3, hlt', haddr i hlt, hload _ i hlt, (hb i hlt hlb).len, hws, hn0, hwi, decide_true, decide_false]; exact ⟨i + 1, ⟨by simp [yaa], by omega, by simp [yaa]⟩, by omega⟩
   · have hlt' : ¬ (i : Int) < vs.length := (by omega); have hall : bss.take i = bss := List.take_of_length_le (by omega); rw [hall] at h3; obtain ⟨v1, q1, s1, g1, g2, g3, g4⟩ := ymB (σ := σ') hlen; simp only [k81_a, WKV, Nat.reduceLT, Nat.reduceEqDiff, ↓reduceIte, reduceCtorEq, Nat.reduceAdd, Int.reduceLT, Int.reduceNeg, yac, h9, h10, h11, h3, hlt', decide_false, ybd]; refine KD.ret g1 ?_; simp only [k81_a, WKV, Nat.reduceLT, Nat.reduceEqDiff, ↓reduceIte, reduceCtorEq, Nat.reduceAdd, Int.reduceLT, Int.reduceNeg, yac, h0, hvl]; refine Ev.loopF (fun (j : Nat) e s => ∃ q, e 27 = .int .i64 (j : Nat) ∧ j ≤ vs.length ∧ yaU s.objs (e 6) = some (q, (bss.take j).flatten.map yal) ∧ KS [] σ' s ∧ ∀ x ∈ q.toList, σ'.objs.length ≤ x) (fun i => vs.length - i) 0 ⟨q1, by simp [yaa], Nat.zero_le _, by simpa [yaa] using g2, g3, g4⟩ ?_; rintro j e2 s ⟨q, k27, hj, k6, kk, kq⟩ hf2; have k25 : e2 25 = .slice pm 1 vs vs.length := (hf2 25 (by decide)).trans (by simp [yaa]); have k26 : e2 26 = .int .i64 (vs.length : Nat) := (hf2 26 (by decide)).trans (by simp [yaa]); clear hf2; by_cases hlt2 : j < vs.length
     · have hlt2' : (j : Int) < vs.length := (by omega); have hlb : j < bss.length := (by omega); have hwi : IntKind.i64.wrap ((j : Int) + 1) = ((j + 1 : Nat) : Int) := (by rw [show ((j : Int) + 1) = ((j + 1 : Nat) : Int) from by omega]; exact ya8 (by omega)); have hR := (hb j hlt2 hlb).ks kk (fun q hq => by cases hq); have hle := hsum (j + 1) (by omega); rw [hstep j hlb, List.length_append] at hle; have hbn := hR.news; rw [← List.length_map (f := yal)] at hbn; obtain ⟨v', q', s2, a1, a2, a3, a4, a5⟩ := ymW k6 hbn (ycE _) (by rw [List.length_map, List.length_map]; omega); simp only [k81_a, WKV, Nat.reduceLT, Nat.reduceEqDiff, ↓reduceIte, reduceCtorEq, Nat.reduceAdd, Int.reduceLT, Int.reduceNeg, yac, k25, k26, k27, hlt2', haddr j hlt2, hload _ j hlt2, hwi, a1, decide_true]; refine ⟨j + 1, ⟨q', by simp [yaa], by omega, ?_, kk.trans a3 fun x hx => .inr (kq x hx), fun x hx => ?_⟩, by omega⟩
       · rw [hstep j hlb, List.map_append]; simpa [yaa] using a2
       · rcases a4 x hx with h | h
         · exact kq x h
         · have := kk.le; omega
     · have hlt2' : ¬ (j : Int) < vs.length := (by omega); have hall2 : bss.take j = bss := List.take_of_length_le (by omega); rw [hall2] at k6; simp only [k81_a, WKV, Nat.reduceLT, Nat.reduceEqDiff, ↓reduceIte, reduceCtorEq, Nat.reduceAdd, Int.reduceLT, Int.reduceNeg, yac, k25, k26, k27, hlt2', decide_false]; exact ⟨_, q, rfl, k6, kk, kq⟩
 obtain ⟨r, σ', h1, v, q, rfl, h2⟩ := key; exact ⟨v, q, σ', h1, h2⟩
theorem yqu (a b : V) (h1 : one a = true) (h2 : one b = true) : yas Tryz.prog 60 2 [(0, a), (1, b)] = some (.slice .exact 1 [a, b] 2) := by
 have hz : ybl Tryz.prog 30 = some .nils := (by kernel_rfl); have e : List.range 2 = [0, 1] := (by decide); have hn : yah V.nils = [V.nils] := rfl; simp [yas, TBB, SBB, hz, hn, yau, yc8, ybq, e, yc2 h1, yc2 h2, h1, h2]
theorem yil {σ : St} {r rm : Nat} {d : Dk} {fs : List Ent} {n : List UInt8} (h : DiskAt σ r d rm fs) (hok : d.Ok) :
   ∃ p σ', Does Tryz.prog prims 49 [.optr r 0, .str n] σ p σ' ∧ ∃ v q, p = .ret (.tuple [v, .int .i64 ((yav n d).1 : Nat)]) ∧ yaU σ'.objs v = some (q, (yav n d).2.map yal) ∧ KS [] σ σ' ∧ ∀ x ∈ q.toList, σ.objs.length ≤ x := by
 apply k49_is.does (by simp); simp only [k49_a, WKV, Nat.reduceLT, Nat.reduceEqDiff, ↓reduceIte, reduceCtorEq, Nat.reduceAdd, Int.reduceLT, Int.reduceNeg, yac, gD0, gD1, ybd]; by_cases hz : yao d n = 0
 · obtain ⟨a, b, p, hA, hr⟩ := yfT h hok hz; have hz' : ¬ yao d n ≠ 0 := fun h => h hz; have e : yav n d = (0, p.1.safe ++ p.1.wait) := (by unfold yav; rw [if_neg hz', hA.g]; rfl); obtain ⟨g1, g2, g3⟩ := hA.ids h; obtain ⟨l1, l2, v1, v2, hl, hn, hnd, hrf⟩ := hA.facts h hok
   obtain ⟨v, q, σ', c1, c2, c3, c4⟩ := yjS (σ := σ) (pm := .exact) (vs := [p.2.s, p.2.w]) (bss := [p.1.safe, p.1.wait]) rfl (fun i h h' => by
     match i, h with
     | 0, _ => exact yhR g1.s
     | 1, _ => exact yhR g1.w) (by simp; omega) (by simp)
   refine KD.ret (ye4 h hr hA) ?_; simp only [k49_a, WKV, Nat.reduceLT, Nat.reduceEqDiff, ↓reduceIte, reduceCtorEq, Nat.reduceAdd, Int.reduceLT, Int.reduceNeg, yac, ynm, ymo, l1, l2, yqu p.2.s p.2.w (yeS g1.s) (yeS g1.w), ybd]; refine KD.ret c1 ?_; simp only [k49_a, WKV, Nat.reduceLT, Nat.reduceEqDiff, ↓reduceIte, reduceCtorEq, Nat.reduceAdd, Int.reduceLT, Int.reduceNeg, yac, ynm, ymo, l1, l2, e]; refine ⟨v, q, rfl, ?_, c3, c4⟩; simpa using c2
 · refine KD.ret (yfX h n hz) ?_; have hz' : ¬ ((yao d n : Nat) : Int) = 0 := (by omega); have e : yav n d = (yao d n, []) := (by unfold yav; rw [if_pos hz]); simp only [k49_a, WKV, Nat.reduceLT, Nat.reduceEqDiff, ↓reduceIte, reduceCtorEq, Nat.reduceAdd, Int.reduceLT, Int.reduceNeg, yac, hz', e, ybd]; exact ⟨.nils, none, rfl, rfl, KS.refl _ _, fun x hx => by cases hx⟩
theorem yod {σ : St} {rm : Nat} : ∃ t, Does Tryz.prog prims 78 [.omap rm] σ (.ret (.func 93 [.optr σ.objs.length 0])) ⟨σ.objs ++ [.tcells t [.omap rm]], σ.toks⟩ := by
 have key : ∃ r σ', Does Tryz.prog prims 78 [.omap rm] σ r σ' ∧ (r = .ret (.func 93 [.optr σ.objs.length 0]) ∧ ∃ t, σ' = ⟨σ.objs ++ [.tcells t [.omap rm]], σ.toks⟩) := by
   apply k78_is.does (by simp); have hn : ycl .nilFunc = some .nilf := (by kernel_rfl); have hc : yah (.omap rm) = [.omap rm] := rfl; simp only [k78_a, WKV, Nat.reduceLT, Nat.reduceEqDiff, ↓reduceIte, reduceCtorEq, Nat.reduceAdd, Int.reduceLT, Int.reduceNeg, yac, gD0, gD1, hn, yji, hc]; exact ⟨_, rfl⟩
 obtain ⟨r, σ', h, rfl, t, rfl⟩ := key; exact ⟨t, h⟩
theorem yiF {fs : List Ent} : ygM (fs.map yfM) = some (fs.map fun p => p.1.name) := by
 induction fs with
 | nil => rfl
 | cons p fs ih => simp only [List.map_cons, yfM, ygM] at ih ⊢; rw [ih]; rfl
theorem yop (a b c : List UInt8) : leS a b = true → leS b c = true → leS a c = true := by
 simp only [leS, decide_eq_true_eq]; exact List.le_trans
theorem ynL (a b : List UInt8) : (leS a b || leS b a) = true := by
 simp only [leS, Bool.or_eq_true, decide_eq_true_eq]; exact List.le_total a b
theorem ymk {d : Dk} (hok : d.Ok) {ks : List (List UInt8)} (h : ks.Perm (d.files.map Fl.name)) : ks.mergeSort leS = d.files.map Fl.name := by
 have h1 : (d.files.map Fl.name).Pairwise fun a b => a ≤ b := by
   rw [List.pairwise_map]; exact hok.rise.imp fun {f g} hlt => List.le_of_lt hlt
 have h2 := (List.mergeSort_perm ks leS).trans h; have h3 : (ks.mergeSort leS).Pairwise fun a b => a ≤ b := (List.pairwise_mergeSort yop ynL ks).imp fun {a b} hab => by simpa [leS] using hab
 exact h2.eq_of_pairwise (le := fun a b => a ≤ b) (fun a b _ _ hab hba => List.le_antisymm hab hba) h3 h1
theorem yff {σ : St} {r rm : Nat} {d : Dk} {fs : List Ent} (h : DiskAt σ r d rm fs) (hok : d.Ok) :
   ∃ p σ', Does Tryz.prog prims 36 [.optr r 0] σ p σ' ∧ ∃ v q, p = .ret v ∧ yaU σ'.objs v = some (q, (yaS d).map V.str) ∧ KS [] σ σ' ∧ ∀ x ∈ q.toList, σ.objs.length ≤ x := by
 apply k36_is.does (by simp); have lo : yad Tryz.prog σ.objs 4 (.optr r 2) = some (.bool (!d.on)) := (by rw [yab h.hd G4]; rfl); have lm : yad Tryz.prog σ.objs 72 (.optr r 0) = some (.omap rm) := by rw [yab h.hd pGM]; rfl
 cases hon : d.on with
 | false =>
   rw [hon] at lo; have e : yaS d = [] := (by simp [yaS, hon]); simp only [k36_a, WKV, Nat.reduceLT, Nat.reduceEqDiff, ↓reduceIte, reduceCtorEq, Nat.reduceAdd, Int.reduceLT, Int.reduceNeg, yac, gD0, gD1, ybd, yaJ, ybe pTD, pFA r 2 (by omega), lo, Bool.not_false, e]; exact ⟨.nils, none, rfl, rfl, KS.refl _ _, fun x hx => by cases hx⟩
 | true =>
   rw [hon] at lo; have e : yaS d = d.files.map Fl.name := (by simp [yaS, hon]); obtain ⟨t, hk⟩ := yod (σ := σ) (rm := rm); obtain ⟨s1, hs1⟩ : ∃ s1 : St, s1 = ⟨σ.objs ++ [.tcells t [.omap rm]], σ.toks⟩ := ⟨_, rfl⟩; rw [← hs1] at hk; have K1 : KS [] σ s1 := (by rw [hs1]; exact KS.push _ _ _); have D1 : DiskAt s1 r d rm fs := (by rw [hs1]; exact h.pushed _); have L1 : s1.objs.length = σ.objs.length + 1 := (by rw [hs1]; simp); have hb : s1.objs[σ.objs.length]? = some (.tcells t [.omap rm]) := by rw [hs1]; exact yap _ _
   have hperm : (fs.map fun p => p.1.name).Perm (d.files.map Fl.name) := by
     have := h.pm.map Fl.name; rw [List.map_map] at this; exact this
   have hsort := ymk hok hperm; have hnd := h.names hok; have hlen : (fs.map fun p => p.1.name).length ≤ 16 := by rw [hperm.length_eq, List.length_map]; exact hok.few
   have hsm : ((fs.map fun p => p.1.name).all fun s => decide (s.length ≤ 140737488355328)) = true := by
     rw [List.all_eq_true]; intro s hs; obtain ⟨f, hf, rfl⟩ := List.mem_map.1 (hperm.mem_iff.1 hs); have := hok.nm f hf; simp only [ybZ, decide_eq_true_eq] at this ⊢; omega
   have hp : ∃ v s2 q, Does Tryz.prog prims 77 [.func 93 [.optr σ.objs.length 0]] s1 (.ret v) s2 ∧ yaU s2.objs v = some (q, (yaS d).map V.str) ∧ KS [] s1 s2 ∧ ∀ x ∈ q.toList, s1.objs.length ≤ x := by
     by_cases h0 : (fs.map fun p => p.1.name) = []
     · refine ⟨.nils, s1, none, Does.prim (by kernel_rfl) ?_, ?_, KS.refl _ _, fun x hx => by cases hx⟩
       · simp only [prims]; rw [if_neg (by decide +kernel), if_neg (by decide +kernel), if_pos trivial]; simp only [ygA, hb, D1.hm, yiF, ↓reduceIte]; rw [if_pos ⟨hnd, by omega, hsm⟩, if_pos h0]
       · rw [e, ← hsort, h0, List.mergeSort_nil]; rfl
     · refine ⟨.hslice s1.objs.length 0 1 (fs.map fun p => p.1.name).length, ⟨s1.objs ++ [.cells (((fs.map fun p => p.1.name).mergeSort leS).map V.str)], s1.toks⟩, some s1.objs.length, Does.prim (by kernel_rfl) ?_, ?_, KS.push _ _ _, fun x hx => by simp at hx; omega⟩
       · simp only [prims]; rw [if_neg (by decide +kernel), if_neg (by decide +kernel), if_pos trivial]; simp only [ygA, hb, D1.hm, yiF, ↓reduceIte]; rw [if_pos ⟨hnd, by omega, hsm⟩, if_neg h0]
       · have hl : (fs.map fun p => p.1.name).length = (((fs.map fun p => p.1.name).mergeSort leS).map V.str).length := (by simp [List.length_mergeSort]); have hpn := yap s1.objs (.cells (((fs.map fun p => p.1.name).mergeSort leS).map V.str)); simp only [yaU, hpn]; rw [if_pos (by rw [← hl]; exact Nat.le_refl _), hl, List.take_of_length_le (Nat.le_refl _), hsort, e]
   obtain ⟨v, s2, q, h1, h2, h3, h4⟩ := hp; simp only [k36_a, WKV, Nat.reduceLT, Nat.reduceEqDiff, ↓reduceIte, reduceCtorEq, Nat.reduceAdd, Int.reduceLT, Int.reduceNeg, yac, gD0, gD1, ybd, yaJ, ybe pTD, pFA r 2 (by omega), pFA r 0 (by omega), lo, lm, Bool.not_true]; refine KD.ret hk ?_; simp only [k36_a, WKV, Nat.reduceLT, Nat.reduceEqDiff, ↓reduceIte, reduceCtorEq, Nat.reduceAdd, Int.reduceLT, Int.reduceNeg, yac]; refine KD.ret h1 ?_; simp only [k36_a, WKV, Nat.reduceLT, Nat.reduceEqDiff, ↓reduceIte, reduceCtorEq, Nat.reduceAdd, Int.reduceLT, Int.reduceNeg, yac]; exact ⟨v, q, rfl, h2, K1.trans' h3, fun x hx => by have := h4 x hx; omega⟩
theorem ymE {σ : St} {r rm : Nat} {d : Dk} {fs : List Ent} (h : DiskAt σ r d rm fs) (n : Int) : ∃ σ', Does Tryz.prog prims 23 [.optr r 0, .int .i64 n] σ (.ret (.tuple [])) σ' ∧ Next σ r rm fs σ' { d with room := n } := by
 have key : ∃ p σ', Does Tryz.prog prims 23 [.optr r 0, .int .i64 n] σ p σ' ∧ (p = .ret (.tuple []) ∧ Next σ r rm fs σ' { d with room := n }) := by
   apply k23_is.does (by simp); obtain ⟨s1, hs1⟩ : ∃ s1 : St, s1 = ⟨σ.objs.set r (.cells (ybV rm { d with room := n })), σ.toks⟩ := ⟨_, rfl⟩; have st1 : yak Tryz.prog σ 3 (.optr r 1) (.int .i64 n) = some s1 := (by rw [yag h.hd S3 rfl (by simp [ybV]), hs1]; rfl); obtain ⟨D1, K1⟩ := h.head (d2 := { d with room := n }) rfl hs1; simp only [k23_a, WKV, Nat.reduceLT, Nat.reduceEqDiff, ↓reduceIte, reduceCtorEq, Nat.reduceAdd, Int.reduceLT, Int.reduceNeg, yac, gD0, gD1, yaJ, ybx pTD, pFA r 1 (by omega), st1]; exact ⟨fs, D1, K1, fun x hx => .inl hx⟩
 obtain ⟨p, σ', h1, rfl, h2⟩ := key; exact ⟨σ', h1, h2⟩
theorem yqj {σ : St} {r rm : Nat} {d : Dk} {fs : List Ent} (h : DiskAt σ r d rm fs) : ∃ σ', Does Tryz.prog prims 22 [.optr r 0] σ (.ret (.tuple [])) σ' ∧ Next σ r rm fs σ' { d with on := true } := by
 have key : ∃ p σ', Does Tryz.prog prims 22 [.optr r 0] σ p σ' ∧ (p = .ret (.tuple []) ∧ Next σ r rm fs σ' { d with on := true }) := by
   apply k22_is.does (by simp); obtain ⟨s1, hs1⟩ : ∃ s1 : St, s1 = ⟨σ.objs.set r (.cells (ybV rm { d with on := true })), σ.toks⟩ := ⟨_, rfl⟩; have st1 : yak Tryz.prog σ 4 (.optr r 2) (.bool false) = some s1 := (by rw [yag h.hd S4 rfl (by simp [ybV]), hs1]; rfl); obtain ⟨D1, K1⟩ := h.head (d2 := { d with on := true }) rfl hs1; simp only [k22_a, WKV, Nat.reduceLT, Nat.reduceEqDiff, ↓reduceIte, reduceCtorEq, Nat.reduceAdd, Int.reduceLT, Int.reduceNeg, yac, gD0, gD1, yaJ, ybx pTD, pFA r 2 (by omega), st1]; exact ⟨fs, D1, K1, fun x hx => .inl hx⟩
 obtain ⟨p, σ', h1, rfl, h2⟩ := key; exact ⟨σ', h1, h2⟩
theorem ypb {σ : St} {r rm : Nat} {d : Dk} {fs : List Ent} (h : DiskAt σ r d rm fs) (n k : Int) : ∃ σ', Does Tryz.prog prims 18 [.optr r 0, .int .i64 n, .int .i64 k] σ (.ret (.tuple [])) σ' ∧ Next σ r rm fs σ' (yjo n k d) := by
 have key : ∃ p σ', Does Tryz.prog prims 18 [.optr r 0, .int .i64 n, .int .i64 k] σ p σ' ∧ (p = .ret (.tuple []) ∧ Next σ r rm fs σ' (yjo n k d)) := by
   apply k18_is.does (by simp)
   have hmx : vmm true (.int .i64 n) (.int .i64 0) = some (.int .i64 (n.toNat : Nat)) := by
     simp only [vmm, ↓reduceIte]
     congr 2
     split <;> omega
   obtain ⟨s1, hs1⟩ : ∃ s1 : St, s1 = ⟨σ.objs.set r (.cells (ybV rm { d with armed := n.toNat })), σ.toks⟩ := ⟨_, rfl⟩; have st1 : yak Tryz.prog σ 3 (.optr r 4) (.int .i64 (n.toNat : Nat)) = some s1 := (by rw [yag h.hd S3 rfl (by simp [ybV]), hs1]; rfl); obtain ⟨D1, K1⟩ := h.head (d2 := { d with armed := n.toNat }) rfl hs1; obtain ⟨s2, hs2⟩ : ∃ s2 : St, s2 = ⟨s1.objs.set r (.cells (ybV rm (yjo n k d))), s1.toks⟩ := ⟨_, rfl⟩; have st2 : yak Tryz.prog s1 3 (.optr r 5) (.int .i64 k) = some s2 := (by rw [yag D1.hd S3 rfl (by simp [ybV]), hs2]; rfl); obtain ⟨D2, K2⟩ := D1.head (d2 := yjo n k d) rfl hs2; simp only [k18_a, WKV, Nat.reduceLT, Nat.reduceEqDiff, ↓reduceIte, reduceCtorEq, Nat.reduceAdd, Int.reduceLT, Int.reduceNeg, yac, gD0, gD1, yaJ, ybx pTD, pFA r 4 (by omega), pFA r 5 (by omega), hmx, st1, st2]; exact ⟨fs, D2, K1.trans' K2, fun x hx => .inl hx⟩
 obtain ⟨p, σ', h1, rfl, h2⟩ := key; exact ⟨σ', h1, h2⟩
theorem yiw {σ : St} {r rm : Nat} {d : Dk} {fs : List Ent} (h : DiskAt σ r d rm fs) : Does Tryz.prog prims 48 [.optr r 0] σ (.ret (.bool (!d.on))) σ := by
 apply k48_is.ret (by simp); have lo : yad Tryz.prog σ.objs 4 (.optr r 2) = some (.bool (!d.on)) := (by rw [yab h.hd G4]; rfl); simp only [k48_a, WKV, Nat.reduceLT, Nat.reduceEqDiff, ↓reduceIte, reduceCtorEq, Nat.reduceAdd, Int.reduceLT, Int.reduceNeg, yac, gD0, gD1, yaJ, ybx pTD, pFA r 2 (by omega), lo]
theorem yjR {σ : St} {r rm : Nat} {d : Dk} {fs : List Ent} (h : DiskAt σ r d rm fs) : Does Tryz.prog prims 63 [.optr r 0] σ (.ret (.int .i64 (d.writes : Nat))) σ := by
 apply k63_is.ret (by simp); have lo : yad Tryz.prog σ.objs 3 (.optr r 3) = some (.int .i64 (d.writes : Nat)) := (by rw [yab h.hd G3]; rfl); simp only [k63_a, WKV, Nat.reduceLT, Nat.reduceEqDiff, ↓reduceIte, reduceCtorEq, Nat.reduceAdd, Int.reduceLT, Int.reduceNeg, yac, gD0, gD1, yaJ, ybe pTD, pFA r 3 (by omega), lo]
def ylN (n : Int) : Dk := ⟨[], n, true, 0, 0, 0⟩
theorem yiD (σ : St) (n : Int) : ∃ σ' r rm, Does Tryz.prog prims 7 [.int .i64 n] σ (.ret (.optr r 0)) σ' ∧ DiskAt σ' r (ylN n) rm [] ∧ KS [] σ σ' ∧ ∀ x ∈ yay r rm [], σ.objs.length ≤ x := by
 have key : ∃ p σ', Does Tryz.prog prims 7 [.int .i64 n] σ p σ' ∧ ∃ r rm, p = .ret (.optr r 0) ∧ DiskAt σ' r (ylN n) rm [] ∧ KS [] σ σ' ∧ ∀ x ∈ yay r rm [], σ.objs.length ≤ x := by
   apply k7_is.does (by simp); have hb : ∀ m : Nat, ydA Tryz.prog 74 [(0, .omap m), (1, .int .i64 n)] = some (.agg [.omap m, .int .i64 n, .bool false, .int .i64 0, .int .i64 0, .int .i64 0]) := fun m => by kernel_rfl
   simp only [k7_a, WKV, Nat.reduceLT, Nat.reduceEqDiff, ↓reduceIte, reduceCtorEq, Nat.reduceAdd, Int.reduceLT, Int.reduceNeg, yac, gD0, gD1, yaJ, yc9, hb, ycn, yah]; refine ⟨σ.objs.length + 1, σ.objs.length, by simp, ⟨?_, ?_, fun p hp => (by cases hp), by simp [yay], by simp [ylN]⟩, (KS.push [] σ (.mp [])).trans' (KS.push [] ⟨σ.objs ++ [.mp []], σ.toks⟩ _), fun x hx => by simp [yay] at hx; omega⟩
   · have := yap (σ.objs ++ [Ob.mp []]) (.cells (ybV σ.objs.length (ylN n))); simp only [List.length_append, List.length_cons, List.length_nil, Nat.zero_add] at this; exact this
   · simp only; rw [gA2 (by simp)]; exact yap _ _
 obtain ⟨p, σ', h1, r, rm, rfl, h2⟩ := key; exact ⟨σ', r, rm, h1, h2⟩
theorem yqC {n : Int} (h : ycm n) : (ylN n).Ok := ⟨by simp [ylN], fun f hf => (by cases hf), by simp [ylN], fun f hf => (by cases hf), by simp [ylN], h, by unfold ycm; simp [ylN]⟩
def RowS (σ : St) (k : Nat) (w : V) (cs : List V) (n : Nat) : Prop := RowV k w cs n ∨ (cs.length = n * k ∧ ∃ r off c, w = .hslice r off k n ∧ σ.objs[r]? = some (.cells c) ∧ off + n * k ≤ c.length ∧ (c.drop off).take (n * k) = cs)
section
variable {σ : St} {k n : Nat} {w : V} {cs : List V}
theorem RowS.keep {σ' : St} (h : RowS σ k w cs n) (hk : Keep σ σ') : RowS σ' k w cs n := by
 rcases h with h | ⟨h0, r, off, c, h1, h2, h3⟩
 · exact .inl h
 · exact .inr ⟨h0, r, off, c, h1, hk.1 _ _ h2, h3⟩
theorem RowS.size (h : RowS σ k w cs n) : cs.length = n * k := by
 rcases h with h | ⟨h0, _⟩
 · exact h.1
 · exact h0
theorem RowS.len (h : RowS σ k w cs n) {t e : TypeId} (ht : Tryz.prog.underlying t = some (.slice e)) : ydn Tryz.prog t w = some (.int .i64 (n : Nat)) := by
 rcases h with h | ⟨h0, r, off, c, rfl, _⟩
 · exact h.len ht
 · simp [ydn, ht]
def At (σ : St) (p : V) (c : List V) : Prop := (∃ cs o, p = .eptr cs o ∧ o + c.length ≤ cs.length ∧ (cs.drop o).take c.length = c) ∨ ∃ r o cs, p = .optr r o ∧ σ.objs[r]? = some (.cells cs) ∧ o + c.length ≤ cs.length ∧ (cs.drop o).take c.length = c
theorem RowS.at (h : RowS σ k w cs n) {t e : TypeId} (ht : Tryz.prog.underlying t = some (.slice e)) (hs : yaQ Tryz.prog e = some k) (hk : 0 < k) {i : Nat} (hi : i < n) {kk : IntKind} :
   ∃ p, yai Tryz.prog t w (.int kk (i : Int)) = some p ∧ At σ p ((cs.drop (i * k)).take k) := by
 have hsz := h.size
 have hle : i * k + k ≤ n * k := by
   have : (i + 1) * k ≤ n * k := Nat.mul_le_mul_right k hi
   rwa [Nat.add_mul, Nat.one_mul] at this
 have hpl : ((cs.drop (i * k)).take k).length = k := (by rw [List.length_take, List.length_drop]; omega); rcases h with h | ⟨h0, r, off, c, rfl, h2, h3, h4⟩
 · refine ⟨_, RowV.addr h ht hs hk (kk := kk) (i := (i : Int)) (by omega) (by omega), .inl ⟨cs, i * k, by rw [Int.toNat_natCast], by rw [hpl]; omega, by rw [hpl]⟩⟩
 · have hi' : (i : Int) < n := (by omega); refine ⟨.optr r (off + i * k), by simp [yai, ht, hs, hi'], .inr ⟨r, _, c, rfl, h2, by rw [hpl]; omega, ?_⟩⟩; rw [hpl, ← h4, List.drop_take, List.drop_drop, List.take_take]
   congr 1
   omega
theorem At.keep {σ' : St} {p : V} {c : List V} (h : At σ p c) (hk : Keep σ σ') : At σ' p c := by
 rcases h with h | ⟨r, o, cs, h1, h2, h3⟩
 · exact .inl h
 · exact .inr ⟨r, o, cs, h1, hk.1 _ _ h2, h3⟩
theorem At.load1 {p : V} {v : V} (h : At σ p [v]) {e : TypeId} (ha : ybc Tryz.prog e = some false) : yad Tryz.prog σ.objs e p = some v := by
 have key : ∀ (cs : List V) (o : Nat), o + 1 ≤ cs.length → (cs.drop o).take 1 = [v] → cs[o]? = some v := by
   intro cs o h1 h2; have := congrArg (·[0]?) h2; simpa using this
 rcases h with ⟨cs, o, rfl, h1, h2⟩ | ⟨r, o, cs, rfl, hr, h1, h2⟩
 · simp only [yad, ya1, ycp, ha]; exact key cs o h1 h2
 · simp only [yad, ya1, hr, ycp, ha]; exact key cs o h1 h2
end
end Go.Proofs.YtnegdinonfjdfaaGreatDoor.Q
namespace Go.Proofs.YtnegdinonfjdfaaGreatDoor.Q
open Go Go.RowKit Go.Proofs
theorem yd9 (k : Int) (d : Dk) : (ydG k d).writes = d.writes := by unfold ydG; split <;> rfl
theorem yhP {d : Dk} (h : d.Ok) (k : Int) : (ydG k (ybj d).2).Ok := h.raw.off k
theorem yeL {n b : List UInt8} {d : Dk} (h : d.Ok) : (yaf n b d).2.Ok ∧ (yaf n b d).2.writes ≤ d.writes + 1 := by
 unfold yaf; split
 · exact ⟨h, by simp⟩
 · rename_i hr; have hr0 : yaw d n = 0 := Classical.byContradiction hr; have hn := (ycI hr0).1; simp only; split
   · exact ⟨h, by simp⟩
   · rename_i hl; split
     · exact ⟨h, by simp⟩
     · rename_i hf
       have ok2 : ({ d with files := ycy ⟨n, ((yc7 d.files n).getD ⟨n, [], []⟩).safe, ((yc7 d.files n).getD ⟨n, [], []⟩).wait ++ b⟩ d.files } : Dk).Ok := by
         refine h.put hn ?_ fun hno => ?_
         · simp only [Fl.len, List.length_append] at hl ⊢; omega
         · have : ¬ 16 ≤ d.files.length := fun h1 => hf (.inl ⟨hno, h1⟩); omega
       have rf := ybm { d with files := ycy ⟨n, ((yc7 d.files n).getD ⟨n, [], []⟩).safe, ((yc7 d.files n).getD ⟨n, [], []⟩).wait ++ b⟩ d.files }
       split
       · exact ⟨yhP ok2 _, by rw [yd9, rf.2.2.2.2]; simp⟩
       · exact ⟨ok2.raw, by rw [rf.2.2.2.2]; simp⟩
theorem ykw {d : Dk} (h : d.Ok) {n : List UInt8} (ht : yao d n = 0) {s w : List UInt8} (hl : s.length + w.length ≤ 1048576) : ({ (ybj d).2 with files := ycy ⟨n, s, w⟩ d.files } : Dk).Ok := by
 obtain ⟨hr, f, hg⟩ := ydr ht
 have h1 : ({ (ybj d).2 with files := ycy ⟨n, s, w⟩ (ybj d).2.files } : Dk).Ok := h.raw.put (ycI hr).1 (by simp only [Fl.len]; omega) fun hno => by
   rw [(ybm d).1, hg] at hno; cases hno
 rw [(ybm d).1] at h1; exact h1
theorem ylO (d : Dk) : (ybj d).2.writes = d.writes + 1 := (ybm d).2.2.2.2
theorem yjw {n : List UInt8} {d : Dk} (h : d.Ok) : (yaO n d).2.Ok ∧ (yaO n d).2.writes ≤ d.writes + 1 := by
 unfold yaO; split
 · exact ⟨h, by simp⟩
 · rename_i ht; have ht0 : yao d n = 0 := Classical.byContradiction ht; obtain ⟨hr, f, hg⟩ := ydr ht0; have hl := (h.get hg).2.2.2; split
   · exact ⟨yhP h _, by rw [yd9, ylO]; simp⟩
   · simp only [hg, Option.getD_some]; exact ⟨ykw h ht0 (by simpa [Fl.len] using hl), by rw [ylO]; simp⟩
theorem yhU {n : List UInt8} {k : Int} {d : Dk} (h : d.Ok) : (yaL n k d).2.Ok ∧ (yaL n k d).2.writes ≤ d.writes + 1 := by
 unfold yaL; split
 · exact ⟨h, by simp⟩
 · rename_i ht; have ht0 : yao d n = 0 := Classical.byContradiction ht; obtain ⟨hr, f, hg⟩ := ydr ht0; have hl := (h.get hg).2.2.2; simp only [hg, Option.getD_some]; split
   · exact ⟨h, by simp⟩
   · split
     · exact ⟨yhP h _, by rw [yd9, ylO]; simp⟩
     · refine ⟨ykw h ht0 ?_, by rw [ylO]; simp⟩; simp only [Fl.len, List.length_take] at hl ⊢; omega
theorem ycx {n : List UInt8} {d : Dk} (h : d.Ok) : (yaj n d).2.Ok ∧ (yaj n d).2.writes ≤ d.writes + 1 := by
 unfold yaj; split
 · exact ⟨h, by simp⟩
 · split
   · exact ⟨yhP h _, by rw [yd9, ylO]; simp⟩
   · have := h.raw.drop n; rw [(ybm d).1] at this; exact ⟨this, by rw [ylO]; simp⟩
theorem KS.nils {S : List Nat} {σ σ' : St} (h : KS [] σ σ') : KS S σ σ' := h.mono fun x hx => by cases hx
theorem DiskAt.pushes {σ σ' : St} {r rm : Nat} {d : Dk} {fs : List Ent} (h : DiskAt σ r d rm fs) (hk : KS [] σ σ') : DiskAt σ' r d rm fs := h.keep hk fun x _ => by simp
theorem eqlB (t : TypeId) (ht : t = 4) (a b : Operand) (x y : Bool) : yci Tryz.prog .eql t a b (.bool x) (.bool y) = some (.bool (x == y)) := by
 subst ht
 cases x <;> cases y <;> kernel_rfl
theorem ydM {d : Dk} (hok : d.Ok) (n : List UInt8) : (yav n d).2.length ≤ 1048576 := by
 unfold yav; split
 · simp
 · rename_i ht; have ht0 : yao d n = 0 := Classical.byContradiction ht; obtain ⟨hr, f, hg⟩ := ydr ht0; have := (hok.get hg).2.2.2; simp only [hg, Option.getD_some, List.length_append, Fl.len] at this ⊢; exact this
theorem ybS {d : Dk} (hok : d.Ok) : (yaS d).length ≤ 16 := by
 have := hok.few; unfold yaS; split <;> simp; omega
theorem TSS : Tryz.prog.underlying 70 = some (.slice 9) := by kernel_rfl
theorem SS9 : yaQ Tryz.prog 9 = some 1 := by kernel_rfl
theorem SR : RowT Tryz.prog 70 9 1 16 := ⟨TSS, by kernel_rfl, ⟨_, (by kernel_rfl : ybl Tryz.prog 9 = some (.str [])), rfl⟩, by kernel_rfl, by omega⟩
theorem yeE {σ : St} {v : V} {q : Option Nat} {l : List (List UInt8)} (h : yaU σ.objs v = some (q, l.map V.str)) : RowS σ 1 v (l.map V.str) l.length := by
 rcases yaC h with ⟨rfl, rfl, h0⟩ | ⟨r, full, rfl, rfl, hr, hl, hc⟩
 · refine .inl ⟨by simp, .inl ⟨rfl, ?_⟩⟩; have := congrArg List.length h0; simpa using this
 · simp only [List.length_map] at hl hc ⊢; exact .inr ⟨by simp, r, 0, full, rfl, hr, by omega, by rw [List.drop_zero, Nat.mul_one]; exact hc.symm⟩
theorem RowS.strAt {σ : St} {v : V} {l : List (List UInt8)} (h : RowS σ 1 v (l.map V.str) l.length) {i : Nat} (hi : i < l.length) : ∃ p, yai Tryz.prog 70 v (.int .i64 (i : Int)) = some p ∧ ∀ σ', KS [] σ σ' → yad Tryz.prog σ'.objs 9 p = some (.str l[i]) := by
 obtain ⟨p, h1, h2⟩ := h.at TSS SS9 (by omega) (i := i) (by simpa using hi) (kk := .i64); refine ⟨p, h1, fun σ' hk => ?_⟩
 have e : ((l.map V.str).drop (i * 1)).take 1 = [V.str l[i]] := by
   rw [Nat.mul_one, List.drop_eq_getElem_cons (by simpa using hi)]; simp
 rw [e] at h2; exact (h2.keep hk.keep).load1 G9
def Free (q : Option Nat) (F : List Nat) : Prop := ∀ x ∈ q.toList, x ∉ F
theorem Free.step {q : Option Nat} {F F' : List Nat} {n : Nat} (h : Free q F) (hl : ∀ x ∈ q.toList, x < n) (hF : ∀ x ∈ F', x ∈ F ∨ n ≤ x) : Free q F' := fun x hx hx2 => by
 rcases hF x hx2 with h1 | h1
 · exact h x hx h1
 · have := hl x hx; omega
theorem Free.high {q : Option Nat} {F : List Nat} {n : Nat} (hl : ∀ x ∈ q.toList, n ≤ x) (hF : ∀ x ∈ F, x < n) : Free q F := fun x hx hx2 => by
 have := hl x hx; have := hF x hx2; omega
theorem ybT {σ σ' : St} {v : V} {q : Option Nat} {cs : List V} {F : List Nat} (h : yaU σ.objs v = some (q, cs)) (hf : Free q F) (hk : KS F σ σ') : yaU σ'.objs v = some (q, cs) := ycA h fun x hx o ho => hk.ko _ _ (hf x hx) ho
theorem ypq {k : Nat} {cs : List V} (h : VT Tryz.prog k 30 cs) : ∃ w bs, cs = [w] ∧ BtsV w bs := by
 obtain ⟨k', hc⟩ := yhJ T22 h; rcases hc with rfl | ⟨vs, len, rfl, h1, h2, h3⟩
 · exact ⟨.nils, [], rfl, .inl ⟨rfl, rfl⟩⟩
 · rw [C5] at h1 h3
   obtain ⟨l, rfl, hl, _⟩ := yib (f := fun b : UInt8 => [yal b]) (R := fun _ => True) len vs h1 fun i hi => by
     obtain ⟨n, e, hw⟩ := yko T5 (h3 i hi); exact ⟨_, by rw [e, yoQ hw], trivial⟩
   subst hl; have e : l.flatMap (fun b : UInt8 => [yal b]) = l.map yal := (by rw [List.map_eq_flatMap]); refine ⟨_, l, rfl, .inr ⟨.ro, ?_⟩⟩; rw [C5, e]
theorem yle {v : V} {bs : List UInt8} (h : BtsV v bs) : bs.length ≤ ycG v := by
 rcases h with ⟨rfl, rfl⟩ | ⟨p, rfl⟩
 · simp
 · have := yfm (bs.map yal); simp only [ycG, List.length_map] at this ⊢; omega
theorem COi : Tryz.prog.cellsOf 3 = 1 := by kernel_rfl
theorem COs : Tryz.prog.cellsOf 9 = 1 := by kernel_rfl
theorem COb : Tryz.prog.cellsOf 30 = 1 := by kernel_rfl
abbrev BV := V × List UInt8
theorem SBs : yaQ Tryz.prog 30 = some 1 := pSB
def PtsV (w : V) (l : List BV) : Prop := RowV 1 w (l.map Prod.fst) l.length
theorem PtsV.len {v : V} {l : List BV} (h : PtsV v l) : ydn Tryz.prog 60 v = some (.int .i64 l.length) := RowV.len h TBB
theorem PtsV.addr {v : V} {l : List BV} (h : PtsV v l) {i : Nat} (hi : i < l.length) : yai Tryz.prog 60 v (.int .i64 i) = some (.eptr (l.map Prod.fst) i) := by
 have := RowV.addr h TBB SBs (by omega) (kk := .i64) (i := i) (by omega) (by omega)
 rwa [Int.toNat_natCast, Nat.mul_one] at this
theorem PtsV.load {l : List BV} {i : Nat} (hi : i < l.length) {objs : List Ob} : yad Tryz.prog objs 30 (.eptr (l.map Prod.fst) i) = some l[i].1 := by
 simp [yad, ya1, ycp, pGB, hi]
theorem yjs {σ : St} {v : V} {bs : List UInt8} (r : BitVec 32) (h : BtsV v bs) (hl : bs.length ≤ 1000000000) : Does Tryz.prog prims 96 [.int .u32 ((r.toNat : Nat) : Int), v] σ (.ret (uV (ykD r bs))) σ := by
 refine Does.prim (by kernel_rfl) ?_; simp only [prims]; rw [if_neg (by decide +kernel), if_neg (by decide +kernel), if_neg (by decide +kernel), if_pos trivial]; simp only [yoF, yjN h, ybQ]; rw [if_pos ⟨trivial, hl⟩]
theorem ygL {σ : St} {v : V} {bs : List UInt8} (h : BtsV v bs) (hl : bs.length ≤ 1000000000) : Does Tryz.prog prims 82 [v] σ (.ret (uV (ydy bs))) σ := by
 apply k82_is.ret (by simp); simp only [k82_a, WKV, Nat.reduceLT, Nat.reduceEqDiff, ↓reduceIte, reduceCtorEq, Nat.reduceAdd, Int.reduceLT, Int.reduceNeg, yac, gD0]; refine KD.ret (yjs 0#32 h hl) ?_; simp only [k82_a, WKV, Nat.reduceLT, Nat.reduceEqDiff, ↓reduceIte, reduceCtorEq, Nat.reduceAdd, Int.reduceLT, Int.reduceNeg, yac]; rfl
def yiC : Nat → BitVec 32 → BitVec 32
 | 0, r => r
 | k + 1, r => yb8 (yiC k r)
theorem steps8 (r : BitVec 32) : yiC 8 r = nib (nib r) := by
 simp only [yiC]; rw [yiM, yiM]
theorem bit0 (q : BitVec 32) : (((q &&& 1#32).toNat : Nat) : Int) = 1 ↔ q.getLsbD 0 = true := by
 have h : (q &&& 1#32).toNat = q.toNat % 2 := by
   rw [BitVec.toNat_and]; exact Nat.and_one_is_mod q.toNat
 have h2 : q.getLsbD 0 = decide (q.toNat % 2 = 1) := by
   rw [BitVec.getLsbD, Nat.testBit_zero]
 rw [h, h2]; simp; omega
theorem yoi {σ : St} {v : V} {bs : List UInt8} (r : BitVec 32) (h : BtsV v bs) (hl : bs.length ≤ 1000000000) : Does Tryz.prog prims 99 [.int .u32 ((r.toNat : Nat) : Int), v] σ (.ret (uV (ykD r bs))) σ := by
 apply k99_is.ret (by simp); have hlen := h.len pTB; simp only [k99_a, WKV, Nat.reduceLT, Nat.reduceEqDiff, ↓reduceIte, reduceCtorEq, Nat.reduceAdd, Int.reduceLT, Int.reduceNeg, yac, gD0, gD1, yfV]; refine Ev.loopF (fun (i : Nat) e s => e 6 = .int .i64 (i : Nat) ∧ i ≤ bs.length ∧ e 5 = .int .u32 (((yls (~~~ r) (bs.take i)).toNat : Nat) : Int) ∧ s = σ) (fun i => bs.length - i) 0 ?_ ?_
 · exact ⟨by simp [yaa], Nat.zero_le _, by simp [yaa, yls], rfl⟩
 rintro i e s ⟨h6, hi, h5, rfl⟩ hf; have g1 : e 1 = v := (hf 1 (by decide)).trans (by simp [yaa]); clear hf; by_cases hlt : i < bs.length
 · have hlt' : (i : Int) < (bs.length : Nat) := (by omega); have hwi : IntKind.i64.wrap ((i : Int) + 1) = ((i + 1 : Nat) : Int) := by rw [yae (by omega) (by omega)]; omega
   have hat : yai Tryz.prog 30 v (.int .i64 (i : Int)) = some (.eptr (bs.map yal) i) := by
     have := h.addr pTB pS1 (k := .i64) (n := (i : Int)) (by omega) hlt'
     rwa [Int.toNat_natCast] at this
   have hld : ∀ objs, yad Tryz.prog objs 5 (.eptr (bs.map yal) i) = some (.int .u8 ((bs[i].toNat : Nat) : Int)) := fun objs => by
     simp [yad, ya1, ycp, pG5, hlt, yal]
   have hcv : ycH Tryz.prog 5 108 (.int .u8 ((bs[i].toNat : Nat) : Int)) = some (.int .u32 (((BitVec.ofNat 32 bs[i].toNat).toNat : Nat) : Int)) := by
     simp only [ycH, pT5, pTU, yok]
   simp only [k99_a, WKV, Nat.reduceLT, Nat.reduceEqDiff, ↓reduceIte, reduceCtorEq, Nat.reduceAdd, Int.reduceLT, Int.reduceNeg, yac, h6, g1, h5, hlen, hlt', decide_true, hat, hld, hcv, ygo]; refine Ev.loopF (fun (j : Nat) e2 s2 => e2 7 = .int .i64 (j : Nat) ∧ j ≤ 8 ∧ e2 5 = .int .u32 (((yiC j (yls (~~~ r) (bs.take i) ^^^ BitVec.ofNat 32 bs[i].toNat)).toNat : Nat) : Int) ∧ s2 = s) (fun j => 8 - j) 0 ?_ ?_
   · exact ⟨by simp [yaa], Nat.zero_le _, by simp [yaa, yiC], rfl⟩
   rintro j e2 s2 ⟨m7, hj, m5, rfl⟩ hf2; have m6 : e2 6 = .int .i64 (i : Nat) := (hf2 6 (by decide)).trans (by simp [yaa, h6]); clear hf2; generalize hq : yiC j (yls (~~~ r) (bs.take i) ^^^ BitVec.ofNat 32 bs[i].toNat) = q at m5; by_cases hjt : j < 8
   · have hjt' : (j : Int) < 8 := (by omega); have hwj : IntKind.i64.wrap ((j : Int) + 1) = ((j + 1 : Nat) : Int) := (by rw [yae (by omega) (by omega)]; omega); by_cases hb : q.getLsbD 0 = true
     · have hb' := (bit0 q).2 hb; have hst : yb8 q = (q >>> 1) ^^^ yoy := (by unfold yb8; rw [if_pos hb]); simp only [k99_a, WKV, Nat.reduceLT, Nat.reduceEqDiff, ↓reduceIte, reduceCtorEq, Nat.reduceAdd, Int.reduceLT, Int.reduceNeg, yac, m7, m5, hjt', decide_true, and1, shr1, hb', eq_self, xorP, hwj]; refine ⟨j + 1, ⟨by simp [yaa], by omega, ?_⟩, by omega⟩; simp only [yaa, Nat.reduceEqDiff, ↓reduceIte, yiC, hq, hst, and_true]
     · have hb' : ¬ (((q &&& 1#32).toNat : Nat) : Int) = 1 := fun h => hb ((bit0 q).1 h); have hst : yb8 q = q >>> 1 := (by unfold yb8; rw [if_neg hb]; simp); simp only [k99_a, WKV, Nat.reduceLT, Nat.reduceEqDiff, ↓reduceIte, reduceCtorEq, Nat.reduceAdd, Int.reduceLT, Int.reduceNeg, yac, m7, m5, hjt', decide_true, decide_false, and1, shr1, hb', hwj]; refine ⟨j + 1, ⟨by simp [yaa], by omega, ?_⟩, by omega⟩; simp only [yaa, Nat.reduceEqDiff, ↓reduceIte, yiC, hq, hst, and_true]
   · have hjt' : ¬ (j : Int) < 8 := (by omega); have hj2 : j = 8 := (by omega); subst hj2; rw [steps8] at hq; simp only [k99_a, WKV, Nat.reduceLT, Nat.reduceEqDiff, ↓reduceIte, reduceCtorEq, Nat.reduceAdd, Int.reduceLT, Int.reduceNeg, yac, m7, m6, hjt', decide_false, hwi]; refine ⟨i + 1, ⟨by simp [yaa], by omega, ?_⟩, by omega⟩; simp only [yaa, Nat.reduceEqDiff, ↓reduceIte, m5, yiR hlt, ymx, hq, and_true]
 · have hlt' : ¬ (i : Int) < (bs.length : Nat) := (by omega); have hil : bs.take i = bs := List.take_of_length_le (by omega); rw [hil] at h5; simp only [k99_a, WKV, Nat.reduceLT, Nat.reduceEqDiff, ↓reduceIte, reduceCtorEq, Nat.reduceAdd, Int.reduceLT, Int.reduceNeg, yac, h6, g1, h5, hlen, hlt', decide_false, yfV]; rfl
theorem ynv {σ : St} {v : V} {bs : List UInt8} (h : BtsV v bs) (hl : bs.length ≤ 1000000000) : Does Tryz.prog prims 86 [v] σ (.ret (uV (ydy bs))) σ := by
 apply k86_is.ret (by simp); simp only [k86_a, WKV, Nat.reduceLT, Nat.reduceEqDiff, ↓reduceIte, reduceCtorEq, Nat.reduceAdd, Int.reduceLT, Int.reduceNeg, yac, gD0]; refine KD.ret (yoi 0#32 h hl) ?_; simp only [k86_a, WKV, Nat.reduceLT, Nat.reduceEqDiff, ↓reduceIte, reduceCtorEq, Nat.reduceAdd, Int.reduceLT, Int.reduceNeg, yac]; rfl
theorem sbA {a b : List UInt8} (h : a.length + b.length ≤ 9223372036854775807) : yc6 .add a b = some (.str (a ++ b)) := by simp only [yc6]; rw [if_pos h]
theorem yqw (l : List UInt8) : ydn Tryz.prog 9 (.str l) = some (.int .i64 (l.length : Nat)) := by simp [ydn, T9]
theorem yeP {v : V} {bs : List UInt8} (h : BtsV v bs) : ycH Tryz.prog 30 9 v = some (.str bs) := by
 have hu : yoC Tryz.prog 5 = true := by kernel_rfl
 have hb : ∀ l : List UInt8, ycO (l.map yal) = some l := by
   intro l
   induction l with
   | nil => rfl
   | cons b l ih =>
     have : yhV (yal b) = some b := (by simp [yhV, yal]); simp only [List.map_cons, ycO, this, ih]
 rcases h with ⟨rfl, rfl⟩ | ⟨p, rfl⟩
 · simp [ycH, T22, T9, hu]
 · simp [ycH, T22, T9, hu, hb]
theorem yog {σ : St} {m : Nat} (h : m ≤ 999999999) : Does Tryz.prog prims 80 [.int .i64 (m : Nat)] σ (.ret (.str (ydp (wid m) m))) σ := by
 refine Does.prim (by kernel_rfl) ?_; simp only [prims]; rw [if_neg (by decide +kernel), if_neg (by decide +kernel), if_neg (by decide +kernel), if_neg (by decide +kernel), if_pos trivial]; simp only [ypa, Int.toNat_natCast]; rw [if_pos (by omega)]
theorem ymR {σ : St} {s : List UInt8} (hl : s.length ≤ 18) (h : Lib.atoi s = none) : Does Tryz.prog prims 83 [.str s] σ (.ret (.tuple [.int .i64 0, .iface 134 (.optr σ.objs.length 0)])) ⟨σ.objs ++ [.cells []], σ.toks⟩ := by
 refine Does.prim (by kernel_rfl) ?_; simp only [prims]; rw [if_neg (by decide +kernel), if_neg (by decide +kernel), if_neg (by decide +kernel), if_neg (by decide +kernel), if_neg (by decide +kernel), if_pos trivial]; simp only [ynB]; rw [if_pos hl, h]
theorem ynO {σ : St} {s : List UInt8} {n : Int} (hl : s.length ≤ 18) (h : Lib.atoi s = some n) : Does Tryz.prog prims 83 [.str s] σ (.ret (.tuple [.int .i64 n, .nili])) σ := by
 refine Does.prim (by kernel_rfl) ?_; simp only [prims]; rw [if_neg (by decide +kernel), if_neg (by decide +kernel), if_neg (by decide +kernel), if_neg (by decide +kernel), if_neg (by decide +kernel), if_pos trivial]; simp only [ynB]; rw [if_pos hl, h]
theorem yeb {σ : St} (n : Int) : Does Tryz.prog prims 65 [.int .i64 n] σ (.ret (.str (ya0 106 1 n))) σ := by
 apply k65_is.ret (by simp); have oe : ycl (Value.string { data := #[] }) = some (.str []) := rfl; have o0 : ycl (Value.string { data := #[48] }) = some (.str [48]) := rfl; have oc : ycl (Value.string { data := #[106] }) = some (.str [106]) := rfl; by_cases h0 : n < 1
 · simp only [k65_a, WKV, Nat.reduceLT, Nat.reduceEqDiff, ↓reduceIte, reduceCtorEq, Nat.reduceAdd, Int.reduceLT, Int.reduceNeg, yac, gD0, h0, decide_true, oe]; unfold ya0; rw [if_pos (.inl h0)]
 by_cases h1 : 999999999 < n
 · simp only [k65_a, WKV, Nat.reduceLT, Nat.reduceEqDiff, ↓reduceIte, reduceCtorEq, Nat.reduceAdd, Int.reduceLT, Int.reduceNeg, yac, gD0, h0, h1, decide_true, decide_false, oe]; unfold ya0; rw [if_pos (.inr h1)]
 obtain ⟨m, rfl⟩ : ∃ m : Nat, n = (m : Int) := ⟨n.toNat, by omega⟩; obtain ⟨w1, w2, w3, w4⟩ := ypx (n := m) (by omega)
 have hnm : ya0 106 1 (m : Int) = 106 :: ydp 9 m := by
   unfold ya0; rw [if_neg (by omega), Int.toNat_natCast]
 simp only [k65_a, WKV, Nat.reduceLT, Nat.reduceEqDiff, ↓reduceIte, reduceCtorEq, Nat.reduceAdd, Int.reduceLT, Int.reduceNeg, yac, gD0, h0, h1, decide_false, oe]; refine KD.ret (yog (by omega)) ?_; simp only [k65_a, WKV, Nat.reduceLT, Nat.reduceEqDiff, ↓reduceIte, reduceCtorEq, Nat.reduceAdd, Int.reduceLT, Int.reduceNeg, yac]; refine Ev.loopF (fun (k : Nat) e s => e 3 = .str (ydp k m) ∧ m < 10 ^ k ∧ k ≤ 9 ∧ s = σ) (fun k => 9 - k) (wid m) ?_ ?_
 · exact ⟨by simp [yaa], w3, w1, rfl⟩
 rintro k e s ⟨h3, hm, hk, rfl⟩ hf; clear hf; have hl := yqw (ydp k m); rw [ydk] at hl; by_cases hlt : k < 9
 · have hlt' : (k : Int) < 9 := by omega
   have ha : yc6 .add [48] (ydp k m) = some (.str (ydp (k + 1) m)) := by
     rw [sbA (by rw [ydk]; simp; omega), ym0 hm]; rfl
   simp only [k65_a, WKV, Nat.reduceLT, Nat.reduceEqDiff, ↓reduceIte, reduceCtorEq, Nat.reduceAdd, Int.reduceLT, Int.reduceNeg, yac, h3, hl, hlt', decide_true, o0, ha]; exact ⟨k + 1, ⟨by simp [yaa], by rw [Nat.pow_succ]; omega, by omega⟩, by omega⟩
 · have hlt' : ¬ (k : Int) < 9 := (by omega); have hk9 : k = 9 := (by omega); subst hk9
   have ha : yc6 .add [106] (ydp 9 m) = some (.str (106 :: ydp 9 m)) := by
     rw [sbA (by rw [ydk]; simp)]; rfl
   simp only [k65_a, WKV, Nat.reduceLT, Nat.reduceEqDiff, ↓reduceIte, reduceCtorEq, Nat.reduceAdd, Int.reduceLT, Int.reduceNeg, yac, h3, hl, hlt', decide_false, oc, ha, hnm]
theorem yjD {σ : St} (n : Int) : Does Tryz.prog prims 67 [.int .i64 n] σ (.ret (.str (ya0 106 1 n))) σ := by
 apply k67_is.ret (by simp); have oe : ycl (Value.string { data := #[] }) = some (.str []) := rfl; have oc : ycl (Value.string { data := #[106] }) = some (.str [106]) := rfl; by_cases h0 : n < 1
 · simp only [k67_a, WKV, Nat.reduceLT, Nat.reduceEqDiff, ↓reduceIte, reduceCtorEq, Nat.reduceAdd, Int.reduceLT, Int.reduceNeg, yac, gD0, h0, decide_true, oe]; unfold ya0; rw [if_pos (.inl h0)]
 by_cases h1 : 999999999 < n
 · simp only [k67_a, WKV, Nat.reduceLT, Nat.reduceEqDiff, ↓reduceIte, reduceCtorEq, Nat.reduceAdd, Int.reduceLT, Int.reduceNeg, yac, gD0, h0, h1, decide_true, decide_false, oe]; unfold ya0; rw [if_pos (.inr h1)]
 obtain ⟨m, rfl⟩ : ∃ m : Nat, n = (m : Int) := ⟨n.toNat, by omega⟩
 have hnm : ya0 106 1 (m : Int) = 106 :: ydp 9 m := by
   unfold ya0; rw [if_neg (by omega), Int.toNat_natCast]
 simp only [k67_a, WKV, Nat.reduceLT, Nat.reduceEqDiff, ↓reduceIte, reduceCtorEq, Nat.reduceAdd, Int.reduceLT, Int.reduceNeg, yac, gD0, h0, h1, decide_false, oe]; refine Ev.loopF (fun (i : Nat) e s => e 4 = .int .i64 (i : Nat) ∧ i ≤ 9 ∧ e 3 = .str (ydp i m) ∧ e 0 = .int .i64 ((m / 10 ^ i : Nat) : Int) ∧ s = σ) (fun i => 9 - i) 0 ?_ ?_
 · exact ⟨by simp [yaa], Nat.zero_le _, by simp [yaa, ydp], by simp [yaa], rfl⟩
 rintro i e s ⟨h4, hi, h3, g0, rfl⟩ hf; clear hf; by_cases hlt : i < 9
 · have hlt' : (i : Int) < 9 := (by omega); have hwi : IntKind.i64.wrap ((i : Int) + 1) = ((i + 1 : Nat) : Int) := (by rw [yae (by omega) (by omega)]; omega); have hq : m / 10 ^ i ≤ m := Nat.div_le_self _ _; generalize hqe : m / 10 ^ i = q at g0 hq; have hd : q % 10 < 10 := Nat.mod_lt _ (by decide); have htm : Int.tmod ((q : Nat) : Int) 10 = ((q % 10 : Nat) : Int) := (by rw [Int.tmod_eq_emod_of_nonneg (by omega)]; omega); have htd : Int.tdiv ((q : Nat) : Int) 10 = ((q / 10 : Nat) : Int) := (by rw [Int.tdiv_eq_ediv_of_nonneg (by omega)]; omega); have hw1 : IntKind.i64.wrap (48 + ((q % 10 : Nat) : Int)) = ((48 + q % 10 : Nat) : Int) := (by rw [yae (by omega) (by omega)]; omega); have hw2 : IntKind.i64.wrap ((q / 10 : Nat) : Int) = ((q / 10 : Nat) : Int) := yae (by omega) (by omega)
   have hcv : ycH Tryz.prog 3 5 (.int .i64 ((48 + q % 10 : Nat) : Int)) = some (.int .u8 ((48 + q % 10 : Nat) : Int)) := by
     simp only [ycH, T3, T5]; rw [yqo (by omega) (by omega)]
   obtain ⟨hb1, hb2⟩ := yow (P := Tryz.prog) BT (n := 48 + q % 10) (by omega); have hcs := yeP hb2; have hp : m / 10 ^ (i + 1) = q / 10 := by rw [Nat.pow_succ, ← Nat.div_div_eq_div_mul, hqe]
   have ha : yc6 .add [UInt8.ofNat (48 + q % 10)] (ydp i m) = some (.str (ydp (i + 1) m)) := by
     rw [sbA (by rw [ydk]; simp; omega), yfk, hqe]; rfl
   have z10 : ¬ (10 : Int) = 0 := (by decide); simp only [k67_a, WKV, Nat.reduceLT, Nat.reduceEqDiff, ↓reduceIte, reduceCtorEq, Nat.reduceAdd, Int.reduceLT, Int.reduceNeg, yac, h4, h3, g0, hlt', decide_true, z10, htm, hw1, hcv, hb1, hcs, ha, htd, hw2, hwi]; exact ⟨i + 1, ⟨by simp [yaa], by omega, by simp [yaa], by simp [yaa, hp]⟩, by omega⟩
 · have hlt' : ¬ (i : Int) < 9 := (by omega); have hi9 : i = 9 := (by omega); subst hi9
   have ha : yc6 .add [106] (ydp 9 m) = some (.str (106 :: ydp 9 m)) := by
     rw [sbA (by rw [ydk]; simp)]; rfl
   simp only [k67_a, WKV, Nat.reduceLT, Nat.reduceEqDiff, ↓reduceIte, reduceCtorEq, Nat.reduceAdd, Int.reduceLT, Int.reduceNeg, yac, h4, h3, hlt', decide_false, oc, ha, hnm]
def ybR (r : BitVec 32) : List UInt8 := [UInt8.ofNat r.toNat, UInt8.ofNat (r >>> 8).toNat, UInt8.ofNat (r >>> 16).toNat, UInt8.ofNat (r >>> 24).toNat]
def w4 (b : List UInt8) (i : Nat) : BitVec 32 := BitVec.ofNat 32 (b.getD i 0).toNat ||| (BitVec.ofNat 32 (b.getD (i + 1) 0).toNat <<< 8) ||| (BitVec.ofNat 32 (b.getD (i + 2) 0).toNat <<< 16) ||| (BitVec.ofNat 32 (b.getD (i + 3) 0).toNat <<< 24)
theorem yp4 (r : BitVec 32) (k : Nat) : (r >>> k).toNat = r.toNat / 2 ^ k := by rw [BitVec.toNat_ushiftRight, Nat.shiftRight_eq_div_pow]
theorem yba (r : BitVec 32) : (ybR r).length = 4 := rfl
theorem ynl (x : BitVec 32) (b : UInt8) (k : Nat) (hx : x.toNat < 2 ^ k) (hk : k ≤ 24) : (x ||| (BitVec.ofNat 32 b.toNat <<< k)).toNat = x.toNat + b.toNat * 2 ^ k := by
 have hb := b.toNat_lt; have h2 : 2 ^ k ≤ 2 ^ 24 := Nat.pow_le_pow_right (by decide) hk; have h3 : b.toNat * 2 ^ k ≤ 255 * 2 ^ 24 := Nat.mul_le_mul (by omega) h2; have e24 : (2 : Nat) ^ 24 = 16777216 := by decide
 have e1 : (BitVec.ofNat 32 b.toNat <<< k).toNat = b.toNat <<< k := by
   have m1 : b.toNat % 2 ^ 32 = b.toNat := Nat.mod_eq_of_lt (by omega); rw [BitVec.toNat_shiftLeft, BitVec.toNat_ofNat, m1, Nat.shiftLeft_eq, Nat.mod_eq_of_lt (by omega)]
 rw [BitVec.toNat_or, e1, Nat.or_comm, ← Nat.shiftLeft_add_eq_or_of_lt hx, Nat.shiftLeft_eq, Nat.add_comm]
theorem ylo (b : List UInt8) (i : Nat) : (w4 b i).toNat = (b.getD i 0).toNat + (b.getD (i + 1) 0).toNat * 256 + (b.getD (i + 2) 0).toNat * 65536 + (b.getD (i + 3) 0).toNat * 16777216 := by
 have h0 := (b.getD i 0).toNat_lt; have h1 := (b.getD (i + 1) 0).toNat_lt; have h2 := (b.getD (i + 2) 0).toNat_lt; have h3 := (b.getD (i + 3) 0).toNat_lt; have e0 : (BitVec.ofNat 32 (b.getD i 0).toNat).toNat = (b.getD i 0).toNat := (by rw [BitVec.toNat_ofNat, Nat.mod_eq_of_lt (by omega)]); unfold w4; have a1 := ynl (BitVec.ofNat 32 (b.getD i 0).toNat) (b.getD (i + 1) 0) 8 (by rw [e0]; omega) (by omega); have a2 := ynl (BitVec.ofNat 32 (b.getD i 0).toNat ||| (BitVec.ofNat 32 (b.getD (i + 1) 0).toNat <<< 8)) (b.getD (i + 2) 0) 16 (by rw [a1, e0]; omega) (by omega); have a3 := ynl (BitVec.ofNat 32 (b.getD i 0).toNat ||| (BitVec.ofNat 32 (b.getD (i + 1) 0).toNat <<< 8) ||| (BitVec.ofNat 32 (b.getD (i + 2) 0).toNat <<< 16)) (b.getD (i + 3) 0) 24 (by rw [a2, a1, e0]; omega) (by omega); rw [a3, a2, a1, e0]
theorem yoM (b0 b1 b2 b3 : UInt8) (r : BitVec 32) (h : r.toNat = b0.toNat + b1.toNat * 256 + b2.toNat * 65536 + b3.toNat * 16777216) : ybR r = [b0, b1, b2, b3] := by
 have h0 := b0.toNat_lt; have h1 := b1.toNat_lt; have h2 := b2.toNat_lt; have h3 := b3.toNat_lt; unfold ybR; rw [yp4, yp4, yp4, h]
 congr 1
 · apply UInt8.toNat_inj.1; rw [UInt8.toNat_ofNat']; omega
 congr 1
 · apply UInt8.toNat_inj.1; rw [UInt8.toNat_ofNat']; omega
 congr 1
 · apply UInt8.toNat_inj.1; rw [UInt8.toNat_ofNat']; omega
 congr 1
 · apply UInt8.toNat_inj.1; rw [UInt8.toNat_ofNat']; omega
theorem yoh {b : List UInt8} {i : Nat} (h : i + 4 ≤ b.length) : ybR (w4 b i) = (b.drop i).take 4 := by
 rw [yoM _ _ _ _ _ (ylo b i)]; apply List.ext_getElem
 · simp; omega
 · intro j h1 h2; simp at h1; rw [List.getElem_take, List.getElem_drop]
   match j, h1 with
   | 0, _ => simp [gA6, List.getElem?_eq_getElem (show i < b.length by omega)]
   | 1, _ => simp [gA6, List.getElem?_eq_getElem (show i + 1 < b.length by omega)]
   | 2, _ => simp [gA6, List.getElem?_eq_getElem (show i + 2 < b.length by omega)]
   | 3, _ => simp [gA6, List.getElem?_eq_getElem (show i + 3 < b.length by omega)]
theorem w4_of {b : List UInt8} {i : Nat} {r : BitVec 32} (h : (b.drop i).take 4 = ybR r) : w4 b i = r := by
 have hl : i + 4 ≤ b.length := by
   have := congrArg List.length h; rw [List.length_take, List.length_drop, yba] at this; omega
 have hg : ∀ j (hj : j < 4), b.getD (i + j) 0 = (ybR r)[j]'(by rw [yba]; exact hj) := fun j hj => by
   have : (ybR r)[j]? = ((b.drop i).take 4)[j]? := (by rw [h]); rw [List.getElem?_take_of_lt hj, List.getElem?_drop, List.getElem?_eq_getElem (by rw [yba]; exact hj)] at this; rw [gA6, ← this]; rfl
 apply BitVec.eq_of_toNat_eq; rw [ylo]; have g0 := hg 0 (by omega); have g1 := hg 1 (by omega); have g2 := hg 2 (by omega); have g3 := hg 3 (by omega); rw [Nat.add_zero] at g0; rw [g0, g1, g2, g3]; have hr := r.isLt; simp only [ybR, List.getElem_cons_zero, List.getElem_cons_succ, UInt8.toNat_ofNat', yp4]; omega
theorem ymH {r s : BitVec 32} (h : ybR r = ybR s) : r = s := by
 have h1 : w4 (ybR r) 0 = r := w4_of (by rfl); have h2 : w4 (ybR s) 0 = s := w4_of (by rfl); rw [← h1, ← h2, h]
theorem yqg (n : Int) : IntKind.u32.wrap n = (((BitVec.ofInt 32 n).toNat : Nat) : Int) := by
 rw [BitVec.toNat_ofInt]; unfold IntKind.wrap; simp [IntKind.bits, IntKind.signed, IntKind.max, IntKind.min]; omega
theorem ypB (n : Int) : ycH Tryz.prog 3 108 (.int .i64 n) = some (.int .u32 (((BitVec.ofInt 32 n).toNat : Nat) : Int)) := by
 simp only [ycH, T3, pTU, yqg]
theorem conv8 (r : BitVec 32) : ycH Tryz.prog 108 5 (.int .u32 ((r.toNat : Nat) : Int)) = some (yal (UInt8.ofNat r.toNat)) := by
 have h : IntKind.u8.wrap ((r.toNat : Nat) : Int) = (((UInt8.ofNat r.toNat).toNat : Nat) : Int) := by
   rw [UInt8.toNat_ofNat']; unfold IntKind.wrap; simp [IntKind.bits, IntKind.signed, IntKind.max, IntKind.min]
 simp only [ycH, pTU, T5, h, yal]
theorem shr8 (r : BitVec 32) : (((r.toNat : Nat) : Int) / (2 : Int) ^ (min (8 : Int).toNat IntKind.u32.bits)) = (((r >>> 8).toNat : Nat) : Int) := by
 have e : (2 : Int) ^ (min (8 : Int).toNat IntKind.u32.bits) = ((256 : Nat) : Int) := (by decide); rw [e, yp4]; omega
theorem shr16 (r : BitVec 32) : (((r.toNat : Nat) : Int) / (2 : Int) ^ (min (16 : Int).toNat IntKind.u32.bits)) = (((r >>> 16).toNat : Nat) : Int) := by
 have e : (2 : Int) ^ (min (16 : Int).toNat IntKind.u32.bits) = ((65536 : Nat) : Int) := (by decide); rw [e, yp4]; omega
theorem shr24 (r : BitVec 32) : (((r.toNat : Nat) : Int) / (2 : Int) ^ (min (24 : Int).toNat IntKind.u32.bits)) = (((r >>> 24).toNat : Nat) : Int) := by
 have e : (2 : Int) ^ (min (24 : Int).toNat IntKind.u32.bits) = ((16777216 : Nat) : Int) := (by decide); rw [e, yp4]; omega
theorem build4 (a b c d : UInt8) : yas Tryz.prog 30 4 [(0, yal a), (1, yal b), (2, yal c), (3, yal d)] = some (.slice .exact 1 ([a, b, c, d].map yal) 4) := by
 have e : List.range 4 = [0, 1, 2, 3] := (by decide); simp [yas, T22, S5, BT.z, yah, yc8, yau, ybq, yal, e]
theorem yo3 (r : BitVec 32) : BtsV (.slice .exact 1 ((ybR r).map yal) 4) (ybR r) := .inr ⟨.exact, rfl⟩
theorem yoL {σ : St} {m : Nat} (r : BitVec 32) : OwnV 5 m σ (.slice .exact 1 ((ybR r).map yal) 4) (ybR r) := .inr ⟨.exact, rfl, .inl rfl⟩
theorem yjV (r : BitVec 32) (k : Nat) (hk : k ≤ 24) (hr : r.toNat < 256) : IntKind.u32.wrap (((r.toNat : Nat) : Int) * (2 : Int) ^ k) = (((r <<< k).toNat : Nat) : Int) := by
 have h2 : 2 ^ k ≤ 2 ^ 24 := Nat.pow_le_pow_right (by decide) hk; have h3 : r.toNat * 2 ^ k ≤ 255 * 2 ^ 24 := Nat.mul_le_mul (by omega) h2; have e24 : (2 : Nat) ^ 24 = 16777216 := by decide
 have e : (((r.toNat : Nat) : Int) * (2 : Int) ^ k) = ((r.toNat * 2 ^ k : Nat) : Int) := by
   rw [Int.natCast_mul, Int.natCast_pow]; rfl
 rw [e, yhW (by omega) (by omega), BitVec.toNat_shiftLeft, Nat.shiftLeft_eq, Nat.mod_eq_of_lt (by omega)]
theorem yjY (b : UInt8) : (BitVec.ofNat 32 b.toNat).toNat < 256 := by
 have := b.toNat_lt; rw [BitVec.toNat_ofNat, Nat.mod_eq_of_lt (by omega)]; omega
theorem shl8 (b : UInt8) : IntKind.u32.wrap ((((BitVec.ofNat 32 b.toNat).toNat : Nat) : Int) * (2 : Int) ^ (min (8 : Int).toNat IntKind.u32.bits)) = (((BitVec.ofNat 32 b.toNat <<< 8).toNat : Nat) : Int) := yjV _ 8 (by omega) (yjY b)
theorem shl16 (b : UInt8) : IntKind.u32.wrap ((((BitVec.ofNat 32 b.toNat).toNat : Nat) : Int) * (2 : Int) ^ (min (16 : Int).toNat IntKind.u32.bits)) = (((BitVec.ofNat 32 b.toNat <<< 16).toNat : Nat) : Int) := yjV _ 16 (by omega) (yjY b)
theorem shl24 (b : UInt8) : IntKind.u32.wrap ((((BitVec.ofNat 32 b.toNat).toNat : Nat) : Int) * (2 : Int) ^ (min (24 : Int).toNat IntKind.u32.bits)) = (((BitVec.ofNat 32 b.toNat <<< 24).toNat : Nat) : Int) := yjV _ 24 (by omega) (yjY b)
theorem yns (b : UInt8) : ycH Tryz.prog 5 108 (.int .u8 ((b.toNat : Nat) : Int)) = some (.int .u32 (((BitVec.ofNat 32 b.toNat).toNat : Nat) : Int)) := by
 simp only [ycH, pT5, pTU, yok]
theorem BtsV.at' {v : V} {bs : List UInt8} (h : BtsV v bs) {i : Nat} (hi : i < bs.length) : yai Tryz.prog 30 v (.int .i64 (i : Int)) = some (.eptr (bs.map yal) i) := by
 have := h.addr T22 S5 (k := .i64) (n := (i : Int)) (by omega) (by omega)
 rwa [Int.toNat_natCast] at this
theorem yn4 {bs : List UInt8} {i : Nat} (hi : i < bs.length) {objs : List Ob} : yad Tryz.prog objs 5 (.eptr (bs.map yal) i) = some (.int .u8 ((bs.getD i 0).toNat : Nat)) := by
 rw [gA6, List.getElem?_eq_getElem hi]; exact BtsV.load (P := Tryz.prog) G5 hi
theorem yoG (a b : BitVec 32) : (((a.toNat : Nat) : Int) = ((b.toNat : Nat) : Int)) ↔ a = b := ⟨fun h => BitVec.eq_of_toNat_eq (by omega), fun h => by rw [h]⟩
theorem ynF (b : UInt8) : ycH Tryz.prog 5 3 (.int .u8 ((b.toNat : Nat) : Int)) = some (.int .i64 ((b.toNat : Nat) : Int)) := by
 have := b.toNat_lt; simp only [ycH, T5, T3]; rw [yae (by omega) (by omega)]
theorem rsize (p q r t : UInt8) : IntKind.i64.wrap (((q.toNat : Nat) : Int) * 256) = ((q.toNat * 256 : Nat) : Int) ∧ IntKind.i64.wrap (((r.toNat : Nat) : Int) * 65536) = ((r.toNat * 65536 : Nat) : Int) ∧ IntKind.i64.wrap (((t.toNat : Nat) : Int) * 16777216) = ((t.toNat * 16777216 : Nat) : Int) ∧
   IntKind.i64.wrap (((p.toNat : Nat) : Int) + ((q.toNat * 256 : Nat) : Int)) = ((p.toNat + q.toNat * 256 : Nat) : Int) ∧ IntKind.i64.wrap (((p.toNat + q.toNat * 256 : Nat) : Int) + ((r.toNat * 65536 : Nat) : Int)) = ((p.toNat + q.toNat * 256 + r.toNat * 65536 : Nat) : Int) ∧
   IntKind.i64.wrap (((p.toNat + q.toNat * 256 + r.toNat * 65536 : Nat) : Int) + ((t.toNat * 16777216 : Nat) : Int)) = ((p.toNat + q.toNat * 256 + r.toNat * 65536 + t.toNat * 16777216 : Nat) : Int) := by
 have h0 := p.toNat_lt; have h1 := q.toNat_lt; have h2 := r.toNat_lt; have h3 := t.toNat_lt; refine ⟨?_, ?_, ?_, ?_, ?_, ?_⟩
 · rw [yae (by omega) (by omega)]; omega
 · rw [yae (by omega) (by omega)]; omega
 · rw [yae (by omega) (by omega)]; omega
 · rw [yae (by omega) (by omega)]; omega
 · rw [yae (by omega) (by omega)]; omega
 · rw [yae (by omega) (by omega)]; omega
theorem sbN {a b : List UInt8} : yc6 .neq a b = some (.bool (!decide (a = b))) := rfl
theorem sbE {a b : List UInt8} : yc6 .eql a b = some (.bool (decide (a = b))) := rfl
theorem TFS : Tryz.prog.underlying 46 = some (.slice 81) := by kernel_rfl
theorem GFi : ybc Tryz.prog 81 = some true := by kernel_rfl
theorem SFi : yaQ Tryz.prog 81 = some 3 := by kernel_rfl
theorem GFS : ybc Tryz.prog 46 = some false := by kernel_rfl
theorem SFS : yaQ Tryz.prog 46 = some 1 := by kernel_rfl
theorem ZFi : ybl Tryz.prog 81 = some (.agg [.str [], .nils, .nils]) := by kernel_rfl
theorem bFi : (Tryz.prog.info? 81).map (·.bytes) = some 64 := by kernel_rfl
theorem rFA : ∀ (r k : Nat) (hk : k < 6), yan Tryz.prog 48 (.optr r 0) k = some (.optr r k)
 | r, 0, _ => by kernel_rfl
 | r, 1, _ => by kernel_rfl
 | r, 2, _ => by kernel_rfl
 | r, 3, _ => by kernel_rfl
 | r, 4, _ => by kernel_rfl
 | r, 5, _ => by kernel_rfl
theorem ynQ (r o : Nat) : yan Tryz.prog 81 (.optr r o) 0 = some (.optr r o) := by kernel_rfl
theorem ykO (r o : Nat) : yan Tryz.prog 81 (.optr r o) 1 = some (.optr r (o + 1)) := by kernel_rfl
theorem yjW (r o : Nat) : yan Tryz.prog 81 (.optr r o) 2 = some (.optr r (o + 2)) := by kernel_rfl
theorem yg7 : ∀ a b : List UInt8, yb3 a b = decide (a < b)
 | a, [] => by simp [yb3]
 | [], _ :: _ => by simp [yb3]
 | a :: x, b :: y => by
   rw [yb3, yg7 x y]; simp only [List.cons_lt_cons_iff]; rw [Bool.eq_iff_iff]; simp
theorem sbL {a b : List UInt8} : yc6 .lss a b = some (.bool (decide (a < b))) := by rw [← yg7]; rfl
structure RE where
 f : Fl
 s : V
 w : V
def RE.cells (x : RE) : List V := [.str x.f.name, x.s, x.w]
def RE.Ok (x : RE) : Prop := BtsV x.s x.f.safe ∧ BtsV x.w x.f.wait
def ybt (rs : List RE) : List V := rs.flatMap RE.cells
theorem RE.cells_len (x : RE) : x.cells.length = 3 := rfl
theorem yb4 (rs : List RE) : (ybt rs).length = rs.length * 3 := ydZ RE.cells_len rs
theorem RE.one {x : RE} (h : x.Ok) : x.cells.all one = true := by
 simp only [RE.cells, List.all_cons, List.all_nil, h.1.one, h.2.one, Bool.and_true, Bool.and_self]; rfl
def RRow (objs : List Ob) (fv : V) (q : Option Nat) (rs : List RE) : Prop := (fv = .nils ∧ q = none ∧ rs = []) ∨ ∃ ro, fv = .hslice ro 0 3 rs.length ∧ q = some ro ∧ objs[ro]? = some (.cells (ybt rs))
theorem RRow.len {objs : List Ob} {fv : V} {q : Option Nat} {rs : List RE} (h : RRow objs fv q rs) : ydn Tryz.prog 46 fv = some (.int .i64 (rs.length : Nat)) := by
 rcases h with ⟨rfl, rfl, rfl⟩ | ⟨ro, rfl, _⟩ <;> simp [ydn, TFS]
theorem RRow.keep {σ σ' : St} {fv : V} {q : Option Nat} {rs : List RE} {S : List Nat} (h : RRow σ.objs fv q rs) (hk : KS S σ σ') (hs : ∀ x ∈ q.toList, x ∉ S) : RRow σ'.objs fv q rs := by
 rcases h with h | ⟨ro, h1, h2, h3⟩
 · exact .inl h
 · exact .inr ⟨ro, h1, h2, hk.ko _ _ (hs ro (by simp [h2])) h3⟩
theorem RRow.lt {objs : List Ob} {fv : V} {q : Option Nat} {rs : List RE} (h : RRow objs fv q rs) : ∀ x ∈ q.toList, x < objs.length := by
 rcases h with ⟨_, rfl, _⟩ | ⟨ro, _, rfl, h3⟩
 · intro x hx; cases hx
 · intro x hx; simp at hx; subst hx; exact (gA0.1 h3).1
theorem RRow.one {objs : List Ob} {fv : V} {q : Option Nat} {rs : List RE} (h : RRow objs fv q rs) : one fv = true := by
 rcases h with ⟨rfl, _⟩ | ⟨ro, rfl, _⟩ <;> rfl
theorem RRow.at {objs : List Ob} {fv : V} {q : Option Nat} {rs : List RE} (h : RRow objs fv q rs) {i : Nat} (hi : i < rs.length) : ∃ ro, q = some ro ∧ objs[ro]? = some (.cells (ybt rs)) ∧ yai Tryz.prog 46 fv (.int .i64 (i : Int)) = some (.optr ro (i * 3)) ∧ yad Tryz.prog objs 81 (.optr ro (i * 3)) = some (.agg rs[i].cells) := by
 rcases h with ⟨_, _, rfl⟩ | ⟨ro, rfl, rfl, h3⟩
 · simp at hi
 · have hi' : (i : Int) < rs.length := (by omega); refine ⟨ro, rfl, h3, by simp [yai, TFS, SFi, hi'], ?_⟩; rw [yn3 h3 GFi SFi (by rw [yb4]; omega)]; unfold ybt; rw [yge RE.cells_len hi]
theorem RRow.push {σ : St} {fv : V} {q : Option Nat} {rs : List RE} (h : RRow σ.objs fv q rs) (hok : ∀ x ∈ rs, x.Ok) {x : RE} (hx : x.Ok) (hl : rs.length ≤ 1000000) :
   ∃ y s1 fv' q' s2, yce Tryz.prog σ 46 1 [(0, .agg x.cells)] = some (y, s1) ∧ yaK Tryz.prog s1 46 46 fv y = some (fv', s2) ∧ RRow s2.objs fv' q' (rs ++ [x]) ∧ KS q.toList σ s2 ∧ ∀ z ∈ q'.toList, σ.objs.length ≤ z := by
 have hone := RE.one hx; have hz : yah (V.agg [.str [], .nils, .nils]) = [.str [], .nils, .nils] := rfl; have hc : yah (V.agg x.cells) = x.cells := rfl; have e3 : List.range 3 = [0, 1, 2] := by decide
 have hb0 : ∀ a b c : V, [a, b, c].all Q.one = true → yce Tryz.prog σ 46 1 [(0, .agg [a, b, c])] = some (.hslice σ.objs.length 0 3 1, ⟨σ.objs ++ [.cells [a, b, c]], σ.toks⟩) := by
   intro a b c h; have hc : yah (V.agg [a, b, c]) = [a, b, c] := rfl; simp only [List.all_cons, List.all_nil, Bool.and_true, Bool.and_eq_true] at h; simp [yce, TFS, SFi, ZFi, hz, yau, yc8, e3, hc, ybq, h.1, h.2.1, h.2.2]
 have hb : yce Tryz.prog σ 46 1 [(0, .agg x.cells)] = some (.hslice σ.objs.length 0 3 1, ⟨σ.objs ++ [.cells x.cells], σ.toks⟩) := hb0 _ _ _ hone; obtain ⟨s1, hs1⟩ : ∃ s1 : St, s1 = ⟨σ.objs ++ [.cells x.cells], σ.toks⟩ := ⟨_, rfl⟩; rw [← hs1] at hb; have K1 : KS [] σ s1 := (by rw [hs1]; exact KS.push _ _ _); have h1 : RRow s1.objs fv q rs := h.keep K1 fun x _ => by simp
 have hy : s1.objs[σ.objs.length]? = some (.cells x.cells) := (by rw [hs1]; exact yap _ _); have L1 : s1.objs.length = σ.objs.length + 1 := by rw [hs1]; simp
 have hn : ybu Tryz.prog s1.objs 46 (.hslice σ.objs.length 0 3 1) 3 = some (x.cells, 1) := by
   have : List.take 3 x.cells = x.cells := (by simp [RE.cells]); simp [ybu, ycP, TFS, hy, RE.cells_len, this]
 have hxl : x.cells.length = 3 := rfl; rcases h1 with ⟨rfl, rfl, rfl⟩ | ⟨ro, rfl, rfl, h3⟩
 · refine ⟨_, s1, .hslice s1.objs.length 0 3 1, some s1.objs.length, ⟨s1.objs ++ [.cells x.cells], s1.toks⟩, hb, ?_, .inr ⟨_, rfl, rfl, ?_⟩, K1.trans (KS.push [] s1 _) fun x hx => .inl hx, fun z hz => ?_⟩
   · simp [yaK, TFS, bFi, SFi, ZFi, hz, hn]
   · have := yap s1.objs (.cells x.cells); simp only [List.nil_append, ybt, List.flatMap_cons, List.flatMap_nil, List.append_nil]; exact this
   · simp at hz; omega
 · refine ⟨_, s1, .hslice s1.objs.length 0 3 (rs.length + 1), some s1.objs.length, ⟨s1.objs.set ro .dead ++ [.cells (ybt rs ++ x.cells)], s1.toks⟩, hb, ?_, .inr ⟨_, by simp, rfl, ?_⟩, ?_, fun z hz => ?_⟩
   · have h4 : List.take (rs.length * 3) (ybt rs) = ybt rs := List.take_of_length_le (by rw [yb4]; omega); have h5 : rs.length + 1 ≤ 140737488355328 := (by omega); have h6 : (rs.length + 1) * 64 ≤ 140737488355328 := (by omega); have h7 := yb4 rs; simp [yaK, TFS, bFi, SFi, ZFi, hz, hn, h3, h4, h5, h6, h7, hone]
   · have := yap (s1.objs.set ro .dead) (.cells (ybt rs ++ x.cells)); rw [List.length_set] at this; simp only [ybt, List.flatMap_append, List.flatMap_cons, List.flatMap_nil, List.append_nil] at this ⊢; exact this
   · refine (K1.mono fun x hx => by cases hx).trans' ⟨fun p o hp ho => ?_, by simp, Nat.le_refl _, fun _ h => h⟩; have hpl := (gA0.1 ho).1; simp only; rw [gA2 (by rw [List.length_set]; exact hpl), gA3 (fun e => hp (by simp [e]))]; exact ho
   · simp at hz; omega
theorem ydd {σ : St} {x : RE} (hx : x.Ok) : yak Tryz.prog ⟨σ.objs ++ [.cells [.str [], .nils, .nils]], σ.toks⟩ 81 (.optr σ.objs.length 0) (.agg x.cells) = some ⟨σ.objs ++ [.cells x.cells], σ.toks⟩ := by
 rw [ycY (cs := [.str [], .nils, .nils]) (cs' := x.cells) (yap _ _) (by rw [SFi]; rfl) rfl (RE.one hx)]; simp
structure RefAt (σ : St) (r : Nat) (d : Dk) (q : Option Nat) (rs : List RE) : Prop where
 hd : ∃ fv, σ.objs[r]? = some (.cells [fv, .int .i64 d.room, .bool d.on, .int .i64 (d.writes : Nat), .int .i64 (d.armed : Nat), .int .i64 d.keep]) ∧ RRow σ.objs fv q rs
 ok : ∀ x ∈ rs, x.Ok
 fl : rs.map RE.f = d.files
 ne : r ∉ q.toList
theorem RefAt.keep {σ σ' : St} {r : Nat} {d : Dk} {q : Option Nat} {rs : List RE} {S : List Nat} (h : RefAt σ r d q rs) (hk : KS S σ σ') (hs : ∀ x ∈ r :: q.toList, x ∉ S) : RefAt σ' r d q rs := by
 obtain ⟨⟨fv, h1, h2⟩, h3, h4, h5⟩ := h; exact ⟨⟨fv, hk.ko _ _ (hs r (by simp)) h1, h2.keep hk fun x hx => hs x (List.mem_cons_of_mem _ hx)⟩, h3, h4, h5⟩
theorem RefAt.lt {σ : St} {r : Nat} {d : Dk} {q : Option Nat} {rs : List RE} (h : RefAt σ r d q rs) : ∀ x ∈ r :: q.toList, x < σ.objs.length := by
 obtain ⟨⟨fv, h1, h2⟩, _⟩ := h; intro x hx; rcases List.mem_cons.1 hx with rfl | hx
 · exact (gA0.1 h1).1
 · exact h2.lt x hx
def RNext (σ : St) (r : Nat) (q : Option Nat) (σ' : St) (d' : Dk) : Prop := ∃ q' rs', RefAt σ' r d' q' rs' ∧ KS (r :: q.toList) σ σ' ∧ ∀ x ∈ r :: q'.toList, x ∈ r :: q.toList ∨ σ.objs.length ≤ x
theorem RNext.refl {σ : St} {r : Nat} {d : Dk} {q : Option Nat} {rs : List RE} (h : RefAt σ r d q rs) : RNext σ r q σ d := ⟨q, rs, h, KS.refl _ _, fun x hx => .inl hx⟩
theorem RNext.trans {σ σ1 σ2 : St} {r : Nat} {d : Dk} {q q1 : Option Nat} (hk : KS (r :: q.toList) σ σ1) (hs : ∀ x ∈ r :: q1.toList, x ∈ r :: q.toList ∨ σ.objs.length ≤ x) (h : RNext σ1 r q1 σ2 d) : RNext σ r q σ2 d := by
 obtain ⟨q', rs', h1, h2, h3⟩ := h; refine ⟨q', rs', h1, hk.trans h2 hs, fun x hx => ?_⟩; have := hk.le; rcases h3 x hx with h | h
 · exact hs x h
 · exact .inr (by omega)
theorem RNext.only {σ σ1 : St} {r : Nat} {d : Dk} {q : Option Nat} {rs : List RE} (h : RefAt σ r d q rs) (hk : KS [] σ σ1) : RNext σ r q σ1 d := ⟨q, rs, h.keep hk fun x _ => by simp, hk.mono (fun x hx => by cases hx), fun x hx => .inl hx⟩
theorem RefAt.head {σ : St} {r : Nat} {d d2 : Dk} {q : Option Nat} {rs : List RE} (h : RefAt σ r d q rs) (hf : d2.files = d.files) {fv : V} (hv : RRow σ.objs fv q rs) {σ' : St} (hs : σ' = ⟨σ.objs.set r (.cells [fv, .int .i64 d2.room, .bool d2.on, .int .i64 (d2.writes : Nat), .int .i64 (d2.armed : Nat), .int .i64 d2.keep]), σ.toks⟩) : RefAt σ' r d2 q rs ∧ KS (r :: q.toList) σ σ' := by
 have hrl := h.lt r (by simp); have hne := h.ne; have K : KS [r] σ σ' := (by rw [hs]; exact KS.set (.inl (by simp)) _); refine ⟨⟨⟨fv, by rw [hs]; simp only; rw [gA5 hrl], hv.keep K fun x hx hx2 => ?_⟩, h.ok, by rw [hf]; exact h.fl, h.ne⟩, K.mono fun x hx => .inl (by rw [List.mem_singleton] at hx; subst hx; simp)⟩; rw [List.mem_singleton] at hx2; subst hx2; exact hne hx
theorem ycC {σ : St} {r : Nat} {d : Dk} {q : Option Nat} {rs : List RE} (h : RefAt σ r d q rs) (n : List UInt8) : Does Tryz.prog prims 41 [.optr r 0, .str n] σ (.ret (.int .i64 (yaw d n : Nat))) σ := by
 apply k41_is.ret (by simp); obtain ⟨fv, h1, h2⟩ := h.hd; have lo : yad Tryz.prog σ.objs 4 (.optr r 2) = some (.bool d.on) := (by rw [yab h1 G4]; rfl); have e : ydn Tryz.prog 9 (.str n) = some (.int .i64 (n.length : Nat)) := (by simp [ydn, T9]); by_cases a1 : n.length < 1
 · have a1' : (n.length : Int) < 1 := (by omega); have hn : ybZ n = false := (by simp [ybZ]; omega); simp only [k41_a, WKV, Nat.reduceLT, Nat.reduceEqDiff, ↓reduceIte, reduceCtorEq, Nat.reduceAdd, Int.reduceLT, Int.reduceNeg, yac, gD0, gD1, e, a1', decide_true]; simp [yaw, hn]
 · have a1' : ¬ (n.length : Int) < 1 := (by omega); by_cases a2 : 16 < n.length
   · have a2' : (16 : Int) < (n.length : Int) := (by omega); have hn : ybZ n = false := (by simp [ybZ]; omega); simp only [k41_a, WKV, Nat.reduceLT, Nat.reduceEqDiff, ↓reduceIte, reduceCtorEq, Nat.reduceAdd, Int.reduceLT, Int.reduceNeg, yac, gD0, gD1, e, a1', a2', decide_true, decide_false]; simp [yaw, hn]
   · have a2' : ¬ (16 : Int) < (n.length : Int) := (by omega); have hn : ybZ n = true := (by simp [ybZ]; omega); simp only [k41_a, WKV, Nat.reduceLT, Nat.reduceEqDiff, ↓reduceIte, reduceCtorEq, Nat.reduceAdd, Int.reduceLT, Int.reduceNeg, yac, gD0, gD1, e, a1', a2', decide_false, rFA r 2 (by omega), lo]
     cases ho : d.on <;> simp [k41_a, WKV, Nat.reduceLT, Nat.reduceEqDiff, ↓reduceIte, reduceCtorEq, Nat.reduceAdd, Int.reduceLT, Int.reduceNeg, yac, yaw, hn, ho]
theorem ye2 {σ : St} {r : Nat} {d : Dk} {q : Option Nat} {rs : List RE} (h : RefAt σ r d q rs) (hfew : rs.length ≤ 1000000) (n : List UInt8) :
   ∃ p σ', Does Tryz.prog prims 42 [.optr r 0, .str n] σ p σ' ∧ KS [] σ σ' ∧ ((p = .ret (.int .i64 (-1)) ∧ ∀ x ∈ rs, x.f.name ≠ n) ∨ ∃ i, ∃ hi : i < rs.length, p = .ret (.int .i64 (i : Nat)) ∧ rs[i].f.name = n) := by
 apply k42_is.does (by simp); obtain ⟨fv, h1, h2⟩ := h.hd; have lf : yad Tryz.prog σ.objs 46 (.optr r 0) = some fv := (by rw [yab h1 GFS]; rfl); simp only [k42_a, WKV, Nat.reduceLT, Nat.reduceEqDiff, ↓reduceIte, reduceCtorEq, Nat.reduceAdd, Int.reduceLT, Int.reduceNeg, yac, gD0, gD1, rFA r 0 (by omega), lf, h2.len]; refine Ev.loopF (fun (i : Nat) e s => e 12 = .int .i64 (i : Nat) ∧ i ≤ rs.length ∧ KS [] σ s ∧ ∀ x ∈ rs.take i, x.f.name ≠ n) (fun i => rs.length - i) 0 ⟨by simp [yaa], Nat.zero_le _, KS.refl _ _, by simp⟩ ?_; rintro i e s ⟨h12, hi, hk, hno⟩ hf; have h1' : e 1 = .str n := (hf 1 (by decide)).trans (by simp [yaa]); have h9 : e 10 = fv := (hf 10 (by decide)).trans (by simp [yaa]); have h10 : e 11 = .int .i64 (rs.length : Nat) := (hf 11 (by decide)).trans (by simp [yaa]); clear hf; by_cases hlt : i < rs.length
 · have hlt' : (i : Int) < rs.length := (by omega); have hwi : IntKind.i64.wrap ((i : Int) + 1) = ((i + 1 : Nat) : Int) := (by rw [show ((i : Int) + 1) = ((i + 1 : Nat) : Int) from by omega]; exact ya8 (by omega)); obtain ⟨ro, _, _, ha, hl⟩ := (h2.keep hk fun x _ => by simp).at hlt; have hx := h.ok rs[i] (List.getElem_mem hlt); obtain ⟨s1, hs1⟩ : ∃ s1 : St, s1 = ⟨s.objs ++ [.cells rs[i].cells], s.toks⟩ := ⟨_, rfl⟩; have hst := ydd (σ := s) hx; rw [← hs1] at hst; have K1 : KS [] s s1 := (by rw [hs1]; exact KS.push _ _ _); have ho : s1.objs[s.objs.length]? = some (.cells rs[i].cells) := (by rw [hs1]; exact yap _ _); have hln : yad Tryz.prog s1.objs 9 (.optr s.objs.length 0) = some (.str rs[i].f.name) := (by rw [yab ho G9]; rfl); have hz : yah (V.agg [.str [], .nils, .nils]) = [.str [], .nils, .nils] := rfl; by_cases he : rs[i].f.name = n
   · simp only [k42_a, WKV, Nat.reduceLT, Nat.reduceEqDiff, ↓reduceIte, reduceCtorEq, Nat.reduceAdd, Int.reduceLT, Int.reduceNeg, yac, h12, h10, h9, h1', hlt', decide_true, ha, hl, ZFi, ycn, hz, hst, ynQ, hln, sbE, he, eq_self]; exact ⟨hk.trans' K1, .inr ⟨i, hlt, rfl, he⟩⟩
   · simp only [k42_a, WKV, Nat.reduceLT, Nat.reduceEqDiff, ↓reduceIte, reduceCtorEq, Nat.reduceAdd, Int.reduceLT, Int.reduceNeg, yac, h12, h10, h9, h1', hlt', decide_true, ha, hl, ZFi, ycn, hz, hst, ynQ, hln, sbE, he, decide_false, hwi]; refine ⟨i + 1, ⟨by simp [yaa], by omega, hk.trans' K1, fun x hx => ?_⟩, by omega⟩; rw [List.take_succ_eq_append_getElem hlt, List.mem_append, List.mem_singleton] at hx; rcases hx with hx | rfl
     · exact hno x hx
     · exact he
 · have hlt' : ¬ (i : Int) < rs.length := (by omega); have hall : rs.take i = rs := List.take_of_length_le (by omega); rw [hall] at hno; simp only [k42_a, WKV, Nat.reduceLT, Nat.reduceEqDiff, ↓reduceIte, reduceCtorEq, Nat.reduceAdd, Int.reduceLT, Int.reduceNeg, yac, h12, h10, hlt', decide_false]; exact ⟨hk, .inl hno⟩
theorem yl0 {σ : St} {r : Nat} {d : Dk} {q : Option Nat} {rs : List RE} (h : RefAt σ r d q rs) (hok : d.Ok) :
   ∃ p σ', Does Tryz.prog prims 43 [.optr r 0] σ p σ' ∧ (p = .ret (.int .i64 (ydC d.files : Nat)) ∧ KS [] σ σ') := by
 apply k43_is.does (by simp); obtain ⟨fv, h1, h2⟩ := h.hd; have lf : yad Tryz.prog σ.objs 46 (.optr r 0) = some fv := (by rw [yab h1 GFS]; rfl); have hsz : ydC d.files = (rs.map fun x => x.f.len).sum := (by rw [← h.fl, ydC, List.map_map]; rfl); have hfew : rs.length ≤ 16 := (by have := hok.few; rw [← h.fl, List.length_map] at this; exact this); have hmax := yfS hok
 have hpart : ∀ i, ((rs.take i).map fun x => x.f.len).sum ≤ (rs.map fun x => x.f.len).sum := by
   intro i; have := congrArg (fun l => (l.map fun x : RE => x.f.len).sum) (List.take_append_drop i rs); simp only [List.map_append, List.sum_append] at this; omega
 simp only [k43_a, WKV, Nat.reduceLT, Nat.reduceEqDiff, ↓reduceIte, reduceCtorEq, Nat.reduceAdd, Int.reduceLT, Int.reduceNeg, yac, gD0, gD1, rFA r 0 (by omega), lf, h2.len]; refine Ev.loopF (fun (i : Nat) e s => e 11 = .int .i64 (i : Nat) ∧ i ≤ rs.length ∧ KS [] σ s ∧ e 3 = .int .i64 (((rs.take i).map fun x => x.f.len).sum : Nat)) (fun i => rs.length - i) 0 ⟨by simp [yaa], Nat.zero_le _, KS.refl _ _, by simp [yaa]⟩ ?_; rintro i e s ⟨h12, hi, hk, h3⟩ hf; have h9 : e 9 = fv := (hf 9 (by decide)).trans (by simp [yaa]); have h10 : e 10 = .int .i64 (rs.length : Nat) := (hf 10 (by decide)).trans (by simp [yaa]); clear hf; by_cases hlt : i < rs.length
 · have hlt' : (i : Int) < rs.length := (by omega); have hwi : IntKind.i64.wrap ((i : Int) + 1) = ((i + 1 : Nat) : Int) := (by rw [show ((i : Int) + 1) = ((i + 1 : Nat) : Int) from by omega]; exact ya8 (by omega)); obtain ⟨ro, _, _, ha, hl⟩ := (h2.keep hk fun x _ => by simp).at hlt; have hx := h.ok rs[i] (List.getElem_mem hlt); obtain ⟨s1, hs1⟩ : ∃ s1 : St, s1 = ⟨s.objs ++ [.cells rs[i].cells], s.toks⟩ := ⟨_, rfl⟩; have hst := ydd (σ := s) hx; rw [← hs1] at hst; have K1 : KS [] s s1 := (by rw [hs1]; exact KS.push _ _ _); have ho : s1.objs[s.objs.length]? = some (.cells rs[i].cells) := (by rw [hs1]; exact yap _ _); have hl1 : yad Tryz.prog s1.objs 30 (.optr s.objs.length 1) = some rs[i].s := (by rw [yab ho pGB]; rfl); have hl2 : yad Tryz.prog s1.objs 30 (.optr s.objs.length 2) = some rs[i].w := (by rw [yab ho pGB]; rfl); have hz : yah (V.agg [.str [], .nils, .nils]) = [.str [], .nils, .nils] := rfl
   have hstep : ((rs.take (i + 1)).map fun x => x.f.len).sum = ((rs.take i).map fun x => x.f.len).sum + rs[i].f.safe.length + rs[i].f.wait.length := by
     rw [List.take_succ_eq_append_getElem hlt, List.map_append, List.sum_append]; simp only [List.map_cons, List.map_nil, List.sum_cons, List.sum_nil, Fl.len]; omega
   have hle := hpart (i + 1); have w1 : IntKind.i64.wrap ((((rs.take i).map fun x => x.f.len).sum : Nat) + (rs[i].f.safe.length : Nat) : Int) = ((((rs.take i).map fun x => x.f.len).sum + rs[i].f.safe.length : Nat) : Int) := (by rw [yae (by omega) (by omega)]; omega); have w2 : IntKind.i64.wrap (((((rs.take i).map fun x => x.f.len).sum + rs[i].f.safe.length : Nat) : Int) + (rs[i].f.wait.length : Nat)) = ((((rs.take (i + 1)).map fun x => x.f.len).sum : Nat) : Int) := (by rw [hstep, yae (by omega) (by omega)]; omega); simp only [k43_a, WKV, Nat.reduceLT, Nat.reduceEqDiff, ↓reduceIte, reduceCtorEq, Nat.reduceAdd, Int.reduceLT, Int.reduceNeg, yac, h12, h10, h9, h3, hlt', decide_true, ha, hl, ZFi, ycn, hz, hst, ykO, yjW, Nat.zero_add, hl1, hl2, hx.1.len T22, hx.2.len T22, w1, w2, hwi]; exact ⟨i + 1, ⟨by simp [yaa], by omega, hk.trans' K1, by simp [yaa]⟩, by omega⟩
 · have hlt' : ¬ (i : Int) < rs.length := (by omega); have hall : rs.take i = rs := List.take_of_length_le (by omega); rw [hall, ← hsz] at h3; simp only [k43_a, WKV, Nat.reduceLT, Nat.reduceEqDiff, ↓reduceIte, reduceCtorEq, Nat.reduceAdd, Int.reduceLT, Int.reduceNeg, yac, h12, h10, h3, hlt', decide_false]; exact hk
theorem ynq {σ : St} {r : Nat} {d : Dk} {q : Option Nat} {rs : List RE} (h : RefAt σ r d q rs) (hok : d.Ok) (hw : d.writes < 4611686018427387904) :
   ∃ σ', Does Tryz.prog prims 45 [.optr r 0] σ (.ret (.bool (ybj d).1)) σ' ∧ RefAt σ' r (ybj d).2 q rs ∧ KS (r :: q.toList) σ σ' := by
 have key : ∃ p σ', Does Tryz.prog prims 45 [.optr r 0] σ p σ' ∧ (p = .ret (.bool (ybj d).1) ∧ RefAt σ' r (ybj d).2 q rs ∧ KS (r :: q.toList) σ σ') := by
   apply k45_is.does (by simp); obtain ⟨fv, h1, h2⟩ := h.hd; have hww : IntKind.i64.wrap ((d.writes : Int) + 1) = ((d.writes + 1 : Nat) : Int) := (by rw [show (d.writes : Int) + 1 = ((d.writes + 1 : Nat) : Int) by omega]; exact ya8 (by omega)); have l1 : yad Tryz.prog σ.objs 3 (.optr r 3) = some (.int .i64 (d.writes : Nat)) := (by rw [yab h1 G3]; rfl); obtain ⟨d1, hd1⟩ : ∃ d1 : Dk, d1 = { d with writes := d.writes + 1 } := ⟨_, rfl⟩; obtain ⟨s1, hs1⟩ : ∃ s1 : St, s1 = ⟨σ.objs.set r (.cells [fv, .int .i64 d1.room, .bool d1.on, .int .i64 (d1.writes : Nat), .int .i64 (d1.armed : Nat), .int .i64 d1.keep]), σ.toks⟩ := ⟨_, rfl⟩; have st1 : yak Tryz.prog σ 3 (.optr r 3) (.int .i64 ((d.writes + 1 : Nat) : Int)) = some s1 := (by rw [yag h1 S3 rfl (by simp), hs1, hd1]; rfl); obtain ⟨D1, K1⟩ := h.head (d2 := d1) (by rw [hd1]) h2 hs1; have o1 : s1.objs[r]? = some (.cells [fv, .int .i64 d1.room, .bool d1.on, .int .i64 (d1.writes : Nat), .int .i64 (d1.armed : Nat), .int .i64 d1.keep]) := (by rw [hs1]; exact yaM h1); have l2 : yad Tryz.prog s1.objs 3 (.optr r 4) = some (.int .i64 (d.armed : Nat)) := (by rw [yab o1 G3, hd1]; rfl); simp only [k45_a, WKV, Nat.reduceLT, Nat.reduceEqDiff, ↓reduceIte, reduceCtorEq, Nat.reduceAdd, Int.reduceLT, Int.reduceNeg, yac, gD0, rFA r 3 (by omega), rFA r 4 (by omega), l1, hww, st1, l2]; by_cases ha : d.armed = 0
   · have ha' : ((d.armed : Nat) : Int) = 0 := (by omega); have e : ybj d = (false, d1) := (by simp [ybj, ha, hd1]); simp only [k45_a, WKV, Nat.reduceLT, Nat.reduceEqDiff, ↓reduceIte, reduceCtorEq, Nat.reduceAdd, Int.reduceLT, Int.reduceNeg, yac, ha', decide_true, e]; exact ⟨D1, K1⟩
   · have ha' : ¬ ((d.armed : Nat) : Int) = 0 := by omega
     have hwa : IntKind.i64.wrap ((d.armed : Int) - 1) = ((d.armed - 1 : Nat) : Int) := by
       have := hok.arm; rw [show (d.armed : Int) - 1 = ((d.armed - 1 : Nat) : Int) by omega]; exact ya8 (by omega)
     obtain ⟨d2, hd2⟩ : ∃ d2 : Dk, d2 = { d with writes := d.writes + 1, armed := d.armed - 1 } := ⟨_, rfl⟩; obtain ⟨s2, hs2⟩ : ∃ s2 : St, s2 = ⟨s1.objs.set r (.cells [fv, .int .i64 d2.room, .bool d2.on, .int .i64 (d2.writes : Nat), .int .i64 (d2.armed : Nat), .int .i64 d2.keep]), s1.toks⟩ := ⟨_, rfl⟩; have st2 : yak Tryz.prog s1 3 (.optr r 4) (.int .i64 ((d.armed - 1 : Nat) : Int)) = some s2 := (by rw [yag o1 S3 rfl (by simp), hs2, hd1, hd2]; rfl); obtain ⟨D2, K2⟩ := D1.head (d2 := d2) (by rw [hd1, hd2]) (h2.keep (S := [r]) (by rw [hs1]; exact KS.set (.inl (by simp)) _) fun x hx hx2 => h.ne (by rw [List.mem_singleton] at hx2; rw [← hx2]; exact hx)) hs2; have o2 : s2.objs[r]? = some (.cells [fv, .int .i64 d2.room, .bool d2.on, .int .i64 (d2.writes : Nat), .int .i64 (d2.armed : Nat), .int .i64 d2.keep]) := (by rw [hs2]; exact yaM o1); have l3 : yad Tryz.prog s2.objs 3 (.optr r 4) = some (.int .i64 ((d.armed - 1 : Nat) : Int)) := (by rw [yab o2 G3, hd2]; rfl); have e : ybj d = (decide (d.armed = 1), d2) := (by simp [ybj, ha, hd2]); simp only [k45_a, WKV, Nat.reduceLT, Nat.reduceEqDiff, ↓reduceIte, reduceCtorEq, Nat.reduceAdd, Int.reduceLT, Int.reduceNeg, yac, rFA r 3 (by omega), rFA r 4 (by omega), ha', decide_false, hwa, st2, l3, l2, e]; refine ⟨?_, D2, K1.trans' K2⟩
     congr 2
     by_cases h1 : d.armed = 1
     · simp [h1]
     · have : ¬ ((d.armed - 1 : Nat) : Int) = 0 := (by omega); simp [h1]; omega
 obtain ⟨p, σ', h1, rfl, h2⟩ := key; exact ⟨σ', h1, h2⟩
end Go.Proofs.YtnegdinonfjdfaaGreatDoor.Q
