/- A part of the proof: Pr. -/
import Derived.Test.YtnegdinonfjdfaaGreatDoorMb5
import Derived.Test.YtnegdinonfjdfaaGreatDoorChecked
import Derived.Lib.LaidTab
import Derived.Shelf.SlIter.Nil
import Derived.Shelf.SortM.Plain
import Derived.Shelf.SortM.SortNone
set_option linter.unusedVariables false
set_option linter.unusedSimpArgs false
set_option maxRecDepth 100000
namespace Go.Proofs.YtnegdinonfjdfaaGreatDoor.Q
open Go Go.RowKit Go.Proofs
theorem pTM : Tryz.prog.underlying 72 = some (.map 9 75) := by kernel_rfl
theorem pTF : Tryz.prog.underlying 75 = some (.pointer 77) := by kernel_rfl
theorem pTD : Tryz.prog.underlying 26 = some (.pointer 74) := by kernel_rfl
theorem pTB : Tryz.prog.underlying 30 = some (.slice 5) := by kernel_rfl
theorem pGM : ybc Tryz.prog 72 = some false := by kernel_rfl
theorem pGB : ybc Tryz.prog 30 = some false := by kernel_rfl
theorem pS1 : yaQ Tryz.prog 5 = some 1 := by kernel_rfl
theorem pSB : yaQ Tryz.prog 30 = some 1 := by kernel_rfl
theorem pFA : ∀ (r k : Nat) (hk : k < 6), yan Tryz.prog 74 (.optr r 0) k = some (.optr r k)
 | r, 0, _ => by kernel_rfl
 | r, 1, _ => by kernel_rfl
 | r, 2, _ => by kernel_rfl
 | r, 3, _ => by kernel_rfl
 | r, 4, _ => by kernel_rfl
 | r, 5, _ => by kernel_rfl
theorem ybd : ycl (.slice none 0 0) = some .nils := by kernel_rfl
theorem ynm (r : Nat) : yan Tryz.prog 77 (.optr r 0) 0 = some (.optr r 0) := by kernel_rfl
theorem ymo (r : Nat) : yan Tryz.prog 77 (.optr r 0) 1 = some (.optr r 1) := by kernel_rfl
def ygh : V → Option Nat
 | .nils => some 0
 | .slice _ _ _ n => some n
 | .hslice _ _ _ n => some n
 | _ => none
theorem yd3 {v : V} {n : Nat} (h : ygh v = some n) : ydn Tryz.prog 30 v = some (.int .i64 (n : Nat)) := by
 cases v <;> simp only [ygh, Option.some.injEq, reduceCtorEq] at h <;> (subst h; simp [ydn, pTB])
def yhO (objs : List Ob) : V × V → Option Nat
 | (_, .optr rf 0) => match objs[rf]? with
   | some (.cells [s, w]) => match ygh s, ygh w with
     | some a, some b => some (a + b)
     | _, _ => none
   | _ => none
 | _ => none
def ydl (objs : List Ob) : List (V × V) → Option (List Nat)
 | [] => some []
 | e :: es => match yhO objs e, ydl objs es with
   | some a, some l => some (a :: l)
   | _, _ => none
theorem yfD {objs : List Ob} : ∀ {es : List (V × V)} {l : List Nat}, ydl objs es = some l → l.length = es.length ∧ ∀ i (h : i < es.length), yhO objs es[i] = some (l.getD i 0)
 | [], l, h => by simp [ydl] at h; subst h; exact ⟨rfl, fun i h => by simp at h⟩
 | e :: es, l, h => by
   simp only [ydl] at h; split at h
   · rename_i a l' h1 h2; injection h with h; subst h; obtain ⟨g1, g2⟩ := yfD h2; refine ⟨by simp [g1], fun i hi => ?_⟩
     cases i with
     | zero => exact h1
     | succ i => simpa using g2 i (by simpa using hi)
   · cases h
def yoJ (vs : List V) (σ : St) : Option (V × St) := match vs with
 | [.optr r 0] => match σ.objs[r]? with
   | some (.cells (.omap rm :: _)) => match σ.objs[rm]? with
     | some (.mp es) => match ydl σ.objs es with
       | some l => if l.sum ≤ 4611686018427387904 then some (.int .i64 (l.sum : Nat), ⟨σ.objs ++ [.dead], σ.toks⟩) else none
       | none => none
     | _ => none
   | _ => none
 | _ => none
noncomputable def ygW : Code := (Tryz.f38.body).getD .skip
theorem bSize : Tryz.f38.body = some ygW := by kernel_rfl
noncomputable def yoa : Code := ydD [true, true, false, true, false, false] ygW
theorem sSize : ygW = .seq (ydD [false] ygW) (.seq (ydD [true, false] ygW) (.seq (.seq (.region 2 (ye8 (ydD [true, true, false, false] ygW)) false) (.block 0 (.loop yoa))) (ydD [true, true, true] ygW))) := by kernel_rfl
noncomputable def oSize2 : Array Oper := ye8 (ydD [true, true, false, false] ygW)
noncomputable def oSize3 : Array Oper := ye8 (ydD [false] yoa)
noncomputable def oSize4 : Array Oper := ye8 (ydD [true, true, false, false] yoa)
theorem slSize : yoa = .seq (.region 3 oSize3 false) (.seq (.cond (.tmp 12) .skip (.exit 0)) (.block 1 (.seq (.region 4 oSize4 false) (ydD [true, true, false, true] yoa)))) := by kernel_rfl
theorem o2s : oSize2.toList = oSize2.toList.take 4 ++ [oSize2.getD 4 default] := by kernel_rfl
theorem o3s : oSize3.toList = oSize3.getD 0 default :: oSize3.toList.drop 1 := by kernel_rfl
theorem o4s : oSize4.toList = oSize4.getD 0 default :: oSize4.toList.drop 1 := by kernel_rfl
theorem yg4 {n : Nat} {vis : List Nat} (h : vis.Nodup) (hl : ∀ i ∈ vis, i < n) : vis.Perm ((List.range n).filter fun i => decide (i ∈ vis)) :=
 (List.perm_ext_iff_of_nodup h (List.Pairwise.filter _ List.nodup_range)).2 fun i => by
   rw [List.mem_filter, List.mem_range]; exact ⟨fun hi => ⟨hl i hi, by simpa using hi⟩, fun hi => by simpa using hi.2⟩
theorem yno {n : Nat} {vis : List Nat} (h : vis.Nodup) (hl : ∀ i ∈ vis, i < n) : vis.length ≤ n := by
 rw [(yg4 h hl).length_eq]; have := List.length_filter_le (fun i => decide (i ∈ vis)) (List.range n); simpa using this
theorem yeK (f : Nat → Nat) (p : Nat → Bool) : ∀ l : List Nat, ((l.filter p).map f).sum ≤ (l.map f).sum
 | [] => by simp
 | x :: l => by
   have := yeK f p l; simp only [List.filter_cons]; split
   · simp only [List.map_cons, List.sum_cons]; omega
   · simp only [List.map_cons, List.sum_cons]; omega
theorem ykp {n : Nat} {vis : List Nat} (h : vis.Nodup) (hl : ∀ i ∈ vis, i < n) (ha : ∀ i, i < n → i ∈ vis) : vis.Perm (List.range n) :=
 (List.perm_ext_iff_of_nodup h List.nodup_range).2 fun i => ⟨fun hi => List.mem_range.2 (hl i hi), fun hi => ha i (List.mem_range.1 hi)⟩
theorem yfY {α : Type} {l : List α} {i : Nat} {x : α} (h : l[i]? = some x) : l.set i x = l := by
 apply List.ext_getElem?; intro j; by_cases e : i = j
 · subst e; rw [gA5 (gA0.1 h).1, h]
 · rw [gA3 e]
theorem yiz (l : List Nat) : ((List.range l.length).map fun i => l.getD i 0).sum = l.sum := by
 congr 1
 apply List.ext_getElem
 · simp
 · intro i h1 h2; simp at h1 ⊢; simp [h1]
theorem yhQ {l : List Nat} {vis : List Nat} (h : vis.Nodup) (hl : ∀ i ∈ vis, i < l.length) : (vis.map fun i => l.getD i 0).sum ≤ l.sum := by
 rw [((yg4 h hl).map _).sum_nat, ← yiz l]; exact yeK _ _ _
theorem yqn {base : Nat} {w0 : World} {vs : List V} {σ : St} {v : V} {σ' : St} (h : yoJ vs σ = some (v, σ')) : CallOk Tryz.prog base w0 38 vs σ (.ret v) σ' := by
 unfold yoJ at h; split at h
 · rename_i r; split at h
   · rename_i rm rest hr; split at h
     · rename_i es hm; split at h
       · rename_i l hl; split at h
         · rename_i hs; injection h with h; injection h with h1 h2; subst h1 h2; obtain ⟨hll, hlg⟩ := yfD hl; have hrml := (gA0.1 hm).1; refine CallOk.nd (fn := Tryz.f38) Tryz.func38 bSize (by show [V.optr r 0].length ≤ 29; simp) ?_; show Nd Tryz.prog base w0 29 ygW _ _ _; rw [sSize]; have hp := yhZ base w0; refine Nd.seq (Nd.ev hp (k := .region k38_r0) (by kernel_rfl) (by kernel_rfl) (by kernel_rfl) ?_); simp only [k38_a, WKV, Nat.reduceLT, Nat.reduceEqDiff, ↓reduceIte, reduceCtorEq, Nat.reduceAdd, Int.reduceLT, Int.reduceNeg, ya6, implies_true, eq_self, false_and, or_false, false_or]; refine Nd.seq (Nd.ev hp (k := .region k38_r1) (by kernel_rfl) (by kernel_rfl) (by kernel_rfl) ?_); simp only [k38_a, WKV, Nat.reduceLT, Nat.reduceEqDiff, ↓reduceIte, reduceCtorEq, Nat.reduceAdd, Int.reduceLT, Int.reduceNeg, ya6, implies_true, eq_self, false_and, or_false, false_or]; refine Nd.seq (Nd.seq (Nd.region ?_)); rw [show ye8 (ydD [true, true, false, false] ygW) = oSize2 from rfl, o2s]; refine NdO.app (NdO.eo hp (cl := k38_r2.take 4) (by kernel_rfl) (by kernel_rfl) ?_); unfold k38_r2; simp only [List.take_succ_cons, List.take_zero, WKV, Nat.reduceLT, Nat.reduceEqDiff, ↓reduceIte, reduceCtorEq, Nat.reduceAdd, Int.reduceLT, Int.reduceNeg, ya6, implies_true, eq_self, false_and, or_false, false_or, gD0, pFA r 0 (by omega), yab hr pGM]; refine NdO.range (rm := rm) (es := es) (t := 72) (x := .tmp 9) (by kernel_rfl) (by kernel_rfl) pTM (by simp only [WKV, Nat.reduceLT, Nat.reduceEqDiff, ↓reduceIte, reduceCtorEq, Nat.reduceAdd, Int.reduceLT, Int.reduceNeg, ya6, implies_true, eq_self, false_and, or_false, false_or]) hm ?_; intro b a clock hI; have hd : (oSize2.getD 4 default).dst = some 10 := (by kernel_rfl); rw [hd]; refine NdO.nil (.inl ⟨rfl, ?_⟩); refine Nd.block ?_; refine Nd.loop (fun vis e τ => ∃ seen last, It τ σ.objs.length rm es vis b clock a clock last seen ∧ τ = ⟨σ.objs.set rm (.mpR b es a clock) ++ [.it b clock seen last], σ.toks⟩ ∧ e 10 = .optr σ.objs.length 0 ∧ e 3 = .int .i64 ((vis.map fun i => l.getD i 0).sum : Nat)) (fun vis => es.length - vis.length) ?_ [] ⟨#[], clock, hI, rfl, by simp [yaa], by simp [yaa]⟩; rintro vis e τ ⟨seen, last, hI, rfl, h10, h3⟩; rw [slSize]; refine Nd.seq (Nd.region ?_); rw [o3s]; have hd3 : (oSize3.getD 0 default).dst = some 11 := (by kernel_rfl); refine NdO.next (ri := σ.objs.length) (rm := rm) (x := .tmp 10) (by kernel_rfl) (by kernel_rfl) (by simp only [WKV, Nat.reduceLT, Nat.reduceEqDiff, ↓reduceIte, reduceCtorEq, Nat.reduceAdd, Int.reduceLT, Int.reduceNeg, ya6, implies_true, eq_self, false_and, or_false, false_or, h10]) hI (by omega) ?_ ?_
           · intro hall; rw [hd3]; refine NdO.eo hp (cl := k38_r3.drop 1) (by kernel_rfl) (by kernel_rfl) ?_; unfold k38_r3; simp only [List.drop_succ_cons, List.drop_zero, WKV, Nat.reduceLT, Nat.reduceEqDiff, ↓reduceIte, reduceCtorEq, Nat.reduceAdd, Int.reduceLT, Int.reduceNeg, ya6, implies_true, eq_self, false_and, or_false, false_or]; refine Nd.seq (Nd.cond (t := false) (by simp only [WKV, Nat.reduceLT, Nat.reduceEqDiff, ↓reduceIte, reduceCtorEq, Nat.reduceAdd, Int.reduceLT, Int.reduceNeg, ya6, implies_true, eq_self, false_and, or_false, false_or]) (Nd.exit (.inr ⟨(by intro h; cases h), .inr ⟨(by intro h; cases h), .inl ⟨rfl, ?_⟩⟩⟩))); have hperm := ykp hI.vnd hI.vlt hall; have hsum : (vis.map fun i => l.getD i 0).sum = l.sum := (by rw [(hperm.map _).sum_nat, ← hll, yiz]); rw [hsum] at h3; refine Nd.re (σ1 := ⟨σ.objs ++ [.dead], σ.toks⟩) ?_ ?_
             · intro g w tm hR hT; refine ⟨g, Ext.refl _ _ _, ?_⟩; obtain ⟨m1, m2, m3, m4, m5, m6, m7⟩ := hR.obj rm _ hI.mp; have h1 := hR.reOb hI.mp (fun h => h) (o' := .mp es) (by intro h; cases h) ⟨m1, m2, a, clock, m4, m5, m6, m7⟩
               have h2 := h1.bury σ.objs.length (by
                 simp only; rw [gA3 (by omega), hI.it]; intro h; cases h)
               have e1 : ((σ.objs.set rm (.mpR b es a clock) ++ [Ob.it b clock seen last]).set rm (.mp es)).set σ.objs.length .dead = σ.objs ++ [.dead] := by
                 rw [List.set_append_left _ _ (by simpa using hrml), List.set_set, List.set_append_right _ _ (by simp)]; simp [yfY hm]
               simp only at h2; rw [e1] at h2; exact h2
             · refine Nd.ev hp (k := .seq (.region k38_r6) .ret) (by kernel_rfl) (by kernel_rfl) (by kernel_rfl) ?_; simp only [k38_a, WKV, Nat.reduceLT, Nat.reduceEqDiff, ↓reduceIte, reduceCtorEq, Nat.reduceAdd, Int.reduceLT, Int.reduceNeg, ya6, implies_true, eq_self, false_and, or_false, false_or, h3]; refine ⟨_, by show yam _ _ (env 29 _) [ResultVar.tmp 2] = _; simp only [WKV, Nat.reduceLT, Nat.reduceEqDiff, ↓reduceIte, reduceCtorEq, Nat.reduceAdd, Int.reduceLT, Int.reduceNeg, ya6, implies_true, eq_self, false_and, or_false, false_or]; rfl, rfl⟩
           · intro i hiv hi hI2; rw [hd3]; refine NdO.eo hp (cl := k38_r3.drop 1) (by kernel_rfl) (by kernel_rfl) ?_; unfold k38_r3; simp only [List.drop_succ_cons, List.drop_zero, WKV, Nat.reduceLT, Nat.reduceEqDiff, ↓reduceIte, reduceCtorEq, Nat.reduceAdd, Int.reduceLT, Int.reduceNeg, ya6, implies_true, eq_self, false_and, or_false, false_or]; refine Nd.seq (Nd.cond (t := true) (by simp only [WKV, Nat.reduceLT, Nat.reduceEqDiff, ↓reduceIte, reduceCtorEq, Nat.reduceAdd, Int.reduceLT, Int.reduceNeg, ya6, implies_true, eq_self, false_and, or_false, false_or]) (Nd.skip (.inl ⟨rfl, ?_⟩))); refine Nd.block (Nd.seq (Nd.region ?_)); rw [o4s]; refine NdO.entry (x := .tmp 10) (by kernel_rfl) (by kernel_rfl) (by simp only [WKV, Nat.reduceLT, Nat.reduceEqDiff, ↓reduceIte, reduceCtorEq, Nat.reduceAdd, Int.reduceLT, Int.reduceNeg, ya6, implies_true, eq_self, false_and, or_false, false_or, h10]) hI2 hi ?_; have hd4 : (oSize4.getD 0 default).dst = some 13 := (by kernel_rfl); rw [hd4]; refine NdO.eo hp (cl := k38_r4.drop 1) (by kernel_rfl) (by kernel_rfl) ?_; unfold k38_r4; simp only [List.drop_succ_cons, List.drop_zero, WKV, Nat.reduceLT, Nat.reduceEqDiff, ↓reduceIte, reduceCtorEq, Nat.reduceAdd, Int.reduceLT, Int.reduceNeg, ya6, implies_true, eq_self, false_and, or_false, false_or, h3]; have hfl := hlg i hi; unfold yhO at hfl; split at hfl
             · rename_i key rf hei; split at hfl
               · rename_i fs fw hrf; split at hfl
                 · rename_i la lb hla hlb; injection hfl with hfl; have hne : rf ≠ rm := fun h => by rw [h, hm] at hrf; cases hrf
                   have hrfl := (gA0.1 hrf).1
                   have hset : (σ.objs.set rm (.mpR b es a clock) ++ [Ob.it b clock seen last]).set σ.objs.length (.it b clock (seen.push (a.getD i default).born) clock) = σ.objs.set rm (.mpR b es a clock) ++ [.it b clock (seen.push (a.getD i default).born) clock] := by
                     rw [List.set_append_right _ _ (by simp), List.length_set, Nat.sub_self]; rfl
                   simp only [hset] at hI2 ⊢
                   have hof : (σ.objs.set rm (.mpR b es a clock) ++ [Ob.it b clock (seen.push (a.getD i default).born) clock])[rf]? = some (.cells [fs, fw]) := by
                     rw [gA2 (by simpa using hrfl), gA3 (Ne.symm hne)]; exact hrf
                   have hsum := yhQ (l := l) hI2.vnd (by rw [hll]; exact hI2.vlt); simp only [List.map_append, List.map_cons, List.map_nil, List.sum_append, List.sum_cons, List.sum_nil, Nat.add_zero] at hsum; have w1 : IntKind.i64.wrap ((la : Int) + (lb : Nat)) = ((la + lb : Nat) : Int) := by rw [yae (by omega) (by omega)]; omega
                   have w2 : IntKind.i64.wrap ((((vis.map fun i => l.getD i 0).sum : Nat) : Int) + ((la + lb : Nat) : Int)) = ((((vis ++ [i]).map fun i => l.getD i 0).sum : Nat) : Int) := by
                     simp only [List.map_append, List.map_cons, List.map_nil, List.sum_append, List.sum_cons, List.sum_nil, Nat.add_zero]; rw [yae (by omega) (by omega)]; omega
                   refine Nd.ev hp (k := .region k38_r5) (by kernel_rfl) (by kernel_rfl) (by kernel_rfl) ?_; simp only [k38_a, WKV, Nat.reduceLT, Nat.reduceEqDiff, ↓reduceIte, reduceCtorEq, Nat.reduceAdd, Int.reduceLT, Int.reduceNeg, ya6, implies_true, eq_self, false_and, or_false, false_or, h3, hei, ynm, ymo, yab hof pGB, yd3 hla, yd3 hlb, w1, w2]; refine ⟨vis ++ [i], ⟨_, _, hI2, rfl, by simp [yaa, h10], by simp [yaa]⟩, ?_⟩; have := yno hI2.vnd hI2.vlt; simp only [List.length_append, List.length_cons, List.length_nil] at this ⊢; omega
                 · cases hfl
               · cases hfl
             · cases hfl
         · cases h
       · cases h
     · cases h
   · cases h
 · cases h
def yaZ (W : List (Nat × Ob)) (O : List Ob) : List Ob := W.foldl (fun O p => O.set p.1 p.2) O
theorem ycv (p : Nat × Ob) (W : List (Nat × Ob)) (O : List Ob) : yaZ (p :: W) O = yaZ W (O.set p.1 p.2) := rfl
theorem ybU (W W2 : List (Nat × Ob)) (O : List Ob) : yaZ (W ++ W2) O = yaZ W2 (yaZ W O) := List.foldl_append
theorem ybF : ∀ (W : List (Nat × Ob)) (O : List Ob), (yaZ W O).length = O.length
 | [], O => rfl
 | p :: W, O => by rw [ycv, ybF W, List.length_set]
theorem ybK : ∀ (W : List (Nat × Ob)) (O : List Ob) {q : Nat}, q ∉ W.map (·.1) → (yaZ W O)[q]? = O[q]?
 | [], O, q, h => rfl
 | p :: W, O, q, h => by
   simp only [List.map_cons, List.mem_cons, not_or] at h; rw [ycv, ybK W _ h.2, gA3 (Ne.symm h.1)]
theorem yed : ∀ (W : List (Nat × Ob)) (O : List Ob) {q : Nat} (x : Ob), q ∉ W.map (·.1) → yaZ W (O.set q x) = (yaZ W O).set q x
 | [], O, q, x, h => rfl
 | p :: W, O, q, x, h => by
   simp only [List.map_cons, List.mem_cons, not_or] at h; rw [ycv, ycv, List.set_comm _ _ h.1, yed W _ x h.2]
theorem ygN : ∀ {l : List Nat} {O : List Ob} {q : Nat} {o : Ob}, (yaZ (l.map (·, Ob.dead)) O)[q]? = some o → o = .dead ∨ O[q]? = some o
 | [], O, q, o, h => .inr h
 | a :: l, O, q, o, h => by
   rw [List.map_cons, ycv] at h; rcases ygN h with h | h
   · exact .inl h
   · rw [List.getElem?_set] at h; split at h
     · split at h
       · injection h with h; exact .inl h.symm
       · cases h
     · exact .inr h
theorem yiO : ∀ {W : List (Nat × Ob)}, (W.map (·.1)).Nodup → ∀ x ∈ W, ∀ y ∈ W, x.1 = y.1 → x = y
 | [], _, x, hx, _, _, _ => by cases hx
 | p :: W, h, x, hx, y, hy, he => by
   simp only [List.map_cons, List.nodup_cons] at h
   rcases List.mem_cons.1 hx with rfl | hx1 <;> rcases List.mem_cons.1 hy with rfl | hy1
   · rfl
   · exact absurd (List.mem_map.2 ⟨y, hy1, he.symm⟩) h.1
   · exact absurd (List.mem_map.2 ⟨x, hx1, he⟩) h.1
   · exact yiO h.2 x hx1 y hy1 he
theorem yjK {W W2 : List (Nat × Ob)} (hp : W.Perm W2) (hn : (W.map (·.1)).Nodup) (O : List Ob) : yaZ W O = yaZ W2 O := by
 refine hp.foldl_eq' (fun x hx y hy z => ?_) O; by_cases e : x.1 = y.1
 · rw [yiO hn x hx y hy e]
 · exact List.set_comm _ _ e
theorem yhl {f : Nat → List Nat} : ∀ {l : List Nat}, l.Nodup → (∀ i ∈ l, (f i).Nodup) → (∀ i ∈ l, ∀ j ∈ l, i ≠ j → ∀ x ∈ f i, x ∉ f j) → (l.flatMap f).Nodup
 | [], _, _, _ => by simp
 | i :: l, hl, h1, h2 => by
   rw [List.flatMap_cons, List.nodup_append]; rw [List.nodup_cons] at hl; refine ⟨h1 i (List.mem_cons_self ..), yhl hl.2 (fun j hj => h1 j (List.mem_cons_of_mem _ hj)) (fun a ha b hb => h2 a (List.mem_cons_of_mem _ ha) b (List.mem_cons_of_mem _ hb)), fun x hx y hy => ?_⟩; rintro rfl; obtain ⟨j, hj, hxj⟩ := List.mem_flatMap.1 hy; exact h2 i (List.mem_cons_self ..) j (List.mem_cons_of_mem _ hj) (fun e => hl.1 (by rw [e]; exact hj)) x hx hxj
theorem yhm {α : Type} {f : α → List Nat} : ∀ {l : List α}, (l.flatMap f).Nodup → (∀ (i : Nat) (h : i < l.length), (f l[i]).Nodup) ∧ ∀ (i j : Nat) (h : i < l.length) (h' : j < l.length), i ≠ j → ∀ x ∈ f l[i], x ∉ f l[j]
 | [], _ => ⟨fun i h => by simp at h, fun i j h => by simp at h⟩
 | a :: l, hl => by
   rw [List.flatMap_cons, List.nodup_append] at hl; obtain ⟨g1, g2⟩ := yhm hl.2.1; have g3 : ∀ (j : Nat) (h : j < l.length), ∀ x ∈ f a, x ∉ f l[j] := fun j h x hx hy => hl.2.2 x hx x (List.mem_flatMap.2 ⟨_, List.getElem_mem h, hy⟩) rfl; refine ⟨fun i h => ?_, fun i j h h' hne x hx hy => ?_⟩
   · cases i with
     | zero => exact hl.1
     | succ i => exact g1 i (by simpa using h)
   · cases i with
     | zero => cases j with
       | zero => exact hne rfl
       | succ j => exact g3 j (by simpa using h') x hx hy
     | succ i => cases j with
       | zero => exact g3 i (by simpa using h) x hy hx
       | succ j => exact g2 i j (by simpa using h) (by simpa using h') (by omega) x hx hy
structure FO where
 rf : Nat
 s : V
 rs : Option Nat
 cs : List V
 w : V
 rw : Option Nat
 ds : List V
 deriving Inhabited
def yaU (objs : List Ob) : V → Option (Option Nat × List V)
 | .nils => some (none, [])
 | .hslice r 0 1 n => match objs[r]? with
   | some (.cells cs) => if n ≤ cs.length then some (some r, cs.take n) else none
   | _ => none
 | _ => none
def ygz (objs : List Ob) : V × V → Option FO
 | (_, .optr rf 0) => match objs[rf]? with
   | some (.cells [s, w]) => match yaU objs s, yaU objs w with
     | some (rs, cs), some (rw, ds) => some ⟨rf, s, rs, cs, w, rw, ds⟩
     | _, _ => none
   | _ => none
 | _ => none
def yer (objs : List Ob) : List (V × V) → Option (List FO)
 | [] => some []
 | e :: es => match ygz objs e, yer objs es with
   | some a, some l => some (a :: l)
   | _, _ => none
def FO.ids (f : FO) : List Nat := f.rf :: (f.rs.toList ++ f.rw.toList)
def FO.kept (f : FO) (k : Int) : List V := f.ds.take k.toNat
def yb6 (k : Int) (base : Nat) (fos : List FO) (i : Nat) : List (Nat × Ob) :=
 let f := fos.getD i default
 if f.kept k = [] then [(f.rf, .cells [f.s, .nils])] else
   f.rs.toList.map (·, Ob.dead) ++ [(f.rf, .cells [.hslice (base + i) 0 1 (f.cs.length + (f.kept k).length), .nils]), (base + i, .cells (f.cs ++ f.kept k))]
instance (k : Int) (f : FO) : Decidable (f.kept k = []) := match f.kept k with
 | [] => .isTrue rfl
 | _ :: _ => .isFalse (by intro h; cases h)
def offP (vs : List V) (σ : St) : Option (V × St) := match vs with
 | [.nilp, _] => some (.tuple [], σ)
 | [.optr r 0, .int .i64 k] => match σ.objs[r]? with
   | some (.cells [.omap rm, room, .bool off, wr, ar, kp]) => if off = true then some (.tuple [], σ) else match σ.objs[rm]? with
     | some (.mp es) => match yer σ.objs es with
       | some fos => if (fos.flatMap FO.ids).Nodup ∧ r ∉ fos.flatMap FO.ids ∧ (fos.all fun f => (f.kept k).all one && decide (f.cs.length + (f.kept k).length ≤ 140737488355328)) = true then
           some (.tuple [], ⟨(yaZ ((List.range es.length).flatMap (yb6 k (σ.objs.length + 1) fos)) (σ.objs ++ [.dead] ++ List.replicate es.length .unb)).set r (.cells [.omap rm, room, .bool true, wr, .int .i64 0, kp]), σ.toks⟩)
         else none
       | none => none
     | _ => none
   | _ => none
 | _ => none
theorem ygt {objs : List Ob} : ∀ {es : List (V × V)} {l : List FO}, yer objs es = some l → l.length = es.length ∧ ∀ i (h : i < es.length) (h' : i < l.length), ygz objs es[i] = some l[i]
 | [], l, h => by simp [yer] at h; subst h; exact ⟨rfl, fun i h => by simp at h⟩
 | e :: es, l, h => by
   simp only [yer] at h; split at h
   · rename_i a l' h1 h2; injection h with h; subst h; obtain ⟨g1, g2⟩ := ygt h2; refine ⟨by simp [g1], fun i hi hi' => ?_⟩
     cases i with
     | zero => exact h1
     | succ i => simpa using g2 i (by simpa using hi) (by simpa using hi')
   · cases h
theorem yaC {objs : List Ob} {v : V} {q : Option Nat} {cs : List V} (h : yaU objs v = some (q, cs)) : (v = .nils ∧ q = none ∧ cs = []) ∨ ∃ r full, v = .hslice r 0 1 cs.length ∧ q = some r ∧ objs[r]? = some (.cells full) ∧ cs.length ≤ full.length ∧ cs = full.take cs.length := by
 unfold yaU at h; split at h
 · injection h with h; injection h with h1 h2; subst h1 h2; exact .inl ⟨rfl, rfl, rfl⟩
 · rename_i r n; split at h
   · rename_i full hr; split at h
     · rename_i hn
       injection h with h; injection h with h1 h2; subst h1 h2
       have : (full.take n).length = n := (by rw [List.length_take]; omega); exact .inr ⟨r, full, by rw [this], rfl, hr, by rw [this]; exact hn, by rw [this]⟩
     · cases h
   · cases h
 · cases h
theorem ygq {objs : List Ob} {e : V × V} {f : FO} (h : ygz objs e = some f) : e.2 = .optr f.rf 0 ∧ objs[f.rf]? = some (.cells [f.s, f.w]) ∧ yaU objs f.s = some (f.rs, f.cs) ∧ yaU objs f.w = some (f.rw, f.ds) := by
 unfold ygz at h; split at h
 · rename_i key rf; split at h
   · rename_i s w hr; split at h
     · rename_i rs cs rw ds h1 h2; injection h with h; subst h; exact ⟨rfl, hr, h1, h2⟩
     · cases h
   · cases h
 · cases h
theorem yiJ {k : Int} {base : Nat} {fos : List FO} {i : Nat} {q : Nat} (h : q ∈ (yb6 k base fos i).map (·.1)) : q ∈ (fos.getD i default).ids ∨ q = base + i := by
 unfold yb6 at h; simp only at h; split at h
 · simp at h; exact .inl (by simp [FO.ids, h])
 · simp only [List.map_append, List.map_map, List.map_cons, List.map_nil, List.mem_append, List.mem_map, List.mem_cons, List.not_mem_nil, or_false] at h; rcases h with ⟨a, ha, rfl⟩ | rfl | rfl
   · exact .inl (by simp only [FO.ids, List.mem_cons, List.mem_append]; exact .inr (.inl ha))
   · exact .inl (by simp [FO.ids])
   · exact .inr rfl
theorem ypu {objs : List Ob} {e : V × V} {f : FO} (h : ygz objs e = some f) {q : Nat} (hq : q ∈ f.ids) : ∃ cs, objs[q]? = some (.cells cs) := by
 obtain ⟨_, h2, h3, h4⟩ := ygq h; simp only [FO.ids, List.mem_cons, List.mem_append] at hq; rcases hq with rfl | hq | hq
 · exact ⟨_, h2⟩
 · rcases yaC h3 with ⟨_, e, _⟩ | ⟨r, full, _, e, hr, _⟩
   · rw [e] at hq; cases hq
   · rw [e] at hq; simp at hq; subst hq; exact ⟨_, hr⟩
 · rcases yaC h4 with ⟨_, e, _⟩ | ⟨r, full, _, e, hr, _⟩
   · rw [e] at hq; cases hq
   · rw [e] at hq; simp at hq; subst hq; exact ⟨_, hr⟩
theorem yd8 {objs objs2 : List Ob} {v : V} {q : Option Nat} {cs : List V} (h : yaU objs v = some (q, cs)) (hq : ∀ r, q = some r → objs2[r]? = objs[r]?) : yaU objs2 v = some (q, cs) := by
 rcases yaC h with ⟨rfl, rfl, rfl⟩ | ⟨r, full, rfl, rfl, hr, hl, hc⟩
 · rfl
 · simp only [yaU]; rw [hq r rfl, hr]; simp only; rw [if_pos hl, ← hc]
theorem ylK {objs : List Ob} {v : V} {q : Option Nat} {ds : List V} (h : yaU objs v = some (q, ds)) (k : Int) :
   ∃ w', yck Tryz.prog 30 v none (some (.int .i64 (min (max k 0) (ds.length : Nat)))) none = some w' ∧ ybu Tryz.prog objs 30 w' 1 = some (ds.take k.toNat, (ds.take k.toNat).length) := by
 have hk : (min (max k 0) (ds.length : Nat)).toNat = (ds.take k.toNat).length := (by rw [List.length_take]; omega); have h0 : 0 ≤ min (max k 0) (ds.length : Nat) := (by omega); have h1 : min (max k 0) (ds.length : Nat) ≤ ds.length := (by omega); rcases yaC h with ⟨rfl, rfl, rfl⟩ | ⟨r, full, rfl, rfl, hr, hl, hc⟩
 · refine ⟨.nils, ?_, by simp [ybu, ycP, pTB]⟩; have : min (max k 0) (([] : List V).length : Nat) = 0 := (by simp; omega); rw [this]; exact (by kernel_rfl : yck Tryz.prog 30 .nils none (some (.int .i64 0)) none = some .nils)
 · have hb := yc0 (k := .i64) (len := ds.length) h0 h1; refine ⟨.hslice r 0 1 (ds.take k.toNat).length, ?_, ?_⟩
   · simp only [yck, pTB, pS1, hb]; rw [hk]; simp
   · simp only [ybu, ycP, pTB, hr, Nat.zero_add, Nat.mul_one, List.drop_zero]
     have e1 : full.take (ds.take k.toNat).length = ds.take k.toNat := by
       rw [List.length_take, hc]; simp only [List.length_take]; rw [List.take_take]
       congr 1
       have := hl; omega
     have hle : (ds.take k.toNat).length ≤ full.length := (by rw [List.length_take]; omega); simp only [e1, hle, and_self, true_and, ↓reduceIte]
theorem yhr {objs : List Ob} {toks : List Bool} {s w' : V} {q : Option Nat} {cs ys : List V} (h : yaU objs s = some (q, cs)) (hw : ybu Tryz.prog objs 30 w' 1 = some (ys, ys.length)) (ho : ys.all one = true) (hl : cs.length + ys.length ≤ 140737488355328) :
   yaK Tryz.prog ⟨objs, toks⟩ 30 30 s w' = if ys = [] then some (s, ⟨objs, toks⟩) else some (.hslice objs.length 0 1 (cs.length + ys.length), ⟨(yaZ (q.toList.map (·, Ob.dead)) objs) ++ [.cells (cs ++ ys)], toks⟩) := by
 have hz : ybl Tryz.prog 5 = some (.int .u8 0) := (by kernel_rfl); have hb : (Tryz.prog.info? 5).map (·.bytes) = some 1 := (by kernel_rfl); rcases yaC h with ⟨rfl, rfl, rfl⟩ | ⟨r, full, rfl, rfl, hr, hfl, hc⟩
 · by_cases h0 : ys = []
   · subst h0; simp [yaK, pTB, hb, pS1, hz, yah, hw]
   · have h1 : ys.length ≠ 0 := fun h => h0 (List.length_eq_zero_iff.1 h); simp only [List.length_nil, Nat.zero_add] at hl; simp [yaK, pTB, hb, pS1, hz, yah, hw, h0, hl, yaZ]
 · by_cases h0 : ys = []
   · subst h0; simp [yaK, pTB, hb, pS1, hz, yah, hw]
   · have h1 : ys.length ≠ 0 := fun h => h0 (List.length_eq_zero_iff.1 h); have h2 : List.take cs.length full = cs := hc.symm; simp [yaK, pTB, hb, pS1, hz, yah, hw, h0, hr, hl, hfl, ho, h2, yaZ]
theorem hides {base : Nat} {w0 : World} : ∀ (n : Nat) {g : Gh} {objs : List Ob} {toks : List Bool} {w : World}, Rel base w0 g ⟨objs, toks⟩ w → ∃ g1, Ext g toks w g1 toks w ∧ Rel base w0 g1 ⟨objs ++ List.replicate n .unb, toks⟩ w
 | 0, g, objs, toks, w, h => ⟨g, Ext.refl _ _ _, by simpa using h⟩
 | n + 1, g, objs, toks, w, h => by
   obtain ⟨g1, h1, h2⟩ := hides n h.hide; refine ⟨g1, (Ext.hide g toks w).trans h1, ?_⟩; rw [List.replicate_succ, List.append_cons]; exact h2
noncomputable def yps : Code := (Tryz.f20.body).getD .skip
theorem bOff : Tryz.f20.body = some yps := by kernel_rfl
noncomputable def lOff : Code := ydD [true, false, true, false, false] yps
noncomputable def oOff1 : Array Oper := ye8 (ydD [true, false, false] yps)
noncomputable def oOff2 : Array Oper := ye8 (ydD [false] lOff)
noncomputable def oOff3 : Array Oper := ye8 (ydD [true, true, false, false] lOff)
theorem sOff : yps = .seq (ydD [false] yps) (.seq (.seq (.region 1 oOff1 false) (.block 0 (.loop lOff))) (ydD [true, true] yps)) := by kernel_rfl
theorem slOff : lOff = .seq (.region 2 oOff2 false) (.seq (.cond (.tmp 20) .skip (.exit 0)) (.block 1 (.seq (.region 3 oOff3 false) (ydD [true, true, false, true] lOff)))) := by kernel_rfl
theorem f1s : oOff1.toList = oOff1.toList.take 4 ++ [oOff1.getD 4 default] := by kernel_rfl
theorem f2s : oOff2.toList = oOff2.getD 0 default :: oOff2.toList.drop 1 := by kernel_rfl
theorem f3s : oOff3.toList = oOff3.getD 0 default :: oOff3.toList.drop 1 := by kernel_rfl
theorem yim {N j r o : Nat} (h : r ≠ N) : yco N j (.optr r o) = .optr r o := by simp only [yco]; rw [if_neg h]
theorem yp6 {N j : Nat} {l : List V} (h : ycR N j l = l) : ∀ v ∈ l, yco N j v = v := by
 rw [ycB] at h; intro v hv; obtain ⟨i, hi, rfl⟩ := List.mem_iff_getElem.1 hv; have := congrArg (·[i]?) h; simpa [hi] using this
theorem ren_of {N j : Nat} {l : List V} (h : ∀ v ∈ l, yco N j v = v) : ycR N j l = l := by
 rw [ycB]; exact (List.map_congr_left h).trans (List.map_id' l)
theorem ycg {k : Int} {b : Nat} {fos : List FO} {i : Nat} {f : FO} (hf : fos.getD i default = f) (h : f.kept k = []) : yb6 k b fos i = [(f.rf, .cells [f.s, .nils])] := by
 unfold yb6; rw [hf]; simp only; rw [if_pos h]
theorem ycf {k : Int} {b : Nat} {fos : List FO} {i : Nat} {f : FO} (hf : fos.getD i default = f) (h : ¬ f.kept k = []) : yb6 k b fos i = f.rs.toList.map (·, Ob.dead) ++ [(f.rf, .cells [.hslice (b + i) 0 1 (f.cs.length + (f.kept k).length), .nils]), (b + i, .cells (f.cs ++ f.kept k))] := by
 unfold yb6; rw [hf]; simp only; rw [if_neg h]
theorem off_ok {base : Nat} {w0 : World} {vs : List V} {σ : St} {v : V} {σ' : St} (h : offP vs σ = some (v, σ')) : CallOk Tryz.prog base w0 20 vs σ (.ret v) σ' := by
 have hp := yhZ base w0; unfold offP at h; split at h
 · rename_i x; injection h with h; injection h with h1 h2; subst h1 h2; refine CallOk.nd (fn := Tryz.f20) Tryz.func20 bOff (by show [V.nilp, x].length ≤ 53; simp) ?_; show Nd Tryz.prog base w0 53 yps _ _ _; rw [sOff]; refine Nd.seq (Nd.ev hp (k := .seq (.region k20_r0) (.cond (.tmp 13) .ret .skip)) (by kernel_rfl) (by kernel_rfl) (by kernel_rfl) ?_); simp only [k20_a, WKV, Nat.reduceLT, Nat.reduceEqDiff, ↓reduceIte, reduceCtorEq, Nat.reduceAdd, Int.reduceLT, Int.reduceNeg, ya6, implies_true, eq_self, false_and, or_false, false_or, gD0, ycX, ycd pTD]; exact ⟨[], by show yam _ _ (env 53 _) [] = _; rfl, rfl⟩
 · rename_i r k; split at h
   · rename_i rm room off wr ar kp hr; have lo : yad Tryz.prog σ.objs 4 (.optr r 2) = some (.bool off) := (by rw [yab hr (by kernel_rfl)]; rfl); have lm : yad Tryz.prog σ.objs 72 (.optr r 0) = some (.omap rm) := (by rw [yab hr (by kernel_rfl)]; rfl); refine CallOk.nd (fn := Tryz.f20) Tryz.func20 bOff (by show [V.optr r 0, .int .i64 k].length ≤ 53; simp) ?_; show Nd Tryz.prog base w0 53 yps _ _ _; rw [sOff]; refine Nd.seq (Nd.ev hp (k := .seq (.region k20_r0) (.cond (.tmp 13) .ret .skip)) (by kernel_rfl) (by kernel_rfl) (by kernel_rfl) ?_); split at h
     · rename_i hoff; injection h with h; injection h with h1 h2; subst h1 h2; subst hoff; simp only [k20_a, WKV, Nat.reduceLT, Nat.reduceEqDiff, ↓reduceIte, reduceCtorEq, Nat.reduceAdd, Int.reduceLT, Int.reduceNeg, ya6, implies_true, eq_self, false_and, or_false, false_or, gD0, ycX, ybe pTD, pFA r 2 (by omega), lo]; exact ⟨[], by show yam _ _ (env 53 _) [] = _; rfl, rfl⟩
     · rename_i hoff; have hoff' : off = false := (by simpa using hoff); subst hoff'; split at h
       · rename_i es hm; split at h
         · rename_i fos hfos; split at h
           · rename_i hcond; obtain ⟨hnd, hrid, hall⟩ := hcond; injection h with h; injection h with h1 h2; subst h1 h2; obtain ⟨hfl, hfg⟩ := ygt hfos; have hrml := (gA0.1 hm).1; have hrl := (gA0.1 hr).1; obtain ⟨nd1, nd2⟩ := yhm hnd; have hgd : ∀ i, i < es.length → ∃ h : i < fos.length, fos.getD i default = fos[i] := fun i hi => ⟨by omega, by simp [gA6, List.getElem?_eq_getElem (show i < fos.length by omega)]⟩
             have hidl : ∀ i, i < es.length → ∀ q ∈ (fos.getD i default).ids, (∃ cs, σ.objs[q]? = some (.cells cs)) ∧ q < σ.objs.length ∧ q ≠ rm ∧ q ≠ r := by
               intro i hi q hq; obtain ⟨hi', e⟩ := hgd i hi; rw [e] at hq; obtain ⟨cs, hc⟩ := ypu (hfg i hi hi') hq; refine ⟨⟨cs, hc⟩, (gA0.1 hc).1, (fun e => by rw [e, hm] at hc; cases hc), ?_⟩; rintro rfl; exact hrid (List.mem_flatMap.2 ⟨_, List.getElem_mem hi', hq⟩)
             have hkey : ∀ i, i < es.length → ∀ q ∈ (yb6 k (σ.objs.length + 1) fos i).map (·.1), q ∈ (fos.getD i default).ids ∨ q = σ.objs.length + 1 + i := fun i hi q hq => yiJ hq
             have hnodup : ∀ vis : List Nat, vis.Nodup → (∀ i ∈ vis, i < es.length) → ((vis.flatMap (yb6 k (σ.objs.length + 1) fos)).map (·.1)).Nodup := by
               intro vis hv hvl; rw [List.map_flatMap]; refine yhl hv (fun i hi => ?_) (fun i hi j hj hne x hx hx2 => ?_)
               · obtain ⟨hi', e⟩ := hgd i (hvl i hi); have h9 := nd1 i hi'; have h8 := hidl i (hvl i hi); rw [← e] at h9; obtain ⟨f, hf⟩ : ∃ f, fos.getD i default = f := ⟨_, rfl⟩; rw [hf] at h8 h9; by_cases hke : f.kept k = []
                 · rw [ycg hf hke]; simp
                 · rw [ycf hf hke]; have hrfm : f.rf ∈ f.ids := (by simp [FO.ids]); have l1 := (h8 _ hrfm).2.1
                   cases hrs : f.rs with
                   | none => simp; omega
                   | some q =>
                     have hqm : q ∈ f.ids := (by simp [FO.ids, hrs]); have l2 := (h8 _ hqm).2.1
                     have h7 : f.rf ≠ q := by
                       intro e2; simp only [FO.ids, hrs, List.nodup_cons] at h9; exact h9.1 (by simp [e2])
                     simp; omega
               · rcases hkey i (hvl i hi) x hx with h1 | h1 <;> rcases hkey j (hvl j hj) x hx2 with h2 | h2
                 · obtain ⟨hi', e⟩ := hgd i (hvl i hi); obtain ⟨hj', e'⟩ := hgd j (hvl j hj); rw [e] at h1; rw [e'] at h2; exact nd2 i j hi' hj' hne x h1 h2
                 · have := (hidl i (hvl i hi) x h1).2.1; omega
                 · have := (hidl j (hvl j hj) x h2).2.1; omega
                 · omega
             simp only [k20_a, WKV, Nat.reduceLT, Nat.reduceEqDiff, ↓reduceIte, reduceCtorEq, Nat.reduceAdd, Int.reduceLT, Int.reduceNeg, ya6, implies_true, eq_self, false_and, or_false, false_or, gD0, ycX, ybe pTD, pFA r 2 (by omega), lo]; refine Nd.seq (Nd.seq (Nd.region ?_)); rw [f1s]; refine NdO.app (NdO.eo hp (cl := k20_r1.take 4) (by kernel_rfl) (by kernel_rfl) ?_); unfold k20_r1; simp only [List.take_succ_cons, List.take_zero, WKV, Nat.reduceLT, Nat.reduceEqDiff, ↓reduceIte, reduceCtorEq, Nat.reduceAdd, Int.reduceLT, Int.reduceNeg, ya6, implies_true, eq_self, false_and, or_false, false_or, gD0, pFA r 0 (by omega), lm]; refine NdO.range (rm := rm) (es := es) (t := 72) (x := .tmp 17) (by kernel_rfl) (by kernel_rfl) pTM (by simp only [WKV, Nat.reduceLT, Nat.reduceEqDiff, ↓reduceIte, reduceCtorEq, Nat.reduceAdd, Int.reduceLT, Int.reduceNeg, ya6, implies_true, eq_self, false_and, or_false, false_or]) hm ?_; intro b a clock hI; have hd : (oOff1.getD 4 default).dst = some 18 := (by kernel_rfl); rw [hd]; refine NdO.nil (.inl ⟨rfl, ?_⟩); obtain ⟨n, hn⟩ : ∃ n, n = σ.objs.length := ⟨_, rfl⟩; obtain ⟨W, hW⟩ : ∃ W, W = yb6 k (n + 1) fos := ⟨_, rfl⟩; obtain ⟨B, hB⟩ : ∃ B : Array Nat → Nat → List Ob, B = fun seen last => σ.objs.set rm (.mpR b es a clock) ++ [.it b clock seen last] ++ List.replicate es.length .unb := ⟨_, rfl⟩; rw [← hn, ← hW] at hkey hnodup; rw [← hn] at hrml hrl hidl; rw [← hn, ← hW]; have hBl : ∀ seen last, (B seen last).length = n + 1 + es.length := fun seen last => by rw [hB]; simp [hn]; omega
             have hBi : ∀ seen last, (B seen last)[n]? = some (.it b clock seen last) := fun seen last => by
               rw [hB]; simp only; rw [List.append_assoc, gA4 (by rw [List.length_set, hn]; exact Nat.le_refl _), List.length_set, hn, Nat.sub_self]; rfl
             have hBm : ∀ seen last, (B seen last)[rm]? = some (.mpR b es a clock) := fun seen last => by
               rw [hB]; simp only; rw [List.append_assoc, gA2 (by rw [List.length_set, ← hn]; exact hrml), gA5 (by rw [← hn]; exact hrml)]
             have hBo : ∀ seen last q, q < n → q ≠ rm → (B seen last)[q]? = σ.objs[q]? := fun seen last q h1 h2 => by
               rw [hB]; simp only; rw [List.append_assoc, gA2 (by rw [List.length_set, ← hn]; exact h1), gA3 (Ne.symm h2)]
             have hBu : ∀ seen last i, i < es.length → (B seen last)[n + 1 + i]? = some .unb := fun seen last i h1 => by
               rw [hB]; simp only; rw [gA4 (by simp [hn])]; simp [hn, h1]
             have hBs : ∀ seen last seen' last', (B seen last).set n (.it b clock seen' last') = B seen' last' := fun seen last seen' last' => by
               rw [hB]; simp only; rw [List.append_assoc, List.append_assoc, List.set_append_right _ _ (by rw [List.length_set, hn]; exact Nat.le_refl _), List.length_set, hn, Nat.sub_self]; rfl
             have hkn : ∀ vis : List Nat, (∀ i ∈ vis, i < es.length) → n ∉ (vis.flatMap W).map (·.1) ∧ rm ∉ (vis.flatMap W).map (·.1) ∧ r ∉ (vis.flatMap W).map (·.1) := by
               intro vis hvl; rw [List.map_flatMap]
               have key : ∀ q, q ∈ vis.flatMap (fun i => (W i).map (·.1)) → q ≠ n ∧ q ≠ rm ∧ q ≠ r := by
                 intro q hq; obtain ⟨i, hi, hq⟩ := List.mem_flatMap.1 hq; rcases hkey i (hvl i hi) q hq with h1 | h1
                 · have := hidl i (hvl i hi) q h1; omega
                 · omega
               exact ⟨fun h => (key n h).1 rfl, fun h => (key rm h).2.1 rfl, fun h => (key r h).2.2 rfl⟩
             have hkf : ∀ (vis : List Nat) (i : Nat), (∀ i ∈ vis, i < es.length) → i < es.length → i ∉ vis → (∀ q ∈ (fos.getD i default).ids, q ∉ (vis.flatMap W).map (·.1)) ∧ n + 1 + i ∉ (vis.flatMap W).map (·.1) := by
               intro vis i hvl hi hiv; rw [List.map_flatMap]
               have key : ∀ q, q ∈ vis.flatMap (fun i => (W i).map (·.1)) → q ∉ (fos.getD i default).ids ∧ q ≠ n + 1 + i := by
                 intro q hq; obtain ⟨j, hj, hq⟩ := List.mem_flatMap.1 hq; have hne : j ≠ i := fun e => hiv (by rw [← e]; exact hj); rcases hkey j (hvl j hj) q hq with h1 | h1
                 · refine ⟨fun h2 => ?_, by have := hidl j (hvl j hj) q h1; omega⟩; obtain ⟨hi', e⟩ := hgd i hi; obtain ⟨hj', e'⟩ := hgd j (hvl j hj); rw [e] at h2; rw [e'] at h1; exact nd2 j i hj' hi' hne q h1 h2
                 · exact ⟨fun h2 => (by have := hidl i hi q h2; omega), by omega⟩
               exact ⟨fun q hq h => (key q h).1 hq, fun h => (key _ h).2 rfl⟩
             refine Nd.re (σ1 := ⟨B #[] clock, σ.toks⟩) (fun g w tm hR hT => by rw [hB]; exact hides es.length hR) ?_; refine Nd.block ?_
             refine Nd.loop (fun vis e τ => ∃ seen last, It τ n rm es vis b clock a clock last seen ∧ τ = ⟨yaZ (vis.flatMap W) (B seen last), σ.toks⟩ ∧ e 18 = .optr n 0 ∧ e 0 = .optr r 0 ∧ e 1 = .int .i64 k) (fun vis => es.length - vis.length) ?_ []
               ⟨#[], clock, ⟨hBi _ _, hBm _ _, hI.sz, hI.old, hI.sl, hI.sc, hI.nd, rfl, List.nodup_nil, fun i h => by cases h⟩, rfl, by simp [yaa, hn], by simp [yaa], by simp [yaa]⟩
             rintro vis e τ ⟨seen, last, hI, rfl, h18, h0, h1⟩; rw [slOff]; refine Nd.seq (Nd.region ?_); rw [f2s]; have hd2 : (oOff2.getD 0 default).dst = some 19 := (by kernel_rfl); have hvk := hkn vis hI.vlt; refine NdO.next (ri := n) (rm := rm) (x := .tmp 18) (by kernel_rfl) (by kernel_rfl) (by simp only [WKV, Nat.reduceLT, Nat.reduceEqDiff, ↓reduceIte, reduceCtorEq, Nat.reduceAdd, Int.reduceLT, Int.reduceNeg, ya6, implies_true, eq_self, false_and, or_false, false_or, h18]) hI (by omega) ?_ ?_
             · intro hall2; rw [hd2]; refine NdO.eo hp (cl := k20_r2.drop 1) (by kernel_rfl) (by kernel_rfl) ?_; unfold k20_r2; simp only [List.drop_succ_cons, List.drop_zero, WKV, Nat.reduceLT, Nat.reduceEqDiff, ↓reduceIte, reduceCtorEq, Nat.reduceAdd, Int.reduceLT, Int.reduceNeg, ya6, implies_true, eq_self, false_and, or_false, false_or]; refine Nd.seq (Nd.cond (t := false) (by simp only [WKV, Nat.reduceLT, Nat.reduceEqDiff, ↓reduceIte, reduceCtorEq, Nat.reduceAdd, Int.reduceLT, Int.reduceNeg, ya6, implies_true, eq_self, false_and, or_false, false_or]) (Nd.exit (.inr ⟨(by intro h; cases h), .inr ⟨(by intro h; cases h), .inl ⟨rfl, ?_⟩⟩⟩))); have hperm := ykp hI.vnd hI.vlt hall2; obtain ⟨O, hO⟩ : ∃ O, O = yaZ ((List.range es.length).flatMap W) (σ.objs ++ [.dead] ++ List.replicate es.length .unb) := ⟨_, rfl⟩; rw [← hO]; have hrk := hkn (List.range es.length) (fun i hi => List.mem_range.1 hi)
               have hOr : O[r]? = some (.cells [.omap rm, room, .bool false, wr, ar, kp]) := by
                 rw [hO, ybK _ _ hrk.2.2, List.append_assoc, gA2 (by rw [← hn]; exact hrl)]; exact hr
               refine Nd.re (σ1 := ⟨O, σ.toks⟩) ?_ ?_
               · intro g w tm hR hT; refine ⟨g, Ext.refl _ _ _, ?_⟩; obtain ⟨m1, m2, m3, m4, m5, m6, m7⟩ := hR.obj rm _ hI.mp; have q1 := hR.reOb hI.mp (fun h => h) (o' := .mp es) (by intro h; cases h) ⟨m1, m2, a, clock, m4, m5, m6, m7⟩
                 have q2 := q1.bury n (by
                   simp only; rw [gA3 (by omega), hI.it]; intro h; cases h)
                 have e1 : ((yaZ (vis.flatMap W) (B seen last)).set rm (.mp es)).set n .dead = O := by
                   rw [← yed _ _ _ hvk.2.1, ← yed _ _ _ hvk.1, hO]
                   have e2 : ((B seen last).set rm (.mp es)).set n .dead = σ.objs ++ [.dead] ++ List.replicate es.length .unb := by
                     rw [hB]; simp only; rw [List.append_assoc, List.set_append_left _ _ (by rw [List.length_set, ← hn]; exact hrml), List.set_set, List.set_append_right _ _ (by rw [List.length_set, hn]; exact Nat.le_refl _), List.length_set, hn, Nat.sub_self, yfY hm, List.append_assoc]; rfl
                   rw [e2]; exact yjK (hperm.flatMap_right _) (hnodup vis hI.vnd hI.vlt) _
                 simp only at q2; rw [e1] at q2; exact q2
               · have st1 : yak Tryz.prog ⟨O, σ.toks⟩ 4 (.optr r 2) (.bool true) = some ⟨O.set r (.cells [.omap rm, room, .bool true, wr, ar, kp]), σ.toks⟩ := by
                   rw [yag hOr (by kernel_rfl) rfl (by simp)]; rfl
                 have hOrl := (gA0.1 hOr).1
                 have st2 : yak Tryz.prog ⟨O.set r (.cells [.omap rm, room, .bool true, wr, ar, kp]), σ.toks⟩ 3 (.optr r 4) (.int .i64 0) = some ⟨O.set r (.cells [.omap rm, room, .bool true, wr, .int .i64 0, kp]), σ.toks⟩ := by
                   rw [yag (σ := ⟨O.set r (.cells [.omap rm, room, .bool true, wr, ar, kp]), σ.toks⟩) (cs := [.omap rm, room, .bool true, wr, ar, kp]) (gA5 hOrl) (by kernel_rfl) rfl (by simp)]; simp [List.set_set]
                 refine Nd.ev hp (k := .region k20_r5) (by kernel_rfl) (by kernel_rfl) (by kernel_rfl) ?_; simp only [k20_a, WKV, Nat.reduceLT, Nat.reduceEqDiff, ↓reduceIte, reduceCtorEq, Nat.reduceAdd, Int.reduceLT, Int.reduceNeg, ya6, implies_true, eq_self, false_and, or_false, false_or, h0, pFA r 2 (by omega), pFA r 4 (by omega), st1, st2]; exact ⟨[], by show yam _ _ (env 53 _) [] = _; rfl, rfl⟩
             · intro i hiv hi hI2; rw [hd2]; refine NdO.eo hp (cl := k20_r2.drop 1) (by kernel_rfl) (by kernel_rfl) ?_; unfold k20_r2; simp only [List.drop_succ_cons, List.drop_zero, WKV, Nat.reduceLT, Nat.reduceEqDiff, ↓reduceIte, reduceCtorEq, Nat.reduceAdd, Int.reduceLT, Int.reduceNeg, ya6, implies_true, eq_self, false_and, or_false, false_or]; refine Nd.seq (Nd.cond (t := true) (by simp only [WKV, Nat.reduceLT, Nat.reduceEqDiff, ↓reduceIte, reduceCtorEq, Nat.reduceAdd, Int.reduceLT, Int.reduceNeg, ya6, implies_true, eq_self, false_and, or_false, false_or]) (Nd.skip (.inl ⟨rfl, ?_⟩))); obtain ⟨seen', hseen'⟩ : ∃ s, s = seen.push (a.getD i default).born := ⟨_, rfl⟩; rw [← hseen'] at hI2 ⊢; rw [← yed _ _ _ hvk.1, hBs] at hI2 ⊢; obtain ⟨O, hO⟩ : ∃ O, O = yaZ (vis.flatMap W) (B seen' clock) := ⟨_, rfl⟩; rw [← hO] at hI2 ⊢; have hOl : O.length = n + 1 + es.length := (by rw [hO, ybF, hBl]); refine Nd.block (Nd.seq (Nd.region ?_)); rw [f3s]; refine NdO.entry (ri := n) (rm := rm) (vis := vis) (seen := seen) (x := .tmp 18) (by kernel_rfl) (by kernel_rfl) (by simp only [WKV, Nat.reduceLT, Nat.reduceEqDiff, ↓reduceIte, reduceCtorEq, Nat.reduceAdd, Int.reduceLT, Int.reduceNeg, ya6, implies_true, eq_self, false_and, or_false, false_or, h18]) (by rw [← hseen']; exact hI2) hi ?_; have hd3 : (oOff3.getD 0 default).dst = some 21 := (by kernel_rfl); rw [hd3]; refine NdO.eo hp (cl := k20_r3.drop 1) (by kernel_rfl) (by kernel_rfl) ?_; unfold k20_r3; simp only [List.drop_succ_cons, List.drop_zero, WKV, Nat.reduceLT, Nat.reduceEqDiff, ↓reduceIte, reduceCtorEq, Nat.reduceAdd, Int.reduceLT, Int.reduceNeg, ya6, implies_true, eq_self, false_and, or_false, false_or]; obtain ⟨hi', efo⟩ := hgd i hi; obtain ⟨f, hf⟩ : ∃ f, fos.getD i default = f := ⟨_, rfl⟩; have hfo := hfg i hi hi'; have hidi := hidl i hi; have hkfi := hkf vis i hI.vlt hi hiv; have hndi := nd1 i hi'; rw [← efo] at hfo hndi; rw [hf] at hfo hidi hkfi hndi; have hallf := List.all_eq_true.1 hall f (by rw [← hf, efo]; exact List.getElem_mem hi'); simp only [Bool.and_eq_true, decide_eq_true_eq] at hallf; obtain ⟨k2, k3, k4, k5⟩ := ygq hfo
               have hOq : ∀ q ∈ f.ids, O[q]? = σ.objs[q]? := fun q hq => by
                 rw [hO, ybK _ _ (hkfi.1 q hq)]; exact hBo _ _ q (hidi q hq).2.1 (hidi q hq).2.2.1
               have hrfm : f.rf ∈ f.ids := (by simp [FO.ids]); have hOrf : O[f.rf]? = some (.cells [f.s, f.w]) := (by rw [hOq _ hrfm]; exact k3); have hOs : yaU O f.s = some (f.rs, f.cs) := yd8 k4 fun q hq => hOq q (by simp [FO.ids, hq]); have hOw : yaU O f.w = some (f.rw, f.ds) := yd8 k5 fun q hq => hOq q (by simp [FO.ids, hq]); have hOu : O[n + 1 + i]? = some .unb := by rw [hO, ybK _ _ hkfi.2]; exact hBu _ _ i hi
               have hlw : ygh f.w = some f.ds.length := by
                 rcases yaC hOw with ⟨e1, _, e2⟩ | ⟨_, _, e1, _⟩
                 · rw [e1, e2]; rfl
                 · rw [e1]; rfl
               obtain ⟨w', hsl, hnw⟩ := ylK hOw k
               have hmx : vmm true (.int .i64 k) (.int .i64 0) = some (.int .i64 (max k 0)) := by
                 simp only [vmm, if_true]; congr 2; omega
               have hmn : vmm false (.int .i64 (max k 0)) (.int .i64 (f.ds.length : Nat)) = some (.int .i64 (min (max k 0) (f.ds.length : Nat))) := by
                 simp only [vmm, Bool.false_eq_true, if_false]; congr 2; omega
               have hap := yhr (toks := σ.toks) hOs hnw hallf.1 hallf.2; have ls : yad Tryz.prog O 30 (.optr f.rf 0) = some f.s := (by rw [yab hOrf pGB]; rfl); have lw : yad Tryz.prog O 30 (.optr f.rf 1) = some f.w := by rw [yab hOrf pGB]; rfl
               have hones : one f.s = true := by
                 rcases yaC hOs with ⟨e1, _⟩ | ⟨_, _, e1, _⟩ <;> rw [e1] <;> rfl
               by_cases hke : f.kept k = []
               · have hap2 : yaK Tryz.prog ⟨O, σ.toks⟩ 30 30 f.s w' = some (f.s, ⟨O, σ.toks⟩) := by rw [hap]; exact if_pos hke
                 have s1 : yak Tryz.prog ⟨O, σ.toks⟩ 30 (.optr f.rf 0) f.s = some ⟨O, σ.toks⟩ := by
                   rw [yag hOrf pSB hones (by simp)]; simp [yfY hOrf]
                 have s2 : yak Tryz.prog ⟨O, σ.toks⟩ 30 (.optr f.rf 1) .nils = some ⟨O.set f.rf (.cells [f.s, .nils]), σ.toks⟩ := by
                   rw [yag hOrf pSB rfl (by simp)]; rfl
                 have hOn : O.set f.rf (.cells [f.s, .nils]) = yaZ ((vis ++ [i]).flatMap W) (B seen' clock) := by
                   rw [List.flatMap_append, ybU, ← hO, List.flatMap_singleton, hW, ycg hf hke]; rfl
                 refine Nd.ev hp (k := .region k20_r4) (by kernel_rfl) (by kernel_rfl) (by kernel_rfl) ?_; simp only [k20_a, WKV, Nat.reduceLT, Nat.reduceEqDiff, ↓reduceIte, reduceCtorEq, Nat.reduceAdd, Int.reduceLT, Int.reduceNeg, ya6, implies_true, eq_self, false_and, or_false, false_or, h1, k2, ynm, ymo, ls, lw, yd3 hlw, hmx, hmn, pTB, hsl, hap2, s1, ybd, s2]; refine ⟨vis ++ [i], ⟨seen', clock, ?_, by rw [hOn], h18, h0⟩, ?_⟩
                 · refine ⟨?_, ?_, hI2.sz, hI2.old, hI2.sl, hI2.sc, hI2.nd, hI2.hvis, hI2.vnd, hI2.vlt⟩
                   · simp only; rw [gA3 (by have := (hidi _ hrfm).2.1; omega)]; exact hI2.it
                   · simp only; rw [gA3 (hidi _ hrfm).2.2.1]; exact hI2.mp
                 · have := yno hI2.vnd hI2.vlt; simp only [List.length_append, List.length_cons, List.length_nil] at this ⊢; omega
               · have hap2 : yaK Tryz.prog ⟨O, σ.toks⟩ 30 30 f.s w' = some (.hslice O.length 0 1 (f.cs.length + (f.kept k).length), ⟨yaZ (f.rs.toList.map (·, Ob.dead)) O ++ [Ob.cells (f.cs ++ f.kept k)], σ.toks⟩) := (by rw [hap]; exact if_neg hke); obtain ⟨D, hD⟩ : ∃ D, D = yaZ (f.rs.toList.map (·, Ob.dead)) O := ⟨_, rfl⟩; rw [← hD] at hap2; obtain ⟨len, hlen⟩ : ∃ len, len = f.cs.length + (f.kept k).length := ⟨_, rfl⟩; rw [← hlen] at hap2; have hDl : D.length = O.length := by rw [hD, ybF]
                 have hrsk : ∀ q ∈ (f.rs.toList.map (·, Ob.dead)).map (·.1), q ∈ f.ids ∧ q ≠ f.rf := by
                   intro q hq; simp only [List.map_map, List.mem_map, Option.mem_toList] at hq; obtain ⟨a', ha, rfl⟩ := hq; have hm1 : a' ∈ f.rs.toList := (by rw [ha]; simp); refine ⟨by simp only [FO.ids, List.mem_cons, List.mem_append]; exact .inr (.inl hm1), fun e => ?_⟩; simp only [FO.ids, List.nodup_cons, List.mem_append, not_or] at hndi; exact hndi.1.1 (by rw [← e]; exact hm1)
                 have hDrf : D[f.rf]? = some (.cells [f.s, f.w]) := (by rw [hD, ybK _ _ (fun h => (hrsk _ h).2 rfl)]; exact hOrf); have hDu : D[n + 1 + i]? = some .unb := (by rw [hD, ybK _ _ (fun h => by have := (hidi _ (hrsk _ h).1).2.1; omega)]; exact hOu); obtain ⟨D2, hD2⟩ : ∃ D2, D2 = D.set f.rf (.cells [.hslice O.length 0 1 len, .nils]) := ⟨_, rfl⟩; have hrfD : f.rf < D.length := (gA0.1 hDrf).1
                 have s1 : yak Tryz.prog ⟨D ++ [Ob.cells (f.cs ++ f.kept k)], σ.toks⟩ 30 (.optr f.rf 0) (.hslice O.length 0 1 len) = some ⟨(D ++ [Ob.cells (f.cs ++ f.kept k)]).set f.rf (.cells [.hslice O.length 0 1 len, f.w]), σ.toks⟩ := by
                   rw [yag (σ := ⟨D ++ [Ob.cells (f.cs ++ f.kept k)], σ.toks⟩) (by simp only; rw [gA2 hrfD]; exact hDrf) pSB rfl (by simp)]; rfl
                 have s2 : yak Tryz.prog ⟨(D ++ [Ob.cells (f.cs ++ f.kept k)]).set f.rf (.cells [.hslice O.length 0 1 len, f.w]), σ.toks⟩ 30 (.optr f.rf 1) .nils = some ⟨D2 ++ [Ob.cells (f.cs ++ f.kept k)], σ.toks⟩ := by
                   rw [yag (σ := ⟨(D ++ [Ob.cells (f.cs ++ f.kept k)]).set f.rf (.cells [.hslice O.length 0 1 len, f.w]), σ.toks⟩) (cs := [.hslice O.length 0 1 len, f.w]) (gA5 (by simp; omega)) pSB rfl (by simp)]; simp [List.set_set, hD2, List.set_append_left _ _ hrfD]; rw [List.set_append_left _ _ (by simpa using hrfD), List.set_set]
                 have hON : O.length = n + 1 + es.length := hOl; refine Nd.post (Q' := fun x e1 σ1 => x = .normal ∧ e1 18 = .optr n 0 ∧ e1 0 = .optr r 0 ∧ e1 1 = .int .i64 k ∧ σ1 = ⟨D2 ++ [Ob.cells (f.cs ++ f.kept k)], σ.toks⟩) ?_ ?_
                 · refine Nd.ev hp (k := .region k20_r4) (by kernel_rfl) (by kernel_rfl) (by kernel_rfl) ?_; simp only [k20_a, WKV, Nat.reduceLT, Nat.reduceEqDiff, ↓reduceIte, reduceCtorEq, Nat.reduceAdd, Int.reduceLT, Int.reduceNeg, ya6, implies_true, eq_self, false_and, or_false, false_or, h0, h1, h18, k2, ynm, ymo, ls, lw, yd3 hlw, hmx, hmn, pTB, hsl, hap2, s1, ybd, s2]
                 · rintro x e1 σ1 ⟨rfl, g18, g0, g1, rfl⟩
                   have hOn : (D.set f.rf (.cells [.hslice (n + 1 + i) 0 1 len, .nils])).set (n + 1 + i) (.cells (f.cs ++ f.kept k)) = yaZ ((vis ++ [i]).flatMap W) (B seen' clock) := by
                     rw [List.flatMap_append, ybU, ← hO, List.flatMap_singleton, hW, ycf hf hke, ybU, ← hD, ← hlen]; rfl
                   refine ⟨fun t => yco O.length (n + 1 + i) (e1 t), ⟨(D.set f.rf (.cells [.hslice (n + 1 + i) 0 1 len, .nils])).set (n + 1 + i) (.cells (f.cs ++ f.kept k)), σ.toks⟩, ?_, ?_⟩
                   · refine .inr ⟨(by intro h; cases h), .inl ⟨rfl, vis ++ [i], ⟨seen', clock, ?_, by rw [hOn], ?_, ?_, ?_⟩, ?_⟩⟩
                     · refine ⟨?_, ?_, hI2.sz, hI2.old, hI2.sl, hI2.sc, hI2.nd, hI2.hvis, hI2.vnd, hI2.vlt⟩
                       · simp only; rw [gA3 (by omega), gA3 (by have := (hidi _ hrfm).2.1; omega), hD, ybK _ _ (fun h => by have := (hidi _ (hrsk _ h).1).2.1; omega)]; exact hI2.it
                       · simp only; rw [gA3 (by omega), gA3 (hidi _ hrfm).2.2.1, hD, ybK _ _ (fun h => (hidi _ (hrsk _ h).1).2.2.1 rfl)]; exact hI2.mp
                     · simp only [g18]; exact yim (by omega)
                     · simp only [g0]; exact yim (by omega)
                     · simp only [g1]; rfl
                     · have := yno hI2.vnd hI2.vlt; simp only [List.length_append, List.length_cons, List.length_nil] at this ⊢; omega
                   · intro gg0 Wd g w tm hR0 hE hR hT; have hn0 : gg0.n = O.length := hR0.n; have hnN : ¬ gg0.has O.length := fun h => by have := h.1; omega
                     have hnj : ¬ gg0.has (n + 1 + i) := fun h => by
                       have h2 := (hR0.hid (n + 1 + i)).2 hOu; rw [h.2] at h2; cases h2
                     have hD2l : D2.length = O.length := (by rw [hD2, List.length_set, hDl]); have hD2u : D2[n + 1 + i]? = some .unb := (by rw [hD2, gA3 (by have := (hidi _ hrfm).2.1; omega)]; exact hDu); have hmv := Rel.move hR hD2u (by intro h; cases h); rw [hD2l] at hmv; have ok : ∀ q o, O[q]? = some o → yeg O.length (n + 1 + i) o = o := fun q o hq => (hR0.obj q o hq).ren_old hnN
                     have cok : ∀ (v : V) (q : Option Nat) (cs : List V), yaU O v = some (q, cs) → ∀ x ∈ cs, yco O.length (n + 1 + i) x = x := by
                       intro v q cs hv x hx; rcases yaC hv with ⟨_, _, e2⟩ | ⟨rr, full, _, _, hrr, _, e2⟩
                       · rw [e2] at hx; cases hx
                       · have := ok _ _ hrr; simp only [yeg, Ob.cells.injEq] at this; rw [e2] at hx; exact yp6 this x (List.mem_of_mem_take hx)
                     have e3 : D2.map (yeg O.length (n + 1 + i)) = D.set f.rf (.cells [.hslice (n + 1 + i) 0 1 len, .nils]) := by
                       apply List.ext_getElem?; intro q; rw [List.getElem?_map, hD2]; by_cases eq : f.rf = q
                       · subst eq; rw [gA5 hrfD, gA5 hrfD]; simp [yeg, ycR, yco]
                       · rw [gA3 eq, gA3 eq]
                         cases hq : D[q]? with
                         | none => rfl
                         | some o =>
                           simp only [Option.map_some]; rw [hD] at hq; rcases ygN hq with rfl | hq
                           · rfl
                           · rw [ok _ _ hq]
                     have e4 : yeg O.length (n + 1 + i) (Ob.cells (f.cs ++ f.kept k)) = .cells (f.cs ++ f.kept k) := by
                       simp only [yeg]; rw [ren_of]; intro x hx; rcases List.mem_append.1 hx with hx | hx
                       · exact cok _ _ _ hOs x hx
                       · exact cok _ _ _ hOw x (List.mem_of_mem_take hx)
                     rw [e3, e4] at hmv; refine ⟨g.move O.length (n + 1 + i), hE.move (by omega) hnj, hmv, ?_⟩; have hgn : g.n = O.length + 1 := (by rw [hR.n]; simp [hD2l]); have hgh : g.hid (n + 1 + i) = true := (hR.hid _).2 (by simp only; rw [gA2 (by omega)]; exact hD2u); have := VRs.move (N := O.length) (j := n + 1 + i) hgn (by omega) hgh _ hT; rw [ycB] at this; simpa [env, Function.comp_def] using this
           · cases h
         · cases h
       · cases h
   · cases h
 · cases h
section
open Go.Shelf
def ylj : Ren where
 f := fun x => match x with
   | 10 => 93
   | n => n
 t := fun x => match x with
   | 0 => 0
   | 3 => 75
   | 4 => 4
   | 23 => 72
   | 26 => 9
   | 33 => 106
   | n => n
 g := fun x => x
theorem layK : SlLaysZ.n10 Tryz.prog ylj where
 mixed := by kernel_rfl
 f10 := ⟨ "maps.Keys[map[string]*quern/disk.file,string,*quern/disk.file]$1", by decide, Tryz.func93.trans (congrArg some (by kernel_rfl))⟩
 t0 := Tryz.underlying0
 a0 := Tryz.isAgg0
 z0 := Tryz.sizeOf0
 v0 := Tryz.zeroValue0
 t4 := Tryz.underlying4
 a4 := Tryz.isAgg4
 z4 := Tryz.sizeOf4
 v4 := Tryz.zeroValue4
 t23 := Tryz.underlying72
 a23 := Tryz.isAgg72
 z23 := Tryz.sizeOf72
 v23 := Tryz.zeroValue72
 t26 := Tryz.underlying9
 a26 := Tryz.isAgg9
 z26 := Tryz.sizeOf9
 v26 := Tryz.zeroValue9
 t33 := Tryz.underlying106
 a33 := Tryz.isAgg106
 z33 := Tryz.sizeOf106
 v33 := Tryz.zeroValue106
def yj7 : Ren where
 f := fun x => match x with
   | 6 => 77
   | 8 => 91
   | 9 => 92
   | 11 => 100
   | n => n
 t := fun x => match x with
   | 0 => 0
   | 24 => 70
   | 26 => 9
   | 28 => 104
   | 33 => 106
   | n => n
 g := fun x => x
theorem layS : SlLaysZ.n6 Tryz.prog yj7 where
 mixed := by kernel_rfl
 f6 := ⟨ "slices.Sorted[string]", by decide, Tryz.func77.trans (congrArg some (by kernel_rfl))⟩
 f8 := ⟨ "slices.Collect[string]", by decide, Tryz.func91.trans (congrArg some (by kernel_rfl))⟩
 f11 := ⟨ "slices.AppendSeq[[]string,string]", by decide, Tryz.func100.trans (congrArg some (by kernel_rfl))⟩
 t0 := Tryz.underlying0
 a0 := Tryz.isAgg0
 z0 := Tryz.sizeOf0
 v0 := Tryz.zeroValue0
 t24 := Tryz.underlying70
 a24 := Tryz.isAgg70
 z24 := Tryz.sizeOf70
 v24 := Tryz.zeroValue70
 t26 := Tryz.underlying9
 a26 := Tryz.isAgg9
 z26 := Tryz.sizeOf9
 v26 := Tryz.zeroValue9
 t28 := Tryz.underlying104
 a28 := Tryz.isAgg104
 z28 := Tryz.sizeOf104
 v28 := Tryz.zeroValue104
 i26 := by kernel_rfl
def yo5 : Ren where
 f := fun x => match x with
   | 6 => 92
   | 8 => 102
   | 9 => 101
   | 19 => 118
   | 20 => 119
   | 21 => 109
   | 22 => 110
   | 23 => 111
   | 24 => 112
   | 25 => 113
   | 26 => 114
   | 27 => 115
   | 28 => 116
   | 29 => 117
   | 31 => 128
   | 32 => 129
   | 36 => 127
   | 37 => 130
   | 38 => 131
   | 39 => 132
   | 41 => 139
   | n => n
 t := fun x => match x with
   | 0 => 0
   | 3 => 3
   | 4 => 4
   | 5 => 5
   | 9 => 9
   | 26 => 70
   | 27 => 70
   | 29 => 9
   | 32 => 110
   | 35 => 138
   | 36 => 139
   | 41 => 144
   | 44 => 108
   | 46 => 119
   | 53 => 158
   | 57 => 162
   | 63 => 174
   | 64 => 175
   | n => n
 g := fun x => x
theorem layM : SlLaysM.n6 Tryz.prog yo5 where
 mixed := by kernel_rfl
 f6 := ⟨ "slices.Sort[[]string,string]", by decide, Tryz.func92.trans (congrArg some (by kernel_rfl))⟩
 f8 := Tryz.func102.trans (congrArg some (by kernel_rfl))
 f9 := ⟨ "slices.pdqsortOrdered[string]", by decide, Tryz.func101.trans (congrArg some (by kernel_rfl))⟩
 f19 := Tryz.func118.trans (congrArg some (by kernel_rfl))
 f20 := Tryz.func119.trans (congrArg some (by kernel_rfl))
 f21 := ⟨ "slices.insertionSortOrdered[string]", by decide, Tryz.func109.trans (congrArg some (by kernel_rfl))⟩
 f22 := ⟨ "slices.heapSortOrdered[string]", by decide, Tryz.func110.trans (congrArg some (by kernel_rfl))⟩
 f23 := ⟨ "slices.breakPatternsOrdered[string]", by decide, Tryz.func111.trans (congrArg some (by kernel_rfl))⟩
 f24 := ⟨ "slices.choosePivotOrdered[string]", by decide, Tryz.func112.trans (congrArg some (by kernel_rfl))⟩
 f25 := ⟨ "slices.reverseRangeOrdered[string]", by decide, Tryz.func113.trans (congrArg some (by kernel_rfl))⟩
 f26 := ⟨ "slices.partialInsertionSortOrdered[string]", by decide, Tryz.func114.trans (congrArg some (by kernel_rfl))⟩
 f27 := ⟨ "cmp.Less[string]", by decide, Tryz.func115.trans (congrArg some (by kernel_rfl))⟩
 f28 := ⟨ "slices.partitionEqualOrdered[string]", by decide, Tryz.func116.trans (congrArg some (by kernel_rfl))⟩
 f29 := ⟨ "slices.partitionOrdered[string]", by decide, Tryz.func117.trans (congrArg some (by kernel_rfl))⟩
 f31 := Tryz.func128.trans (congrArg some (by kernel_rfl))
 f32 := Tryz.func129.trans (congrArg some (by kernel_rfl))
 f36 := ⟨ "slices.siftDownOrdered[string]", by decide, Tryz.func127.trans (congrArg some (by kernel_rfl))⟩
 f37 := ⟨ "slices.medianAdjacentOrdered[string]", by decide, Tryz.func130.trans (congrArg some (by kernel_rfl))⟩
 f38 := ⟨ "slices.medianOrdered[string]", by decide, Tryz.func131.trans (congrArg some (by kernel_rfl))⟩
 f39 := ⟨ "cmp.isNaN[string]", by decide, Tryz.func132.trans (congrArg some (by kernel_rfl))⟩
 f41 := ⟨ "slices.order2Ordered[string]", by decide, Tryz.func139.trans (congrArg some (by kernel_rfl))⟩
 t0 := Tryz.underlying0
 a0 := Tryz.isAgg0
 z0 := Tryz.sizeOf0
 v0 := Tryz.zeroValue0
 t3 := Tryz.underlying3
 a3 := Tryz.isAgg3
 z3 := Tryz.sizeOf3
 v3 := Tryz.zeroValue3
 t4 := Tryz.underlying4
 a4 := Tryz.isAgg4
 z4 := Tryz.sizeOf4
 v4 := Tryz.zeroValue4
 t5 := Tryz.underlying5
 a5 := Tryz.isAgg5
 z5 := Tryz.sizeOf5
 v5 := Tryz.zeroValue5
 t9 := Tryz.underlying9
 a9 := Tryz.isAgg9
 z9 := Tryz.sizeOf9
 v9 := Tryz.zeroValue9
 t26 := Tryz.underlying70
 a26 := Tryz.isAgg70
 z26 := Tryz.sizeOf70
 v26 := Tryz.zeroValue70
 t27 := Tryz.underlying70
 a27 := Tryz.isAgg70
 z27 := Tryz.sizeOf70
 v27 := Tryz.zeroValue70
 t29 := Tryz.underlying9
 a29 := Tryz.isAgg9
 z29 := Tryz.sizeOf9
 v29 := Tryz.zeroValue9
 t32 := Tryz.underlying110
 a32 := Tryz.isAgg110
 z32 := Tryz.sizeOf110
 v32 := Tryz.zeroValue110
 t35 := Tryz.underlying138
 a35 := Tryz.isAgg138
 z35 := Tryz.sizeOf138
 v35 := Tryz.zeroValue138
 t36 := Tryz.underlying139
 a36 := Tryz.isAgg139
 z36 := Tryz.sizeOf139
 v36 := Tryz.zeroValue139
 t41 := Tryz.underlying144
 a41 := Tryz.isAgg144
 z41 := Tryz.sizeOf144
 v41 := Tryz.zeroValue144
 t44 := Tryz.underlying108
 a44 := Tryz.isAgg108
 z44 := Tryz.sizeOf108
 v44 := Tryz.zeroValue108
 t46 := Tryz.underlying119
 a46 := Tryz.isAgg119
 z46 := Tryz.sizeOf119
 v46 := Tryz.zeroValue119
 t53 := Tryz.underlying158
 a53 := Tryz.isAgg158
 z53 := Tryz.sizeOf158
 v53 := Tryz.zeroValue158
 t57 := Tryz.underlying162
 a57 := Tryz.isAgg162
 z57 := Tryz.sizeOf162
 v57 := Tryz.zeroValue162
 t63 := Tryz.underlying174
 a63 := Tryz.isAgg174
 z63 := Tryz.sizeOf174
 v63 := Tryz.zeroValue174
 t64 := Tryz.underlying175
 a64 := Tryz.isAgg175
 z64 := Tryz.sizeOf175
 v64 := Tryz.zeroValue175
def ygM : List (V × V) → Option (List (List UInt8))
 | [] => some []
 | (.str s, _) :: es => (ygM es).map (s :: ·)
 | _ => none
theorem ygw : ∀ {es : List (V × V)} {ks : List (List UInt8)}, ygM es = some ks → es.map (·.1) = ks.map V.str
 | [], ks, h => by simp [ygM] at h; subst h; rfl
 | e :: es, ks, h => by
   obtain ⟨a, b⟩ := e
   cases a <;> simp only [ygM, reduceCtorEq] at h
   rw [gA1] at h; obtain ⟨l, h1, rfl⟩ := h; simp [ygw h1]
def leS : List UInt8 → List UInt8 → Bool := fun x y => decide (x ≤ y)
def ygA (vs : List V) (σ : St) : Option (V × St) := match vs with
 | [.func f [.optr rb 0]] => if f = 93 then match σ.objs[rb]? with
   | some (.tcells _ [.omap rm]) => match σ.objs[rm]? with
     | some (.mp es) => match ygM es with
       | some ks => if ks.Nodup ∧ ks.length ≤ 1000000000 ∧ (ks.all fun s => decide (s.length ≤ 140737488355328)) = true then
           (if ks = [] then some (.nils, σ) else some (.hslice σ.objs.length 0 1 ks.length, ⟨σ.objs ++ [.cells ((ks.mergeSort leS).map V.str)], σ.toks⟩)) else none
       | none => none
     | _ => none
   | _ => none
   else none
 | _ => none
theorem layMs (m : Nat) : AnyZ.SortsIn Tryz.prog yj7 Fence.wide m :=
 ⟨fun blk off cap ss W hH hblk hsz => callsIn_wide.2 (AnyM.slices_Sort_string layM blk off cap ss W hH hblk hsz),
  fun p cap W => callsIn_wide.2 (AnyM.slices_Sort_string_none layM p cap W)⟩
theorem yhH {g : Gh} {s : List Bool} {w : World} : ∀ (ks : List (List UInt8)) {us : List Value}, VRs g s w (ks.map V.str) us ↔ us = ks.map fun k => Value.string ⟨k.toArray⟩
 | [], us => by simp [VRs]
 | k :: ks, us => by
   simp only [List.map_cons, VRs, VR]; constructor
   · rintro ⟨u, us', rfl, rfl, h⟩; rw [(yhH ks).1 h]
   · rintro rfl; exact ⟨_, _, rfl, rfl, (yhH ks).2 rfl⟩
def yl6 : Value → Option (DataW Unit × List MemPlace) := fun _ => some (.lit (.bool true), [])
open Go.Maps Go.Sort Go.WideElems in
theorem ynu {base : Nat} {w0 : World} {vs : List V} {σ : St} {v : V} {σ' : St} (h : ygA vs σ = some (v, σ')) : CallOk Tryz.prog base w0 77 vs σ (.ret v) σ' := by
 unfold ygA at h; split at h
 · rename_i f rb; split at h
   · rename_i hf; subst hf; split at h
     · rename_i tb rm hrb; split at h
       · rename_i es hm; split at h
         · rename_i ks hks; split at h
           · rename_i hc; obtain ⟨c1, c2, c3⟩ := hc; intro g w us hR hV; obtain ⟨b1, b2, b3, ub, b4, b5⟩ := hR.obj rb _ hrb; obtain ⟨m1, m2, a, clock, m3, m4, m5, m6, m7⟩ := hR.obj rm _ hm; simp only [VRs, VR] at b5; obtain ⟨u1, us1, rfl, ⟨hrm, rfl⟩, rfl⟩ := b5; simp only [VRs] at hV; obtain ⟨u2, us2, rfl, hV1, rfl⟩ := hV; simp only [VR, VRs] at hV1; obtain ⟨u3, rfl, u4, us4, rfl, ⟨hrbh, rfl⟩, rfl⟩ := hV1; rw [b3]; rw [ygw hks, yhH] at m4
             have hsz : a.size = ks.length := by
               have := congrArg List.length m4; simpa using this
             have hkey : ∀ x ∈ a.toList, ∃ k ∈ ks, x.key = Value.string ⟨k.toArray⟩ := by
               intro x hx; have : x.key ∈ ks.map (fun k => Value.string ⟨k.toArray⟩) := (by rw [← m4]; exact List.mem_map_of_mem hx); obtain ⟨k, hk, he⟩ := List.mem_map.1 this; exact ⟨k, hk, he.symm⟩
             have hkl : ∀ k ∈ ks, k.length ≤ maxLen := fun k hk => by
               have := List.all_eq_true.1 c3 k hk; have h9 : (140737488355328 : Nat) ≤ maxLen := (by decide); simp at this; omega
             have hrd : ∀ x ∈ a.toList, ∃ k ∈ ks, x.key = Value.string ⟨k.toArray⟩ ∧ rd Tryz.prog 9 yl6 x = some (.string k, .lit (.bool true)) := by
               intro x hx; obtain ⟨k, hk, he⟩ := hkey x hx; refine ⟨k, hk, he, ?_⟩; have hko := Go.WideMaps.keyOf_string_mk (P := Tryz.prog) (k := 9) (by kernel_rfl) (s := ⟨k.toArray⟩) (by have := hkl k hk; simpa [ByteArray.size] using this); obtain ⟨xk, xv, xb⟩ := x; simp only at he; rw [he]; exact Go.WideElems.rd_mk (R := yl6) (yv := (.lit (.bool true), [])) hko rfl
             have hsm : a.size ≤ maxLen := by
               have h9 : (1000000000 : Nat) ≤ maxLen := (by decide); omega
             have hown : w.ownsMap Tryz.prog 9 yl6 (g.ρ rm) a.size (.map ((a.toList.map (rg Tryz.prog 9 yl6)).foldr DataW.insert [])) := by
               refine ⟨a, clock, m3, ⟨hsm, ⟨m6, m7, ?_⟩, fun x hx => ?_⟩, Nat.le_refl _, rfl⟩
               · rw [m4]; exact List.Pairwise.map _ (fun x y hne he => hne (by simpa using he)) c1
               · obtain ⟨k, _, _, h3⟩ := hrd x hx; exact ⟨_, h3⟩
             have hperm : (strKeys (DataW.map ((a.toList.map (rg Tryz.prog 9 yl6)).foldr DataW.insert []))).Perm ks := by
               have h1 := Go.WideShapes.sorted_perm (a.toList.map (rg Tryz.prog 9 yl6))
               have h2 : ((a.toList.map (rg Tryz.prog 9 yl6)).map fun p => strOf p.1) = ks := by
                 rw [List.map_map]
                 have h3 : a.toList.map ((fun p : Lit × DataW Unit => strOf p.1) ∘ rg Tryz.prog 9 yl6) = a.toList.map fun x => match x.key with | .string b => b.data.toList | _ => [] := by
                   refine List.map_congr_left fun x hx => ?_; obtain ⟨k, _, he, h4⟩ := hrd x hx; simp only [Function.comp, rg_of h4, he, strOf]
                 rw [h3]
                 have h5 : (a.toList.map fun x => match x.key with | .string b => b.data.toList | _ => []) = (a.toList.map (·.key)).map fun v => match v with | .string b => b.data.toList | _ => [] := by rw [List.map_map]; rfl
                 rw [h5, m4, List.map_map]; exact (List.map_congr_left fun x _ => rfl).trans (List.map_id' ks)
               rw [← h2]; exact h1.map _
             have hseq : SeqGives Fence.wide 2 Tryz.prog 93 #[.pointer (some ⟨g.ρ rb, 0, none⟩)] encStr (fun ss => ss.Perm (strKeys (DataW.map ((a.toList.map (rg Tryz.prog 9 yl6)).foldr DataW.insert [])))) (Maps.size (DataW.map ((a.toList.map (rg Tryz.prog 9 yl6)).foldr DataW.insert []))) w :=
               AnyZ.keys_gives (ρ := ylj) layK Fence.wide _ trivial rfl (by omega) (g.ρ rb) (g.ρ rm) a.size _ w ((Array.getElem?_eq_some_iff.1 b4).1) (by simp [World.cell?, b4]) hown
             have hsize : Maps.size (DataW.map ((a.toList.map (rg Tryz.prog 9 yl6)).foldr DataW.insert [])) = ks.length := by
               have := hperm.length_eq; simpa [strKeys, Maps.size] using this
             have hN1 : Maps.size (DataW.map ((a.toList.map (rg Tryz.prog 9 yl6)).foldr DataW.insert [])) ≤ maxLen := by
               rw [hsize]; have h9 : (1000000000 : Nat) ≤ maxLen := (by decide); omega
             have hN2 : Maps.size (DataW.map ((a.toList.map (rg Tryz.prog 9 yl6)).foldr DataW.insert [])) * 16 ≤ 140737488355328 := (by rw [hsize]; omega); have cS := AnyZ.sorted_in layS Fence.wide 5 trivial trivial trivial trivial rfl (by omega) (layMs _) (enters_of Tryz.func92 (by kernel_rfl) rfl) 93 #[.pointer (some ⟨g.ρ rb, 0, none⟩)] trivial (enters_of Tryz.func93 (by kernel_rfl) rfl) _ _ hN1 hN2 _ hseq; refine ((callsIn_wide (n := 5)).1 cS).mono fun e w' hpost => ?_; obtain ⟨x, ss, rfl, hss, hrow, hnil, hbel⟩ := hpost; have hsk : ss.Perm ks := hss.trans hperm; have hms : ss.mergeSort leB = ks.mergeSort leS := mergeSort_of_perm hsk; obtain ⟨hE, hR1⟩ := hR.later hbel; have hlen := hsk.length_eq; split at h
             · rename_i hk0; injection h with h; injection h with e1 e2; subst e1 e2; subst hk0; have : ss = [] := List.length_eq_zero_iff.1 hlen; exact ⟨g, hE, hR1, x, rfl, by simp only [VR]; exact hnil.2 this⟩
             · rename_i hk0; injection h with h; injection h with e1 e2; subst e1 e2; have hss0 : ss ≠ [] := fun h => hk0 (List.length_eq_zero_iff.1 (by rw [← hlen, h]; rfl)); obtain ⟨r1, r2⟩ := hrow; rcases r2 with ⟨r3, _⟩ | ⟨gb, cap, cur, rfl, r3, r4, r5, r6, r7, r8⟩
               · exact absurd (hnil.1 r3) hss0
               · have hcur : VRs g σ.toks w' ((ks.mergeSort leS).map V.str) ((ss.mergeSort leB).map encStr) := (by rw [hms]; exact (yhH _).2 rfl); have hlm : ((ss.mergeSort leB).map encStr).length = ss.length := (by simp); obtain ⟨hE2, hR2⟩ := hR1.adopt (B := gb) (cs := (ks.mergeSort leS).map V.str) (us := (ss.mergeSort leB).map encStr) ((Array.getElem?_eq_some_iff.1 r4).1) (fun r hr => by have := hR.alive_block hr; omega) (fun t ht => by have := (hR.tok t ht).2.1; omega) (hR.lim gb r3) (by have := hR.bs; omega) r4 hcur (by rw [hlm, ← Nat.mul_one ss.length]; exact r8); refine ⟨g.obj gb, hE.trans hE2, hR2, _, rfl, ?_⟩; have hn := hR.n; simp only [VR, Gh.obj]; rw [if_pos hn.symm, if_pos hn.symm]; refine ⟨⟨?_, ?_⟩, cap, by rw [hlen], by omega, r6, ?_⟩
                 · show σ.objs.length < g.n + 1; omega
                 · show (if σ.objs.length = g.n then false else g.hid σ.objs.length) = false
                   rw [if_pos hn.symm]
                 · simp only [World.bsize, r4]; omega
           · cases h
         · cases h
       · cases h
     · cases h
   · cases h
 · cases h
end
def ye3 : Nat := 0
def gErr : Nat := 1
structure Lays (base : Nat) (w0 : World) : Prop where
 lo : 4 ≤ base
 half : ∀ i, i < 16 → w0.cell? ⟨ye3, i, none⟩ = some (.int .u32 ((half.getD i 0 : Nat) : Int))
 tab : Lib.TabIs Tryz.prog w0 "internal/strconv.uint64pow10" .u64 Lib.pow10Tab
 err : ∃ ev, w0.cell? ⟨gErr, 0, none⟩ = some ev ∧ (ev = .nilIface ∨ ∃ te pe, ev = .iface te pe)
section
variable {base : Nat} {w0 : World}
theorem Rel.seal {g : Gh} {σ : St} {w : World} (h : Rel base w0 g σ w) {b : Nat} (hb : b < base) (k : Nat) (hk : g.L b ≤ k) : Ext g σ.toks w (g.row b k) σ.toks w ∧ Rel base w0 (g.row b k) σ w := by
 have hbs := h.bs
 have hne : ∀ r, yaE σ.objs r → g.ρ r ≠ b := fun r hr e => by
   obtain ⟨o, ho, hd⟩ := hr; have hob := h.obj r o ho
   have : base ≤ g.ρ r := by
     cases o with
     | dead => exact (hd trivial).elim
     | unb => exact (hd trivial).elim
     | _ => exact hob.1
   omega
 have E : Ext g σ.toks w (g.row b k) σ.toks w := {
   n := Nat.le_refl _
   has := fun _ h => h
   ρ := fun _ _ => rfl
   ob := fun _ _ => rfl
   L := fun b' => by
     simp only [Gh.row]; split
     · rename_i e; rw [e]; exact hk
     · exact Nat.le_refl _
   cells := fun _ _ _ => rfl
   shape := fun _ c _ fr hbb => ⟨c, fr, hbb, rfl, .inl rfl⟩
   dfr := fun _ _ hbb => hbb
   nt := Nat.le_refl _
   tok := fun t _ hl => ⟨hl, rfl, by
     simp only [Gh.row]; rw [if_neg (fun e => by have := (h.tok t hl).1; omega)]⟩ }
 refine ⟨E, { below := h.below, bs := h.bs, n := h.n, hid := h.hid, obj := fun r ob hob => ?_, inj := h.inj, tok := h.tok, tinj := h.tinj, lim := fun b' hb' => (by
     simp only [Gh.row]; rw [if_neg (by omega)]; exact h.lim b' hb') }⟩
 by_cases hg : ob.gone
 · exact ObjOk.gone hg
 · exact (h.obj r ob hob).ext E (h.hasO hob) rfl (by simp only [Gh.row]; rw [if_neg (hne r ⟨ob, hob, hg⟩)])
theorem yj9 (g : Gh) (toks : List Bool) (w : World) (k : IntKind) : ∀ l : List Nat, VRs g toks w (l.map fun n : Nat => V.int k ((n : Nat) : Int)) (l.map fun n : Nat => Value.int k ((n : Nat) : Int))
 | [] => rfl
 | n :: l => ⟨_, _, rfl, rfl, yj9 g toks w k l⟩
def ygS : List V := half.map fun n : Nat => V.int .u32 ((n : Nat) : Int)
theorem NdO.tab {N : Nat} (hL : Lays base w0) {ops : Array Oper} {o : Oper} {l : List Oper} {t : TypeId} {x : Operand} (ho : o.op = .indexAddr t (.global ye3) x) (hg : o.guard = none) {e : Nat → V} {σ : St} {k : IntKind} {i : Nat}
   (hx : evs (env N e) x = some (.int k (i : Int))) (hv : yai Tryz.prog t (.eptr ygS 0) (.int k (i : Int)) = some (.eptr ygS i)) {Q : VX → (Nat → V) → St → Prop}
   (h : NdO Tryz.prog base w0 N ops l (upd e o.dst (.eptr ygS i)) σ Q) : NdO Tryz.prog base w0 N ops (o :: l) e σ Q := by
 refine NdO.op hg (by rw [ho]; intro c h; cases h) (fun v σ1 => v = .eptr ygS i ∧ σ1 = σ) ?_ ?_
 · intro g w a hR hT; obtain ⟨E, R⟩ := hR.seal (b := ye3) (by have := hL.lo; unfold ye3; omega) (max (g.L ye3) 16) (Nat.le_max_left _ _); have hlo := hL.lo
   have hcell : ∀ j, j < 16 → w.cell? ⟨ye3, j, none⟩ = some (.int .u32 ((half.getD j 0 : Nat) : Int)) := fun j hj => by
     rw [cell?_heap (hR.below.block ye3 (by unfold ye3; omega)) j]; exact hL.half j hj
   have hVp : VR (g.row ye3 (max (g.L ye3) 16)) σ.toks w (.eptr ygS 0) (.pointer (some ⟨ye3, 0, none⟩)) := by
     simp only [VR]; refine ⟨ye3, 0, half.map fun n : Nat => Value.int .u32 ((n : Nat) : Int), rfl, ⟨?_, fun j u hj => ?_⟩, yj9 _ _ _ _ _⟩
     · simp only [Gh.row, if_true]; show 0 + 16 ≤ _; omega
     · have hjl : j < 16 := (gA0.1 hj).1; rw [Nat.zero_add, hcell j hjl]; have hjh : j < half.length := hjl; rw [List.getElem?_map, List.getElem?_eq_getElem hjh] at hj; rw [← hj, gA6, List.getElem?_eq_getElem hjh]; rfl
   have hiv := VR.ext E _ (yat hT hx); obtain ⟨u, hu, hV⟩ := yeO (P := Tryz.prog) hVp hiv hv; refine ⟨u, w, _, .eptr ygS i, σ, ?_, ⟨rfl, rfl⟩, E, R, hV⟩; have hgv : a.eval (.global ye3) = .pointer (some ⟨ye3, 0, none⟩) := rfl; simp [execOp, ho, hgv, hu]
 · rintro v σ1 ⟨rfl, rfl⟩; exact h
end
def yex : List V → Option (List UInt8)
 | [] => some []
 | .int .u8 n :: vs => match yex vs with
   | some l => if 0 ≤ n ∧ n < 256 then some (UInt8.ofNat n.toNat :: l) else none
   | none => none
 | _ :: _ => none
theorem yg6 : ∀ {cs : List V} {bs : List UInt8}, yex cs = some bs → cs = bs.map yal
 | [], bs, h => by simp only [yex] at h; injection h with h; subst h; rfl
 | v :: vs, bs, h => by
   unfold yex at h; split at h
   · rename_i he; cases he
   · rename_i n vs' he; injection he with e1 e2; subst e1 e2; split at h
     · rename_i l hl; split at h
       · rename_i hr; injection h with h; subst h; have : (UInt8.ofNat n.toNat).toNat = n.toNat := (by simp; omega); rw [List.map_cons, ← yg6 hl, yal, this]
         congr 2
         omega
       · cases h
     · cases h
   · cases h
theorem yf7 : ∀ bs : List UInt8, yex (bs.map yal) = some bs
 | [] => rfl
 | b :: bs => by
   have := b.toNat_lt; simp only [List.map_cons, yal, yex]; rw [yf7 bs]; simp only; rw [if_pos (by omega)]; simp
def ygC : V → Option (List UInt8)
 | .nils => some []
 | .slice _ 1 cs n => if cs.length = n then (yex cs) else none
 | _ => none
theorem yjO {v : V} {bs : List UInt8} (h : ygC v = some bs) : BtsV v bs := by
 unfold ygC at h; split at h
 · injection h with h; subst h; exact .inl ⟨rfl, rfl⟩
 · rename_i p cs n; split at h
   · rename_i hn; have := yg6 h; subst this; rw [List.length_map] at hn; subst hn; exact .inr ⟨p, rfl⟩
   · cases h
 · cases h
theorem yjN {v : V} {bs : List UInt8} (h : BtsV v bs) : ygC v = some bs := by
 rcases h with ⟨rfl, rfl⟩ | ⟨p, rfl⟩
 · rfl
 · simp only [ygC, List.length_map, if_true, yf7]
def yoF (vs : List V) (σ : St) : Option (V × St) := match vs with
 | [.int .u32 s, v] => match ygC v with
   | some bs => if s = (((BitVec.ofInt 32 s).toNat : Nat) : Int) ∧ bs.length ≤ 1000000000 then some (uV (ykD (BitVec.ofInt 32 s) bs), σ) else none
   | none => none
 | _ => none
noncomputable def ypD : Code := (Tryz.f96.body).getD .skip
theorem bAdd : Tryz.f96.body = some ypD := by kernel_rfl
noncomputable def ypi : Code := ydD [true, true, false, true, false, false] ypD
noncomputable def ymN : Code := ydD [true, true, false, false, true, true, true, false, false] ypi
noncomputable def oAdd8 : Array Oper := ye8 (ydD [true, true, false, false] ymN)
theorem sAdd : ypD = .seq (ydD [false] ypD) (.seq (ydD [true, false] ypD) (.seq (.seq (ydD [true, true, false, false] ypD) (.block 0 (.loop ypi))) (ydD [true, true, true] ypD))) := by kernel_rfl
theorem slAdd : ypi = .seq (ydD [false] ypi) (.seq (.cond (.tmp 13) .skip (.exit 0)) (.seq (.block 1 (.seq (ydD [true, true, false, false, false] ypi) (.seq (ydD [true, true, false, false, true, false] ypi) (.seq (ydD [true, true, false, false, true, true, false] ypi) (.block 2 (.loop ymN)))))) (ydD [true, true, true] ypi))) := by kernel_rfl
theorem sl2Add : ymN = .seq (ydD [false] ymN) (.seq (.cond (.tmp 21) .skip (.exit 2)) (.seq (.block 3 (.region 8 oAdd8 false)) (ydD [true, true, true] ymN))) := by kernel_rfl
theorem oAdd8s : oAdd8.toList = oAdd8.toList.take 4 ++ (oAdd8.getD 4 default :: oAdd8.toList.drop 5) := by kernel_rfl
theorem pTA : Tryz.prog.underlying 130 = some (.array 16 108) := by kernel_rfl
theorem pSU : yaQ Tryz.prog 108 = some 1 := by kernel_rfl
theorem pGU : ybc Tryz.prog 108 = some false := by kernel_rfl
theorem pTU : Tryz.prog.underlying 108 = some (.int .u32) := by kernel_rfl
theorem pT5 : Tryz.prog.underlying 5 = some (.int .u8) := by kernel_rfl
theorem pG5 : ybc Tryz.prog 5 = some false := by kernel_rfl
theorem yo8 {k : IntKind} {i : Nat} (h : i < 16) : yai Tryz.prog 130 (.eptr ygS 0) (.int k (i : Int)) = some (.eptr ygS i) := by
 have h2 : (i : Int) < 16 := (by omega); simp [yai, pTA, pSU, h2]
theorem yoS {objs : List Ob} {i : Nat} (h : i < 16) : yad Tryz.prog objs 108 (.eptr ygS i) = some (.int .u32 (((BitVec.ofNat 32 (half.getD i 0)).toNat : Nat) : Int)) := by
 have hl : i < half.length := h; rw [yl5, gA6, List.getElem?_eq_getElem hl]; simp [yad, ya1, ycp, pGU, ygS, hl]
def nibs : Nat → BitVec 32 → BitVec 32
 | 0, r => r
 | k + 1, r => nib (nibs k r)
theorem crc_ok {base : Nat} {w0 : World} (hL : Lays base w0) {vs : List V} {σ : St} {v : V} {σ' : St} (h : yoF vs σ = some (v, σ')) : CallOk Tryz.prog base w0 96 vs σ (.ret v) σ' := by
 unfold yoF at h; split at h
 · rename_i s x; split at h
   · rename_i bs hbs; split at h
     · rename_i hs; injection h with h; injection h with h1 h2; subst h1 h2; have hB := yjO hbs; obtain ⟨hs, hbl⟩ := hs; generalize BitVec.ofInt 32 s = r at hs ⊢; subst hs; refine CallOk.nd (fn := Tryz.f96) Tryz.func96 bAdd (by show 2 ≤ 33; omega) ?_; show Nd Tryz.prog base w0 33 ypD _ _ _; rw [sAdd]; have hp := yhZ base w0; have hlen := hB.len pTB; refine Nd.seq (Nd.ev hp (k := .region k96_r0) (by kernel_rfl) (by kernel_rfl) (by kernel_rfl) ?_); simp only [k96_a, WKV, Nat.reduceLT, Nat.reduceEqDiff, ↓reduceIte, reduceCtorEq, Nat.reduceAdd, Int.reduceLT, Int.reduceNeg, ya6, implies_true, eq_self, false_and, or_false, false_or]; refine Nd.seq (Nd.ev hp (k := .region k96_r1) (by kernel_rfl) (by kernel_rfl) (by kernel_rfl) ?_); simp only [k96_a, WKV, Nat.reduceLT, Nat.reduceEqDiff, ↓reduceIte, reduceCtorEq, Nat.reduceAdd, Int.reduceLT, Int.reduceNeg, ya6, implies_true, eq_self, false_and, or_false, false_or, gD0, gD1, yfV]; refine Nd.seq (Nd.seq (Nd.ev hp (k := .region k96_r2) (by kernel_rfl) (by kernel_rfl) (by kernel_rfl) ?_)); simp only [k96_a, WKV, Nat.reduceLT, Nat.reduceEqDiff, ↓reduceIte, reduceCtorEq, Nat.reduceAdd, Int.reduceLT, Int.reduceNeg, ya6, implies_true, eq_self, false_and, or_false, false_or, gD0, gD1, hlen]; refine Nd.block (Nd.loop (fun (i : Nat) e τ => τ = σ ∧ i ≤ bs.length ∧ e 12 = .int .i64 (i : Nat) ∧ e 10 = x ∧ e 11 = .int .i64 (bs.length : Nat) ∧ e 5 = .int .u32 (((yls (~~~ r) (bs.take i)).toNat : Nat) : Int)) (fun i => bs.length - i) ?_ 0 ?_)
       · rintro i e τ ⟨rfl, hi, h12, h10, h11, h5⟩; rw [slAdd]; refine Nd.seq (Nd.ev hp (k := .region k96_r3) (by kernel_rfl) (by kernel_rfl) (by kernel_rfl) ?_); by_cases hlt : i < bs.length
         · have hlt' : (i : Int) < (bs.length : Nat) := (by omega); have hwi : IntKind.i64.wrap ((i : Int) + 1) = ((i + 1 : Nat) : Int) := by rw [yae (by omega) (by omega)]; omega
           have hat : yai Tryz.prog 30 x (.int .i64 (i : Int)) = some (.eptr (bs.map yal) i) := by
             have := hB.addr pTB pS1 (k := .i64) (n := (i : Int)) (by omega) hlt'
             rwa [Int.toNat_natCast] at this
           have hld : ∀ objs, yad Tryz.prog objs 5 (.eptr (bs.map yal) i) = some (.int .u8 ((bs[i].toNat : Nat) : Int)) := fun objs => by
             simp [yad, ya1, ycp, pG5, hlt, yal]
           have hcv : ycH Tryz.prog 5 108 (.int .u8 ((bs[i].toNat : Nat) : Int)) = some (.int .u32 (((BitVec.ofNat 32 bs[i].toNat).toNat : Nat) : Int)) := by
             simp only [ycH, pT5, pTU, yok]
           simp only [k96_a, WKV, Nat.reduceLT, Nat.reduceEqDiff, ↓reduceIte, reduceCtorEq, Nat.reduceAdd, Int.reduceLT, Int.reduceNeg, ya6, implies_true, eq_self, false_and, or_false, false_or, h12, h11, hlt', decide_true]; refine Nd.seq (Nd.cond (t := true) (by simp only [WKV, Nat.reduceLT, Nat.reduceEqDiff, ↓reduceIte, reduceCtorEq, Nat.reduceAdd, Int.reduceLT, Int.reduceNeg, ya6, implies_true, eq_self, false_and, or_false, false_or]) (Nd.skip (.inl ⟨rfl, ?_⟩))); refine Nd.seq (Nd.block (Nd.seq (Nd.ev hp (k := .region k96_r4) (by kernel_rfl) (by kernel_rfl) (by kernel_rfl) ?_))); simp only [k96_a, WKV, Nat.reduceLT, Nat.reduceEqDiff, ↓reduceIte, reduceCtorEq, Nat.reduceAdd, Int.reduceLT, Int.reduceNeg, ya6, implies_true, eq_self, false_and, or_false, false_or, h10, h12, hat, hld]; refine Nd.seq (Nd.ev hp (k := .region k96_r5) (by kernel_rfl) (by kernel_rfl) (by kernel_rfl) ?_); simp only [k96_a, WKV, Nat.reduceLT, Nat.reduceEqDiff, ↓reduceIte, reduceCtorEq, Nat.reduceAdd, Int.reduceLT, Int.reduceNeg, ya6, implies_true, eq_self, false_and, or_false, false_or, h5, hcv, ygo]; refine Nd.seq (Nd.ev hp (k := .region k96_r6) (by kernel_rfl) (by kernel_rfl) (by kernel_rfl) ?_); simp only [k96_a, WKV, Nat.reduceLT, Nat.reduceEqDiff, ↓reduceIte, reduceCtorEq, Nat.reduceAdd, Int.reduceLT, Int.reduceNeg, ya6, implies_true, eq_self, false_and, or_false, false_or]; refine Nd.block (Nd.loop (fun (j : Nat) e2 τ2 => τ2 = τ ∧ j ≤ 2 ∧ e2 20 = .int .i64 (j : Nat) ∧ e2 12 = .int .i64 (i : Nat) ∧ e2 10 = x ∧ e2 11 = .int .i64 (bs.length : Nat) ∧ e2 5 = .int .u32 (((nibs j (yls (~~~ r) (bs.take i) ^^^ BitVec.ofNat 32 bs[i].toNat)).toNat : Nat) : Int)) (fun j => 2 - j) ?_ 0 ?_)
           · rintro j e2 τ2 ⟨rfl, hj, m20, m12, m10, m11, m5⟩; rw [sl2Add]; generalize hq : nibs j (yls (~~~ r) (bs.take i) ^^^ BitVec.ofNat 32 bs[i].toNat) = q at m5; refine Nd.seq (Nd.ev hp (k := .region k96_r7) (by kernel_rfl) (by kernel_rfl) (by kernel_rfl) ?_); by_cases hjt : j < 2
             · have hjt' : (j : Int) < 2 := (by omega); have hwj : IntKind.i64.wrap ((j : Int) + 1) = ((j + 1 : Nat) : Int) := by rw [yae (by omega) (by omega)]; omega
               have hq15 : (q &&& 15#32).toNat < 16 := by
                 rw [BitVec.toNat_and]; exact Nat.lt_of_le_of_lt Nat.and_le_right (by decide)
               simp only [k96_a, WKV, Nat.reduceLT, Nat.reduceEqDiff, ↓reduceIte, reduceCtorEq, Nat.reduceAdd, Int.reduceLT, Int.reduceNeg, ya6, implies_true, eq_self, false_and, or_false, false_or, m20, hjt', decide_true]; refine Nd.seq (Nd.cond (t := true) (by simp only [WKV, Nat.reduceLT, Nat.reduceEqDiff, ↓reduceIte, reduceCtorEq, Nat.reduceAdd, Int.reduceLT, Int.reduceNeg, ya6, implies_true, eq_self, false_and, or_false, false_or]) (Nd.skip (.inl ⟨rfl, ?_⟩))); refine Nd.seq (Nd.block (Nd.region ?_)); rw [oAdd8s]; refine NdO.app (NdO.eo hp (cl := k96_r8.take 4) (by kernel_rfl) (by kernel_rfl) ?_); unfold k96_r8; simp only [List.take_succ_cons, List.take_zero, WKV, Nat.reduceLT, Nat.reduceEqDiff, ↓reduceIte, reduceCtorEq, Nat.reduceAdd, Int.reduceLT, Int.reduceNeg, ya6, implies_true, eq_self, false_and, or_false, false_or, m5, shr4, and15]; have hd8 : (oAdd8.getD 4 default).dst = some 26 := (by kernel_rfl); refine NdO.tab hL (t := 130) (x := .tmp 25) (k := .u32) (i := (q &&& 15#32).toNat) (by kernel_rfl) (by kernel_rfl) (by simp only [WKV, Nat.reduceLT, Nat.reduceEqDiff, ↓reduceIte, reduceCtorEq, Nat.reduceAdd, Int.reduceLT, Int.reduceNeg, ya6, implies_true, eq_self, false_and, or_false, false_or]) (yo8 hq15) ?_; rw [hd8]; refine NdO.eo hp (cl := k96_r8.drop 5) (by kernel_rfl) (by kernel_rfl) ?_; unfold k96_r8; simp only [List.drop_succ_cons, List.drop_zero, WKV, Nat.reduceLT, Nat.reduceEqDiff, ↓reduceIte, reduceCtorEq, Nat.reduceAdd, Int.reduceLT, Int.reduceNeg, ya6, implies_true, eq_self, false_and, or_false, false_or, yoS hq15, ygo]; refine Nd.ev hp (k := .region k96_r9) (by kernel_rfl) (by kernel_rfl) (by kernel_rfl) ?_; simp only [k96_a, WKV, Nat.reduceLT, Nat.reduceEqDiff, ↓reduceIte, reduceCtorEq, Nat.reduceAdd, Int.reduceLT, Int.reduceNeg, ya6, implies_true, eq_self, false_and, or_false, false_or, m20, hwj]; refine ⟨j + 1, ⟨by omega, by simp [yaa], by simp [yaa, m12], by simp [yaa, m10], by simp [yaa, m11], ?_⟩, by omega⟩; simp only [yaa, Nat.reduceEqDiff, ↓reduceIte, nibs, hq]; rfl
             · have hjt' : ¬ (j : Int) < 2 := (by omega); have hj2 : j = 2 := (by omega); subst hj2; simp only [k96_a, WKV, Nat.reduceLT, Nat.reduceEqDiff, ↓reduceIte, reduceCtorEq, Nat.reduceAdd, Int.reduceLT, Int.reduceNeg, ya6, implies_true, eq_self, false_and, or_false, false_or, m20, hjt', decide_false]; refine Nd.seq (Nd.cond (t := false) (by simp only [WKV, Nat.reduceLT, Nat.reduceEqDiff, ↓reduceIte, reduceCtorEq, Nat.reduceAdd, Int.reduceLT, Int.reduceNeg, ya6, implies_true, eq_self, false_and, or_false, false_or]) (Nd.exit (.inr ⟨(by intro h; cases h), .inr ⟨(by intro h; cases h), .inl ⟨rfl, ?_⟩⟩⟩))); refine Nd.ev hp (k := .region k96_r10) (by kernel_rfl) (by kernel_rfl) (by kernel_rfl) ?_; simp only [k96_a, WKV, Nat.reduceLT, Nat.reduceEqDiff, ↓reduceIte, reduceCtorEq, Nat.reduceAdd, Int.reduceLT, Int.reduceNeg, ya6, implies_true, eq_self, false_and, or_false, false_or, m12, hwi]; refine ⟨i + 1, ⟨by omega, by simp [yaa], by simp [yaa, m10], by simp [yaa, m11], ?_⟩, by omega⟩; simp only [yaa, Nat.reduceEqDiff, ↓reduceIte, m5, yiR hlt, ymx]; rw [← hq]; rfl
           · exact ⟨rfl, by omega, by simp [yaa], by simp [yaa, h12], by simp [yaa, h10], by simp [yaa, h11], by simp [yaa, nibs]⟩
         · have hlt' : ¬ (i : Int) < (bs.length : Nat) := (by omega); have hil : bs.take i = bs := List.take_of_length_le (by omega); rw [hil] at h5; simp only [k96_a, WKV, Nat.reduceLT, Nat.reduceEqDiff, ↓reduceIte, reduceCtorEq, Nat.reduceAdd, Int.reduceLT, Int.reduceNeg, ya6, implies_true, eq_self, false_and, or_false, false_or, h12, h11, hlt', decide_false]; refine Nd.seq (Nd.cond (t := false) (by simp only [WKV, Nat.reduceLT, Nat.reduceEqDiff, ↓reduceIte, reduceCtorEq, Nat.reduceAdd, Int.reduceLT, Int.reduceNeg, ya6, implies_true, eq_self, false_and, or_false, false_or]) (Nd.exit (.inr ⟨(by intro h; cases h), .inr ⟨(by intro h; cases h), .inl ⟨rfl, ?_⟩⟩⟩))); refine Nd.ev hp (k := .seq (.region k96_r11) .ret) (by kernel_rfl) (by kernel_rfl) (by kernel_rfl) ?_; simp only [k96_a, WKV, Nat.reduceLT, Nat.reduceEqDiff, ↓reduceIte, reduceCtorEq, Nat.reduceAdd, Int.reduceLT, Int.reduceNeg, ya6, implies_true, eq_self, false_and, or_false, false_or, h5, yfV]; refine ⟨_, by show yam _ _ (env 33 _) [ResultVar.tmp 4] = _; simp only [WKV, Nat.reduceLT, Nat.reduceEqDiff, ↓reduceIte, reduceCtorEq, Nat.reduceAdd, Int.reduceLT, Int.reduceNeg, ya6, implies_true, eq_self, false_and, or_false, false_or]; rfl, rfl⟩
       · exact ⟨rfl, Nat.zero_le _, by simp [yaa], by simp [yaa], by simp [yaa], by simp [yaa, yls]⟩
     · cases h
   · cases h
 · cases h
theorem ynT {base : Nat} {w0 w : World} (hL : Lays base w0) (hb : Below base w0 w) : Lib.TabIs Tryz.prog w "internal/strconv.uint64pow10" .u64 Lib.pow10Tab := by
 have h := hL.tab; unfold Lib.TabIs at h ⊢; rw [← h]; have hlo := hL.lo; have hg : Tryz.prog.globalNamed "internal/strconv.uint64pow10" = some 3 := (by kernel_rfl); unfold World.var?; rw [hg]; simp only [Option.bind_some, hb.block 3 (by omega)]
theorem yl4 (w : World) (k : Nat) (os : Array Obj) : Below w.heap.size w (Go.Sort.grow (w.drewN k) os) := ⟨rfl, rfl, rfl, by simp [Go.Sort.grow, World.drewN], fun i hi => by
 simp only [Go.Sort.grow, World.drewN]; rw [Array.getElem?_append_left hi]⟩
theorem yjv (w : World) (e : TypeId) (s : ByteArray) : Below w.heap.size w (Lib.bytesWorld w e s) := by
 have h1 : Below w.heap.size w (w.drew.alloc (.cells (Lib.bytesCells w e s) e)) := (Below.refl _ _).drew.alloc (Nat.le_refl _) _; refine h1.trans ?_; unfold Lib.bytesWorld World.freeze; split
 · exact Below.refl _ _
 · refine ⟨rfl, rfl, rfl, by simp, fun k hk => ?_⟩; rw [Array.getElem?_modify, if_neg (by simp only [World.drew]; omega)]
def ypa (vs : List V) (σ : St) : Option (V × St) := match vs with
 | [.int .i64 n] => if 0 ≤ n ∧ n ≤ 999999999 then some (.str (ydp (wid n.toNat) n.toNat), σ) else none
 | _ => none
theorem yqh {base : Nat} {w0 : World} (hL : Lays base w0) {vs : List V} {σ : St} {v : V} {σ' : St} (h : ypa vs σ = some (v, σ')) : CallOk Tryz.prog base w0 80 vs σ (.ret v) σ' := by
 unfold ypa at h; split at h
 · rename_i n; split at h
   · rename_i hn; injection h with h; injection h with h1 h2; subst h1 h2; intro g w us hR hV; simp only [VRs, VR] at hV; obtain ⟨u1, us1, rfl, rfl, rfl⟩ := hV; have c := Tryz.strconv_Itoa n (by omega) (by omega) w (ynT hL hR.below); refine c.mono fun e w' hpost => ?_; obtain ⟨rfl, k, os, rfl⟩ := hpost; obtain ⟨m, rfl⟩ : ∃ m : Nat, n = (m : Int) := ⟨n.toNat, by omega⟩; have hw := (ypx (n := m) (by omega)).2.2.2; obtain ⟨hE, hR1⟩ := hR.later (yl4 w k os); refine ⟨g, hE, hR1, _, rfl, ?_⟩; simp only [VR, hw, Int.toNat_natCast]
   · cases h
 · cases h
def ynB (vs : List V) (σ : St) : Option (V × St) := match vs with
 | [.str s] => if s.length ≤ 18 then match Lib.atoi s with
     | some n => some (.tuple [.int .i64 n, .nili], σ)
     | none => some (.tuple [.int .i64 0, .iface 134 (.optr σ.objs.length 0)], ⟨σ.objs ++ [.cells []], σ.toks⟩)
   else none
 | _ => none
theorem ypX {base : Nat} {w0 : World} (hL : Lays base w0) {vs : List V} {σ : St} {v : V} {σ' : St} (h : ynB vs σ = some (v, σ')) : CallOk Tryz.prog base w0 83 vs σ (.ret v) σ' := by
 unfold ynB at h; split at h
 · rename_i s; split at h
   · rename_i hs; intro g w us hR hV; simp only [VRs, VR] at hV; obtain ⟨u1, us1, rfl, rfl, rfl⟩ := hV; split at h
     · rename_i n hn; injection h with h; injection h with h1 h2; subst h1 h2; have c := Tryz.strconv_Atoi ⟨s.toArray⟩ n (by simpa [ByteArray.size] using hs) (by simpa using hn) w; refine c.mono fun e w' hpost => ?_; obtain ⟨rfl, t, rfl⟩ := hpost; obtain ⟨hE, hR1⟩ := hR.later (yjv w _ _); refine ⟨g, hE, hR1, _, rfl, ?_⟩; simp [VR, VRs]
     · rename_i hn; injection h with h; injection h with h1 h2; subst h1 h2; obtain ⟨ev, e1, e2⟩ := hL.err; have hlo := hL.lo; have hv : w.cell? ⟨gErr, 0, none⟩ = some ev := (by rw [cell?_heap (hR.below.block gErr (by unfold gErr; omega)) 0]; exact e1); have c := Tryz.strconv_Atoi_err ⟨s.toArray⟩ (by simpa [ByteArray.size] using hs) (by simpa using hn) ev w hv e2; refine c.mono fun e w' hpost => ?_; obtain ⟨N, rfl, h2, h3, h4⟩ := hpost; obtain ⟨hE, hR1⟩ := hR.later h4; obtain ⟨hE2, hR2⟩ := hR1.adopt (B := N) (cs := []) (us := []) ((Array.getElem?_eq_some_iff.1 h3).1) (fun r hr => by have := hR.alive_block hr; omega) (fun t ht => by have := (hR.tok t ht).2.1; omega) (hR.lim N h2) (by have := hR.bs; omega) h3 (by simp [VRs]) (by simp); refine ⟨g.obj N, hE.trans hE2, hR2, _, rfl, ?_⟩; have hn := hR.n; simp only [VR, VRs]; refine ⟨[.int .i64 0, .iface 134 (.pointer (some ⟨N, 0, none⟩))], rfl, _, _, rfl, rfl, _, _, rfl, ⟨_, rfl, ?_, ?_⟩, rfl⟩
       · constructor
         · show σ.objs.length < g.n + 1; omega
         · show (if σ.objs.length = g.n then false else g.hid σ.objs.length) = false
           rw [if_pos hn.symm]
       · simp only [Gh.obj]; rw [if_pos hn.symm, if_pos hn.symm]
   · cases h
 · cases h
def prims : Prim := ⟨fun f => f == 38 || f == 20 || f == 77 || f == 96 || f == 80 || f == 83, fun f vs σ => if f = 38 then yoJ vs σ else if f = 20 then offP vs σ else if f = 77 then ygA vs σ else if f = 96 then yoF vs σ else if f = 80 then ypa vs σ else if f = 83 then ynB vs σ else none, hots⟩
theorem yo4 (base : Nat) (w0 : World) (hL : Lays base w0) : yee Tryz.prog prims base w0 := by
 intro f vs σ v σ' hi h; simp only [prims] at h; split at h
 · rename_i e; subst e; exact ⟨yqn h, _, Tryz.func38, by kernel_rfl, by kernel_rfl⟩
 split at h
 · rename_i e; subst e; exact ⟨off_ok h, _, Tryz.func20, by kernel_rfl, by kernel_rfl⟩
 split at h
 · rename_i e; subst e; exact ⟨ynu h, _, Tryz.func77, by kernel_rfl, by kernel_rfl⟩
 split at h
 · rename_i e; subst e; exact ⟨crc_ok hL h, _, Tryz.func96, by kernel_rfl, by kernel_rfl⟩
 split at h
 · rename_i e; subst e; exact ⟨yqh hL h, _, Tryz.func80, by kernel_rfl, by kernel_rfl⟩
 split at h
 · rename_i e; subst e; exact ⟨ypX hL h, _, Tryz.func83, by kernel_rfl, by kernel_rfl⟩
 · cases h
end Go.Proofs.YtnegdinonfjdfaaGreatDoor.Q
