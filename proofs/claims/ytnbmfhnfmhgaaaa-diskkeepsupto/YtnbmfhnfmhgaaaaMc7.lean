/- A part of the proof: Kl, Km, Kn, Ko, Kp, Kq, Kr, Ks, Rw, Kt, Ku, Kv, Kw, Kx, Ky, Db, Kz, Dc, De, Df. -/
import Derived.Test.YtnbmfhnfmhgaaaaMc6
import Derived.Test.YtnbmfhnfmhgaaaaMc5
/- The document's disk as it lies in memory. -/
set_option linter.unusedVariables false
set_option linter.unusedSimpArgs false
set_option maxRecDepth 100000
namespace Go.Proofs.Ytnbmfhnfmhgaaaa.Q
open Go Go.RowKit Go.Proofs
theorem TFS : Try.prog.underlying 69 = some (.slice 77) := by kernel_rfl
theorem GFi : isAggT Try.prog 77 = some true := by kernel_rfl
theorem SFi : sizeT Try.prog 77 = some 3 := by kernel_rfl
theorem ZFi : zeroT Try.prog 77 = some (.agg [.str [], .nils, .nils]) := by kernel_rfl
theorem bFi : (Try.prog.info? 77).map (·.bytes) = some 64 := by kernel_rfl
theorem sbN {a b : List UInt8} : strBin .neq a b = some (.bool (!decide (a = b))) := rfl
/-- A file of the document's. -/
structure RE where
  f : Fl
  s : V
  w : V
def RE.cells (x : RE) : List V := [.str x.f.name, x.s, x.w]
def RE.Ok (x : RE) : Prop := BtsV x.s x.f.safe ∧ BtsV x.w x.f.wait
def rcells (rs : List RE) : List V := rs.flatMap RE.cells
theorem RE.cells_len (x : RE) : x.cells.length = 3 := rfl
theorem rcells_len (rs : List RE) : (rcells rs).length = rs.length * 3 := flat_len RE.cells_len rs
theorem RE.one {x : RE} (h : x.Ok) : x.cells.all one = true := by
  simp only [RE.cells, List.all_cons, List.all_nil, h.1.one, h.2.one, Bool.and_true, Bool.and_self]
  rfl
/-- A row of files. -/
def RRow (objs : List Ob) (fv : V) (q : Option Nat) (rs : List RE) : Prop := (fv = .nils ∧ q = none ∧ rs = []) ∨ ∃ ro, fv = .hslice ro 0 3 rs.length ∧ q = some ro ∧ objs[ro]? = some (.cells (rcells rs))
theorem RRow.len {objs : List Ob} {fv : V} {q : Option Nat} {rs : List RE} (h : RRow objs fv q rs) : vlen Try.prog 69 fv = some (.int .i64 (rs.length : Nat)) := by
  rcases h with ⟨rfl, rfl, rfl⟩ | ⟨ro, rfl, _⟩ <;> simp [vlen, TFS]
theorem RRow.keep {σ σ' : St} {fv : V} {q : Option Nat} {rs : List RE} {S : List Nat} (h : RRow σ.objs fv q rs) (hk : KS S σ σ') (hs : ∀ x ∈ q.toList, x ∉ S) : RRow σ'.objs fv q rs := by
  rcases h with h | ⟨ro, h1, h2, h3⟩
  · exact .inl h
  · exact .inr ⟨ro, h1, h2, hk.ko _ _ (hs ro (by simp [h2])) h3⟩
theorem RRow.lt {objs : List Ob} {fv : V} {q : Option Nat} {rs : List RE} (h : RRow objs fv q rs) : ∀ x ∈ q.toList, x < objs.length := by
  rcases h with ⟨_, rfl, _⟩ | ⟨ro, _, rfl, h3⟩
  · intro x hx; cases hx
  · intro x hx; simp at hx; subst hx; exact (List.getElem?_eq_some_iff.1 h3).1
theorem RRow.one {objs : List Ob} {fv : V} {q : Option Nat} {rs : List RE} (h : RRow objs fv q rs) : one fv = true := by
  rcases h with ⟨rfl, _⟩ | ⟨ro, rfl, _⟩ <;> rfl
/-- One of them. -/
theorem RRow.at {objs : List Ob} {fv : V} {q : Option Nat} {rs : List RE} (h : RRow objs fv q rs) {i : Nat} (hi : i < rs.length) : ∃ ro, q = some ro ∧ objs[ro]? = some (.cells (rcells rs)) ∧ vindexAddr Try.prog 69 fv (.int .i64 (i : Int)) = some (.optr ro (i * 3)) ∧ vload Try.prog objs 77 (.optr ro (i * 3)) = some (.agg rs[i].cells) := by
  rcases h with ⟨_, _, rfl⟩ | ⟨ro, rfl, rfl, h3⟩
  · simp at hi
  · have hi' : (i : Int) < rs.length := by omega
    refine ⟨ro, rfl, h3, by simp [vindexAddr, TFS, SFi, hi'], ?_⟩
    rw [vload_sub h3 GFi SFi (by rw [rcells_len]; omega)]
    unfold rcells
    rw [flat_part RE.cells_len hi]
/-- One more. -/
theorem RRow.push {σ : St} {fv : V} {q : Option Nat} {rs : List RE} (h : RRow σ.objs fv q rs) (hok : ∀ x ∈ rs, x.Ok) {x : RE} (hx : x.Ok) (hl : rs.length ≤ 1000000) :
    ∃ y s1 fv' q' s2, vbuildRow Try.prog σ 69 1 [(0, .agg x.cells)] = some (y, s1) ∧ vappendRow Try.prog s1 69 69 fv y = some (fv', s2) ∧ RRow s2.objs fv' q' (rs ++ [x]) ∧ KS q.toList σ s2 ∧ ∀ z ∈ q'.toList, σ.objs.length ≤ z := by
  have hone := RE.one hx
  have hz : vcells (V.agg [.str [], .nils, .nils]) = [.str [], .nils, .nils] := rfl
  have hc : vcells (V.agg x.cells) = x.cells := rfl
  have e3 : List.range 3 = [0, 1, 2] := by decide
  have hb0 : ∀ a b c : V, [a, b, c].all Q.one = true → vbuildRow Try.prog σ 69 1 [(0, .agg [a, b, c])] = some (.hslice σ.objs.length 0 3 1, ⟨σ.objs ++ [.cells [a, b, c]], σ.toks⟩) := by
    intro a b c h
    have hc : vcells (V.agg [a, b, c]) = [a, b, c] := rfl
    simp only [List.all_cons, List.all_nil, Bool.and_true, Bool.and_eq_true] at h
    simp [vbuildRow, TFS, SFi, ZFi, hz, zeroCellsV, vfill, e3, hc, setAll, h.1, h.2.1, h.2.2]
  have hb : vbuildRow Try.prog σ 69 1 [(0, .agg x.cells)] = some (.hslice σ.objs.length 0 3 1, ⟨σ.objs ++ [.cells x.cells], σ.toks⟩) := hb0 _ _ _ hone
  obtain ⟨s1, hs1⟩ : ∃ s1 : St, s1 = ⟨σ.objs ++ [.cells x.cells], σ.toks⟩ := ⟨_, rfl⟩
  rw [← hs1] at hb
  have K1 : KS [] σ s1 := by rw [hs1]; exact KS.push _ _ _
  have h1 : RRow s1.objs fv q rs := h.keep K1 fun x _ => by simp
  have hy : s1.objs[σ.objs.length]? = some (.cells x.cells) := by rw [hs1]; exact push_new _ _
  have L1 : s1.objs.length = σ.objs.length + 1 := by rw [hs1]; simp
  have hn : vnewsO Try.prog s1.objs 69 (.hslice σ.objs.length 0 3 1) 3 = some (x.cells, 1) := by
    have : List.take 3 x.cells = x.cells := by simp [RE.cells]
    simp [vnewsO, vnews, TFS, hy, RE.cells_len, this]
  have hxl : x.cells.length = 3 := rfl
  rcases h1 with ⟨rfl, rfl, rfl⟩ | ⟨ro, rfl, rfl, h3⟩
  · refine ⟨_, s1, .hslice s1.objs.length 0 3 1, some s1.objs.length, ⟨s1.objs ++ [.cells x.cells], s1.toks⟩, hb, ?_, .inr ⟨_, rfl, rfl, ?_⟩, K1.trans (KS.push [] s1 _) fun x hx => .inl hx, fun z hz => ?_⟩
    · simp [vappendRow, TFS, bFi, SFi, ZFi, hz, hn]
    · have := push_new s1.objs (.cells x.cells)
      simp only [List.nil_append, rcells, List.flatMap_cons, List.flatMap_nil, List.append_nil]
      exact this
    · simp at hz; omega
  · refine ⟨_, s1, .hslice s1.objs.length 0 3 (rs.length + 1), some s1.objs.length, ⟨s1.objs.set ro .dead ++ [.cells (rcells rs ++ x.cells)], s1.toks⟩, hb, ?_, .inr ⟨_, by simp, rfl, ?_⟩, ?_, fun z hz => ?_⟩
    · have h4 : List.take (rs.length * 3) (rcells rs) = rcells rs := List.take_of_length_le (by rw [rcells_len]; omega)
      have h5 : rs.length + 1 ≤ 140737488355328 := by omega
      have h6 : (rs.length + 1) * 64 ≤ 140737488355328 := by omega
      have h7 := rcells_len rs
      simp [vappendRow, TFS, bFi, SFi, ZFi, hz, hn, h3, h4, h5, h6, h7, hone]
    · have := push_new (s1.objs.set ro .dead) (.cells (rcells rs ++ x.cells))
      rw [List.length_set] at this
      simp only [rcells, List.flatMap_append, List.flatMap_cons, List.flatMap_nil, List.append_nil] at this ⊢
      exact this
    · refine (K1.mono fun x hx => by cases hx).trans' ⟨fun p o hp ho => ?_, by simp, Nat.le_refl _, fun _ h => h⟩
      have hpl := (List.getElem?_eq_some_iff.1 ho).1
      simp only
      rw [List.getElem?_append_left (by rw [List.length_set]; exact hpl), List.getElem?_set_ne (fun e => hp (by simp [e]))]
      exact ho
    · simp at hz; omega
structure RefAt (σ : St) (r : Nat) (d : Dk) (q : Option Nat) (rs : List RE) : Prop where
  hd : ∃ fv, σ.objs[r]? = some (.cells [fv, .int .i64 d.room, .bool d.on, .int .i64 (d.writes : Nat), .int .i64 (d.armed : Nat), .int .i64 d.keep]) ∧ RRow σ.objs fv q rs
  ok : ∀ x ∈ rs, x.Ok
  fl : rs.map RE.f = d.files
  ne : r ∉ q.toList
theorem RefAt.keep {σ σ' : St} {r : Nat} {d : Dk} {q : Option Nat} {rs : List RE} {S : List Nat} (h : RefAt σ r d q rs) (hk : KS S σ σ') (hs : ∀ x ∈ r :: q.toList, x ∉ S) : RefAt σ' r d q rs := by
  obtain ⟨⟨fv, h1, h2⟩, h3, h4, h5⟩ := h
  exact ⟨⟨fv, hk.ko _ _ (hs r (by simp)) h1, h2.keep hk fun x hx => hs x (List.mem_cons_of_mem _ hx)⟩, h3, h4, h5⟩
theorem RefAt.lt {σ : St} {r : Nat} {d : Dk} {q : Option Nat} {rs : List RE} (h : RefAt σ r d q rs) : ∀ x ∈ r :: q.toList, x < σ.objs.length := by
  obtain ⟨⟨fv, h1, h2⟩, _⟩ := h
  intro x hx
  rcases List.mem_cons.1 hx with rfl | hx
  · exact (List.getElem?_eq_some_iff.1 h1).1
  · exact h2.lt x hx
/-- What the document's disk is behind a call. -/
def RNext (σ : St) (r : Nat) (q : Option Nat) (σ' : St) (d' : Dk) : Prop := ∃ q' rs', RefAt σ' r d' q' rs' ∧ KS (r :: q.toList) σ σ' ∧ ∀ x ∈ r :: q'.toList, x ∈ r :: q.toList ∨ σ.objs.length ≤ x
theorem RNext.refl {σ : St} {r : Nat} {d : Dk} {q : Option Nat} {rs : List RE} (h : RefAt σ r d q rs) : RNext σ r q σ d := ⟨q, rs, h, KS.refl _ _, fun x hx => .inl hx⟩
theorem RNext.trans {σ σ1 σ2 : St} {r : Nat} {d : Dk} {q q1 : Option Nat} (hk : KS (r :: q.toList) σ σ1) (hs : ∀ x ∈ r :: q1.toList, x ∈ r :: q.toList ∨ σ.objs.length ≤ x) (h : RNext σ1 r q1 σ2 d) : RNext σ r q σ2 d := by
  obtain ⟨q', rs', h1, h2, h3⟩ := h
  refine ⟨q', rs', h1, hk.trans h2 hs, fun x hx => ?_⟩
  have := hk.le
  rcases h3 x hx with h | h
  · exact hs x h
  · exact .inr (by omega)
/-- Pushes only. -/
theorem RNext.only {σ σ1 : St} {r : Nat} {d : Dk} {q : Option Nat} {rs : List RE} (h : RefAt σ r d q rs) (hk : KS [] σ σ1) : RNext σ r q σ1 d := ⟨q, rs, h.keep hk fun x _ => by simp, hk.mono (fun x hx => by cases hx), fun x hx => .inl hx⟩
/-- Only its head changes. -/
theorem RefAt.head {σ : St} {r : Nat} {d d2 : Dk} {q : Option Nat} {rs : List RE} (h : RefAt σ r d q rs) (hf : d2.files = d.files) {fv : V} (hv : RRow σ.objs fv q rs) {σ' : St} (hs : σ' = ⟨σ.objs.set r (.cells [fv, .int .i64 d2.room, .bool d2.on, .int .i64 (d2.writes : Nat), .int .i64 (d2.armed : Nat), .int .i64 d2.keep]), σ.toks⟩) : RefAt σ' r d2 q rs ∧ KS (r :: q.toList) σ σ' := by
  have hrl := h.lt r (by simp)
  have hne := h.ne
  have K : KS [r] σ σ' := by rw [hs]; exact KS.set (.inl (by simp)) _
  refine ⟨⟨⟨fv, by rw [hs]; simp only; rw [List.getElem?_set_self hrl], hv.keep K fun x hx hx2 => ?_⟩, h.ok, by rw [hf]; exact h.fl, h.ne⟩, K.mono fun x hx => .inl (by rw [List.mem_singleton] at hx; subst hx; simp)⟩
  rw [List.mem_singleton] at hx2
  subst hx2
  exact hne hx
end Go.Proofs.Ytnbmfhnfmhgaaaa.Q

/- The document's disk: its small functions. -/
set_option linter.unusedVariables false
set_option linter.unusedSimpArgs false
set_option maxRecDepth 100000
namespace Go.Proofs.Ytnbmfhnfmhgaaaa.Q
open Go Go.RowKit Go.Proofs
end Go.Proofs.Ytnbmfhnfmhgaaaa.Q

/- The document's disk: put, drop, Off. -/
set_option linter.unusedVariables false
set_option linter.unusedSimpArgs false
set_option maxRecDepth 100000
namespace Go.Proofs.Ytnbmfhnfmhgaaaa.Q
open Go Go.RowKit Go.Proofs
/-- The loop of put, plainly. -/
def putI (x : Fl) (pre : List RE) : List RE := pre.filter fun g => decide (g.f.name < x.name)
def putJ (x : Fl) (pre : List RE) : List RE := pre.filter fun g => decide (x.name < g.f.name)
end Go.Proofs.Ytnbmfhnfmhgaaaa.Q

/- The document's disk: drop, Off. -/
set_option linter.unusedVariables false
set_option linter.unusedSimpArgs false
set_option maxRecDepth 100000
namespace Go.Proofs.Ytnbmfhnfmhgaaaa.Q
open Go Go.RowKit Go.Proofs
/-- A file of the row changes. -/
theorem RRow.set {σ : St} {fv : V} {q : Option Nat} {rs : List RE} (h : RRow σ.objs fv q rs) {i : Nat} (hi : i < rs.length) {y : RE} (hy : y.Ok) : ∃ ro σ', q = some ro ∧ vindexAddr Try.prog 69 fv (.int .i64 (i : Int)) = some (.optr ro (i * 3)) ∧ vstore Try.prog σ 77 (.optr ro (i * 3)) (.agg y.cells) = some σ' ∧ RRow σ'.objs fv q (rs.set i y) ∧ KS q.toList σ σ' ∧ σ'.objs.length = σ.objs.length := by
  obtain ⟨ro, hq, ho, ha, hl⟩ := h.at hi
  have hle : i * 3 + 3 ≤ rs.length * 3 := by omega
  have hc : vcells (.agg y.cells) = y.cells := rfl
  have hflat : ∀ (l : List RE) (i : Nat), i < l.length → setAll (rcells l) (i * 3) y.cells = rcells (l.set i y) := by
    intro l
    induction l with
    | nil => intro i hi; simp at hi
    | cons a l ih =>
      intro i hi
      cases i with
      | zero => simp [rcells, RE.cells, setAll]
      | succ i =>
        have h1 := ih i (by simpa using hi)
        rw [setAll_take _ _ _ (by rw [rcells_len, RE.cells_len]; simp at hi; omega)] at h1
        rw [setAll_take _ _ _ (by rw [rcells_len, RE.cells_len]; simp at hi ⊢; omega)]
        have e1 : (i + 1) * 3 = 3 + i * 3 := by omega
        have e2 : rcells (a :: l) = a.cells ++ rcells l := rfl
        have e3 : a.cells.length = 3 := rfl
        have t1 : (a.cells ++ rcells l).take (3 + i * 3) = a.cells ++ (rcells l).take (i * 3) := by rw [← e3, List.take_length_add_append]
        have t2 : (a.cells ++ rcells l).drop (3 + i * 3 + y.cells.length) = (rcells l).drop (i * 3 + y.cells.length) := by
          rw [show 3 + i * 3 + y.cells.length = a.cells.length + (i * 3 + y.cells.length) by rw [e3]; omega, List.drop_length_add_append]
        rw [e1, e2, t1, t2, List.set_cons_succ]
        show _ = a.cells ++ rcells (l.set i y)
        rw [← h1]
        simp [List.append_assoc]
  refine ⟨ro, ⟨σ.objs.set ro (.cells (rcells (rs.set i y))), σ.toks⟩, hq, ha, ?_, ?_, KS.set (.inl (by simp [hq])) _, by simp⟩
  · simp only [vstore, ho, hc, RE.one hy, SFi, RE.cells_len, rcells_len]
    rw [if_pos ⟨trivial, by omega, trivial⟩, hflat rs i hi]
  · rcases h with ⟨_, _, rfl⟩ | ⟨ro', e1, e2, e3⟩
    · simp at hi
    · rw [hq] at e2
      injection e2 with e2
      subst e2
      exact .inr ⟨ro, by rw [List.length_set]; exact e1, hq, obj_set ho⟩
end Go.Proofs.Ytnbmfhnfmhgaaaa.Q

/- The document's disk: its calls. -/
set_option linter.unusedVariables false
set_option linter.unusedSimpArgs false
set_option maxRecDepth 100000
namespace Go.Proofs.Ytnbmfhnfmhgaaaa.Q
open Go Go.RowKit Go.Proofs
theorem RefAt.get_no {σ : St} {r : Nat} {d : Dk} {q : Option Nat} {rs : List RE} (h : RefAt σ r d q rs) {n : List UInt8} (hn : ∀ x ∈ rs, x.f.name ≠ n) : getF d.files n = none := by
  rw [← h.fl]
  unfold getF
  rw [List.find?_eq_none]
  intro f hf
  obtain ⟨x, hx, rfl⟩ := List.mem_map.1 hf
  simp [hn x hx]
theorem RefAt.get_yes {σ : St} {r : Nat} {d : Dk} {q : Option Nat} {rs : List RE} (h : RefAt σ r d q rs) (hok : d.Ok) {n : List UInt8} {i : Nat} (hi : i < rs.length) (hn : rs[i].f.name = n) : getF d.files n = some rs[i].f := by
  rw [← hn]
  exact getF_mem hok.nodup (by rw [← h.fl]; exact List.mem_map_of_mem (List.getElem_mem hi))
theorem RefAt.few {σ : St} {r : Nat} {d : Dk} {q : Option Nat} {rs : List RE} (h : RefAt σ r d q rs) (hok : d.Ok) : rs.length ≤ 16 ∧ rs.length = d.files.length := by
  have h1 := congrArg List.length h.fl
  have h2 := hok.few
  rw [List.length_map] at h1
  omega
end Go.Proofs.Ytnbmfhnfmhgaaaa.Q

/- The document's disk: Sync, Truncate, Rename, Remove, Read, Arm, Names. -/
set_option linter.unusedVariables false
set_option linter.unusedSimpArgs false
set_option maxRecDepth 100000
namespace Go.Proofs.Ytnbmfhnfmhgaaaa.Q
open Go Go.RowKit Go.Proofs
theorem putF_set {l : List Fl} {x : Fl} {i : Nat} (hr : l.Pairwise fun f g => f.name < g.name) (hi : i < l.length) (hn : l[i].name = x.name) : l.set i x = putF x l := by
  have hl : l = l.take i ++ l[i] :: l.drop (i + 1) := by rw [← List.drop_eq_getElem_cons hi, List.take_append_drop]
  have hset : l.set i x = l.take i ++ x :: l.drop (i + 1) := by rw [List.set_eq_take_append_cons_drop, if_pos hi]
  have hA : ∀ f ∈ l.take i, f.name < x.name := by
    intro f hf
    obtain ⟨j, hj, rfl⟩ := List.mem_iff_getElem.1 hf
    rw [List.length_take] at hj
    rw [List.getElem_take, ← hn]
    exact List.pairwise_iff_getElem.1 hr j i (by omega) hi (by omega)
  have hB : ∀ f ∈ l.drop (i + 1), x.name < f.name := by
    intro f hf
    obtain ⟨j, hj, rfl⟩ := List.mem_iff_getElem.1 hf
    rw [List.length_drop] at hj
    rw [List.getElem_drop, ← hn]
    exact List.pairwise_iff_getElem.1 hr i (i + 1 + j) hi (by omega) (by omega)
  have a1 : (l.take i).filter (fun f => decide (f.name < x.name)) = l.take i := List.filter_eq_self.2 fun f hf => by simpa using hA f hf
  have a2 : (l.drop (i + 1)).filter (fun f => decide (f.name < x.name)) = [] := List.filter_eq_nil_iff.2 fun f hf h => lt_irrefl' _ (lt_trans' (hB f hf) (by simpa using h))
  have a3 : (l.take i).filter (fun f => decide (x.name < f.name)) = [] := List.filter_eq_nil_iff.2 fun f hf h => lt_irrefl' _ (lt_trans' (hA f hf) (by simpa using h))
  have a4 : (l.drop (i + 1)).filter (fun f => decide (x.name < f.name)) = l.drop (i + 1) := List.filter_eq_self.2 fun f hf => by simpa using hB f hf
  have n1 : ¬ l[i].name < x.name := by rw [hn]; exact lt_irrefl' _
  have n2 : ¬ x.name < l[i].name := by rw [hn]; exact lt_irrefl' _
  have h1 : l.filter (fun f => decide (f.name < x.name)) = l.take i := by
    have : l.filter (fun f => decide (f.name < x.name)) = (l.take i ++ l[i] :: l.drop (i + 1)).filter (fun f => decide (f.name < x.name)) := by rw [← hl]
    rw [this, List.filter_append, List.filter_cons, a1, a2, decide_eq_false n1]
    simp
  have h2 : l.filter (fun f => decide (x.name < f.name)) = l.drop (i + 1) := by
    have : l.filter (fun f => decide (x.name < f.name)) = (l.take i ++ l[i] :: l.drop (i + 1)).filter (fun f => decide (x.name < f.name)) := by rw [← hl]
    rw [this, List.filter_append, List.filter_cons, a3, a4, decide_eq_false n2]
    simp
  rw [hset, putF, h1, h2]
/-- A file of the row is put anew. -/
theorem RefAt.set {σ : St} {r : Nat} {d : Dk} {q : Option Nat} {rs : List RE} (h : RefAt σ r d q rs) (hok : d.Ok) {i : Nat} (hi : i < rs.length) {y : RE} (hy : y.Ok) (hn : rs[i].f.name = y.f.name) {fv : V} (hR : RRow σ.objs fv q rs) :
    ∃ ro σ', vindexAddr Try.prog 69 fv (.int .i64 (i : Int)) = some (.optr ro (i * 3)) ∧ vstore Try.prog σ 77 (.optr ro (i * 3)) (.agg y.cells) = some σ' ∧ (∀ fv2, σ.objs[r]? = some (.cells [fv2, .int .i64 d.room, .bool d.on, .int .i64 (d.writes : Nat), .int .i64 (d.armed : Nat), .int .i64 d.keep]) → fv2 = fv → RNext σ r q σ' { d with files := putF y.f d.files }) := by
  obtain ⟨ro, σ', hq, ha, hs, hR2, K2, L2⟩ := hR.set hi hy
  refine ⟨ro, σ', ha, hs, fun fv2 o e => ?_⟩
  subst e
  refine ⟨q, rs.set i y, ⟨⟨fv2, K2.ko _ _ h.ne o, hR2⟩, fun x hx => ?_, ?_, h.ne⟩, K2.mono fun x hx => .inl (List.mem_cons_of_mem _ hx), fun x hx => .inl hx⟩
  · rcases List.mem_or_eq_of_mem_set hx with h1 | h1
    · exact h.ok x h1
    · subst h1; exact hy
  · simp only
    rw [List.map_set, h.fl]
    have hl : i < d.files.length := by rw [← h.fl, List.length_map]; exact hi
    refine putF_set hok.rise hl ?_
    have : d.files[i] = rs[i].f := by simp [← h.fl]
    rw [this, hn]
end Go.Proofs.Ytnbmfhnfmhgaaaa.Q

/- The document's disk: Truncate, Remove, Rename, Read, Arm, Names. -/
set_option linter.unusedVariables false
set_option linter.unusedSimpArgs false
set_option maxRecDepth 100000
namespace Go.Proofs.Ytnbmfhnfmhgaaaa.Q
open Go Go.RowKit Go.Proofs
end Go.Proofs.Ytnbmfhnfmhgaaaa.Q

/- The document's disk: Remove, Rename, Read, Arm, Names. -/
set_option linter.unusedVariables false
set_option linter.unusedSimpArgs false
set_option maxRecDepth 100000
namespace Go.Proofs.Ytnbmfhnfmhgaaaa.Q
open Go Go.RowKit Go.Proofs
end Go.Proofs.Ytnbmfhnfmhgaaaa.Q

/- Rows, written or not. -/
set_option linter.unusedVariables false
set_option linter.unusedSimpArgs false
set_option maxRecDepth 100000
namespace Go.Proofs.Ytnbmfhnfmhgaaaa.Q
open Go Go.RowKit Go.Proofs
/-- w is a row of n elements of k cells each; it may be a part of an object. -/
def RowS (σ : St) (k : Nat) (w : V) (cs : List V) (n : Nat) : Prop := RowV k w cs n ∨ (cs.length = n * k ∧ ∃ r off c, w = .hslice r off k n ∧ σ.objs[r]? = some (.cells c) ∧ off + n * k ≤ c.length ∧ (c.drop off).take (n * k) = cs)
section
variable {σ : St} {k n : Nat} {w : V} {cs : List V}
theorem RowS.keep {σ' : St} (h : RowS σ k w cs n) (hk : Keep σ σ') : RowS σ' k w cs n := by
  rcases h with h | ⟨h0, r, off, c, h1, h2, h3⟩
  · exact .inl h
  · exact .inr ⟨h0, r, off, c, h1, hk.1 _ _ h2, h3⟩
theorem RowS.size (h : RowS σ k w cs n) : cs.length = n * k := by
  rcases h with h | ⟨h0, _⟩
  · exact h.1
  · exact h0
theorem RowS.one (h : RowS σ k w cs n) : one w = true := by
  rcases h with h | ⟨h0, r, off, c, rfl, _⟩
  · exact h.one
  · rfl
theorem RowS.len (h : RowS σ k w cs n) {t e : TypeId} (ht : Try.prog.underlying t = some (.slice e)) : vlen Try.prog t w = some (.int .i64 (n : Nat)) := by
  rcases h with h | ⟨h0, r, off, c, rfl, _⟩
  · exact h.len ht
  · simp [vlen, ht]
/-- The place of an element: what may be read there. -/
def At (σ : St) (p : V) (c : List V) : Prop := (∃ cs o, p = .eptr cs o ∧ o + c.length ≤ cs.length ∧ (cs.drop o).take c.length = c) ∨ ∃ r o cs, p = .optr r o ∧ σ.objs[r]? = some (.cells cs) ∧ o + c.length ≤ cs.length ∧ (cs.drop o).take c.length = c
theorem RowS.at (h : RowS σ k w cs n) {t e : TypeId} (ht : Try.prog.underlying t = some (.slice e)) (hs : sizeT Try.prog e = some k) (hk : 0 < k) {i : Nat} (hi : i < n) {kk : IntKind} :
    ∃ p, vindexAddr Try.prog t w (.int kk (i : Int)) = some p ∧ At σ p ((cs.drop (i * k)).take k) := by
  have hsz := h.size
  have hle : i * k + k ≤ n * k := by
    have : (i + 1) * k ≤ n * k := Nat.mul_le_mul_right k hi
    rwa [Nat.add_mul, Nat.one_mul] at this
  have hpl : ((cs.drop (i * k)).take k).length = k := by rw [List.length_take, List.length_drop]; omega
  rcases h with h | ⟨h0, r, off, c, rfl, h2, h3, h4⟩
  · refine ⟨_, RowV.addr h ht hs hk (kk := kk) (i := (i : Int)) (by omega) (by omega), .inl ⟨cs, i * k, by rw [Int.toNat_natCast], by rw [hpl]; omega, by rw [hpl]⟩⟩
  · have hi' : (i : Int) < n := by omega
    refine ⟨.optr r (off + i * k), by simp [vindexAddr, ht, hs, hi'], .inr ⟨r, _, c, rfl, h2, by rw [hpl]; omega, ?_⟩⟩
    rw [hpl, ← h4, List.drop_take, List.drop_drop, List.take_take]
    congr 1
    omega
theorem At.keep {σ' : St} {p : V} {c : List V} (h : At σ p c) (hk : Keep σ σ') : At σ' p c := by
  rcases h with h | ⟨r, o, cs, h1, h2, h3⟩
  · exact .inl h
  · exact .inr ⟨r, o, cs, h1, hk.1 _ _ h2, h3⟩
theorem At.load {p : V} {c : List V} (h : At σ p c) {e : TypeId} (ha : isAggT Try.prog e = some true) (hs : sizeT Try.prog e = some c.length) : vload Try.prog σ.objs e p = some (.agg c) := by
  rcases h with ⟨cs, o, rfl, h1, h2⟩ | ⟨r, o, cs, rfl, hr, h1, h2⟩
  · simp only [vload, vcellsAt, vpart, ha, hs, if_pos h1, h2]
  · simp only [vload, vcellsAt, hr, vpart, ha, hs, if_pos h1, h2]
theorem At.load1 {p : V} {v : V} (h : At σ p [v]) {e : TypeId} (ha : isAggT Try.prog e = some false) : vload Try.prog σ.objs e p = some v := by
  have key : ∀ (cs : List V) (o : Nat), o + 1 ≤ cs.length → (cs.drop o).take 1 = [v] → cs[o]? = some v := by
    intro cs o h1 h2
    have := congrArg (·[0]?) h2
    simpa using this
  rcases h with ⟨cs, o, rfl, h1, h2⟩ | ⟨r, o, cs, rfl, hr, h1, h2⟩
  · simp only [vload, vcellsAt, vpart, ha]; exact key cs o h1 h2
  · simp only [vload, vcellsAt, hr, vpart, ha]; exact key cs o h1 h2
/-- A cell of what lies there. -/
theorem At.part {p : V} {c : List V} (h : At σ p c) {j m : Nat} (hj : j + m ≤ c.length) : ∃ p', (∀ (e : TypeId) (f : Nat), (∀ q o, vfieldAddr Try.prog e (.optr q o) f = some (.optr q (o + j))) → (∀ cs o, vfieldAddr Try.prog e (.eptr cs o) f = some (.eptr cs (o + j))) → vfieldAddr Try.prog e p f = some p') ∧ At σ p' ((c.drop j).take m) := by
  have hpl : ((c.drop j).take m).length = m := by rw [List.length_take, List.length_drop]; omega
  have cut : ∀ (cs : List V) (o : Nat), o + c.length ≤ cs.length → (cs.drop o).take c.length = c → (cs.drop (o + j)).take m = (c.drop j).take m := by
    intro cs o h1 h2
    have h3 : c.drop j = ((cs.drop o).take c.length).drop j := by rw [h2]
    rw [h3, List.drop_take, List.drop_drop, List.take_take]
    congr 1
    omega
  rcases h with ⟨cs, o, rfl, h1, h2⟩ | ⟨r, o, cs, rfl, hr, h1, h2⟩
  · exact ⟨.eptr cs (o + j), fun e f _ h => h cs o, .inl ⟨cs, o + j, rfl, by rw [hpl]; omega, by rw [hpl]; exact cut cs o h1 h2⟩⟩
  · exact ⟨.optr r (o + j), fun e f h _ => h r o, .inr ⟨r, o + j, cs, rfl, hr, by rw [hpl]; omega, by rw [hpl]; exact cut cs o h1 h2⟩⟩
end
end Go.Proofs.Ytnbmfhnfmhgaaaa.Q

/- A step of a disk, plainly. -/
set_option linter.unusedVariables false
set_option linter.unusedSimpArgs false
set_option maxRecDepth 100000
namespace Go.Proofs.Ytnbmfhnfmhgaaaa.Q
open Go Go.RowKit Go.Proofs
structure Opn where
  kind : Int
  f : List UInt8
  g : List UInt8
  n : Int
  k : Int
  bv : V
  b : List UInt8
def Opn.cells (o : Opn) : List V := [.int .i64 o.kind, .str o.f, .str o.g, .int .i64 o.n, .int .i64 o.k, o.bv]
structure Opn.Ok (o : Opn) : Prop where
  b : BtsV o.bv o.b
  bl : o.b.length ≤ 1000000000
  n : InI64 o.n
  k : InI64 o.k
/-- The bytes read, what went wrong, and the disk behind it. -/
def stepD (o : Opn) (d : Dk) : (List UInt8 × Nat) × Dk :=
  if o.kind = 0 then (([], (appendD o.f o.b d).1), (appendD o.f o.b d).2) else
  if o.kind = 1 then (([], (syncD o.f d).1), (syncD o.f d).2) else
  if o.kind = 2 then (([], (truncD o.f o.n d).1), (truncD o.f o.n d).2) else
  if o.kind = 3 then (([], (renameD o.f o.g d).1), (renameD o.f o.g d).2) else
  if o.kind = 4 then (([], (removeD o.f d).1), (removeD o.f d).2) else
  if o.kind = 5 then (((readD o.f d).2, (readD o.f d).1), d) else
  if o.kind = 6 then (([], 0), { d with room := o.n }) else
  if o.kind = 7 then (([], 0), armD o.n o.k d) else
  if o.kind = 8 then (([], 0), offD o.k d) else
  if o.kind = 9 then (([], 0), { d with on := true }) else (([], 0), d)
theorem off_writes (k : Int) (d : Dk) : (offD k d).writes = d.writes := by unfold offD; split <;> rfl
theorem goes_ok {d : Dk} (h : d.Ok) (k : Int) : (offD k (rawD d).2).Ok := h.raw.off k
theorem append_ok {n b : List UInt8} {d : Dk} (h : d.Ok) : (appendD n b d).2.Ok ∧ (appendD n b d).2.writes ≤ d.writes + 1 := by
  unfold appendD
  split
  · exact ⟨h, by simp⟩
  · rename_i hr
    have hr0 : readyD d n = 0 := Classical.byContradiction hr
    have hn := (readyD_named hr0).1
    simp only
    split
    · exact ⟨h, by simp⟩
    · rename_i hl
      split
      · exact ⟨h, by simp⟩
      · rename_i hf
        have ok2 : ({ d with files := putF ⟨n, ((getF d.files n).getD ⟨n, [], []⟩).safe, ((getF d.files n).getD ⟨n, [], []⟩).wait ++ b⟩ d.files } : Dk).Ok := by
          refine h.put hn ?_ fun hno => ?_
          · simp only [Fl.len, List.length_append] at hl ⊢; omega
          · have : ¬ 16 ≤ d.files.length := fun h1 => hf (.inl ⟨hno, h1⟩)
            omega
        have rf := raw_files { d with files := putF ⟨n, ((getF d.files n).getD ⟨n, [], []⟩).safe, ((getF d.files n).getD ⟨n, [], []⟩).wait ++ b⟩ d.files }
        split
        · exact ⟨goes_ok ok2 _, by rw [off_writes, rf.2.2.2.2]; simp⟩
        · exact ⟨ok2.raw, by rw [rf.2.2.2.2]; simp⟩
theorem put_same {d : Dk} (h : d.Ok) {n : List UInt8} (ht : thereD d n = 0) {s w : List UInt8} (hl : s.length + w.length ≤ 1048576) : ({ (rawD d).2 with files := putF ⟨n, s, w⟩ d.files } : Dk).Ok := by
  obtain ⟨hr, f, hg⟩ := thereD_zero ht
  have h1 : ({ (rawD d).2 with files := putF ⟨n, s, w⟩ (rawD d).2.files } : Dk).Ok := h.raw.put (readyD_named hr).1 (by simp only [Fl.len]; omega) fun hno => by
    rw [(raw_files d).1, hg] at hno; cases hno
  rw [(raw_files d).1] at h1
  exact h1
theorem raw_w (d : Dk) : (rawD d).2.writes = d.writes + 1 := (raw_files d).2.2.2.2
theorem sync_ok {n : List UInt8} {d : Dk} (h : d.Ok) : (syncD n d).2.Ok ∧ (syncD n d).2.writes ≤ d.writes + 1 := by
  unfold syncD
  split
  · exact ⟨h, by simp⟩
  · rename_i ht
    have ht0 : thereD d n = 0 := Classical.byContradiction ht
    obtain ⟨hr, f, hg⟩ := thereD_zero ht0
    have hl := (h.get hg).2.2.2
    split
    · exact ⟨goes_ok h _, by rw [off_writes, raw_w]; simp⟩
    · simp only [hg, Option.getD_some]
      exact ⟨put_same h ht0 (by simpa [Fl.len] using hl), by rw [raw_w]; simp⟩
end Go.Proofs.Ytnbmfhnfmhgaaaa.Q

/- The law's helpers: does, says. -/
set_option linter.unusedVariables false
set_option linter.unusedSimpArgs false
set_option maxRecDepth 100000
namespace Go.Proofs.Ytnbmfhnfmhgaaaa.Q
open Go Go.RowKit Go.Proofs
end Go.Proofs.Ytnbmfhnfmhgaaaa.Q

/- The law's helpers: says. -/
set_option linter.unusedVariables false
set_option linter.unusedSimpArgs false
set_option maxRecDepth 100000
namespace Go.Proofs.Ytnbmfhnfmhgaaaa.Q
open Go Go.RowKit Go.Proofs
end Go.Proofs.Ytnbmfhnfmhgaaaa.Q

/- The law's helpers: Names of the document's, same, long, alike. -/
set_option linter.unusedVariables false
set_option linter.unusedSimpArgs false
set_option maxRecDepth 100000
namespace Go.Proofs.Ytnbmfhnfmhgaaaa.Q
open Go Go.RowKit Go.Proofs
theorem TSS : Try.prog.underlying 31 = some (.slice 9) := by kernel_rfl
theorem SS9 : sizeT Try.prog 9 = some 1 := by kernel_rfl
theorem same3_does {v w : V} {xs bs : List UInt8} {σ : St} (hv : RB σ v xs) (hw : RB σ w bs) (hla : xs.length ≤ 140737488355328) : Does Try.prog prims 14 [v, w] σ (.ret (.bool (decide (xs = bs)))) σ := by
  apply k14_is.ret (by simp)
  by_cases hlen : xs.length = bs.length
  · have hne : decide ((xs.length : Int) = bs.length) = true := by simp [hlen]
    simp only [k14_a, WK, vop, evAll, evOpt, evParts, vbuiltin, vun, vextract, Nat.reduceLT, Nat.reduceEqDiff, ↓reduceIte, reduceCtorEq, Nat.reduceAdd, Int.reduceLT, Int.reduceNeg, valloc_std, noSB, vhot, List.getD_cons_zero, List.getD_cons_succ, hv.len, hw.len, hne]
    refine Ev.loopF (fun i e σ' => σ' = σ ∧ e 13 = .int .i64 (i : Nat) ∧ i ≤ xs.length ∧ xs.take i = bs.take i) (fun i => xs.length - i) 0 ⟨rfl, by simp [upd_some], by simp, by simp⟩ ?_
    rintro i e σ' ⟨rfl, h13, hi, htk⟩ hf
    have h0 : e 0 = v := (hf 0 (by decide)).trans (by simp [upd_some])
    have h1 : e 1 = w := (hf 1 (by decide)).trans (by simp [upd_some])
    have h12 : e 12 = .int .i64 xs.length := (hf 12 (by decide)).trans (by simp [upd_some])
    by_cases hlt : i < xs.length
    · have hlt' : (i : Int) < xs.length := by omega
      have hltb : i < bs.length := by omega
      have hwi : IntKind.i64.wrap ((i : Int) + 1) = ((i + 1 : Nat) : Int) := by rw [show ((i : Int) + 1) = ((i + 1 : Nat) : Int) from by omega]; exact wrap_nat (by omega)
      obtain ⟨p, hp, hlp⟩ := hv.at hlt
      obtain ⟨q, hq, hlq⟩ := hw.at hltb
      by_cases he : xs[i] = bs[i]
      · have hd : decide (((xs[i].toNat : Nat) : Int) = bs[i].toNat) = true := by simp [he]
        simp only [k14_a, WK, vop, evAll, evOpt, evParts, vbuiltin, vun, vextract, Nat.reduceLT, Nat.reduceEqDiff, ↓reduceIte, reduceCtorEq, Nat.reduceAdd, Int.reduceLT, Int.reduceNeg, valloc_std, noSB, vhot, h0, h1, h12, h13, hlt', hp, hq, hlp, hlq, hd, hwi]
        refine ⟨i + 1, ⟨rfl, hlt, ?_⟩, by omega⟩
        rw [List.take_succ_eq_append_getElem hlt, List.take_succ_eq_append_getElem hltb, htk, he]
      · have hd : decide (((xs[i].toNat : Nat) : Int) = bs[i].toNat) = false := by
          simp only [decide_eq_false_iff_not]
          intro h
          exact he (UInt8.toNat_inj.1 (by omega))
        simp only [k14_a, WK, vop, evAll, evOpt, evParts, vbuiltin, vun, vextract, Nat.reduceLT, Nat.reduceEqDiff, ↓reduceIte, reduceCtorEq, Nat.reduceAdd, Int.reduceLT, Int.reduceNeg, valloc_std, noSB, vhot, h0, h1, h12, h13, hlt', hp, hq, hlp, hlq, hd, hwi]
        have : xs ≠ bs := by rintro rfl; exact he rfl
        simp [this]
    · have hlt' : ¬ (i : Int) < xs.length := by omega
      simp only [k14_a, WK, vop, evAll, evOpt, evParts, vbuiltin, vun, vextract, Nat.reduceLT, Nat.reduceEqDiff, ↓reduceIte, reduceCtorEq, Nat.reduceAdd, Int.reduceLT, Int.reduceNeg, valloc_std, noSB, vhot, h0, h1, h12, h13, hlt']
      have : xs = bs := by
        rw [List.take_of_length_le (by omega), List.take_of_length_le (by omega)] at htk
        exact htk
      simp [this]
  · have hne : decide ((xs.length : Int) = bs.length) = false := by simp; omega
    simp only [k14_a, WK, vop, evAll, evOpt, evParts, vbuiltin, vun, vextract, Nat.reduceLT, Nat.reduceEqDiff, ↓reduceIte, reduceCtorEq, Nat.reduceAdd, Int.reduceLT, Int.reduceNeg, valloc_std, noSB, vhot, List.getD_cons_zero, List.getD_cons_succ, hv.len, hw.len, hne]
    have : xs ≠ bs := by rintro rfl; exact hlen rfl
    simp [this]
/-- A row of words, written or not. -/
theorem row_strs {σ : St} {v : V} {q : Option Nat} {l : List (List UInt8)} (h : rowOf σ.objs v = some (q, l.map V.str)) : RowS σ 1 v (l.map V.str) l.length := by
  rcases rowOf_spec h with ⟨rfl, rfl, h0⟩ | ⟨r, full, rfl, rfl, hr, hl, hc⟩
  · refine .inl ⟨by simp, .inl ⟨rfl, ?_⟩⟩
    have := congrArg List.length h0
    simpa using this
  · simp only [List.length_map] at hl hc ⊢
    exact .inr ⟨by simp, r, 0, full, rfl, hr, by omega, by rw [List.drop_zero, Nat.mul_one]; exact hc.symm⟩
theorem RowS.strAt {σ : St} {v : V} {l : List (List UInt8)} (h : RowS σ 1 v (l.map V.str) l.length) {i : Nat} (hi : i < l.length) : ∃ p, vindexAddr Try.prog 31 v (.int .i64 (i : Int)) = some p ∧ ∀ σ', KS [] σ σ' → vload Try.prog σ'.objs 9 p = some (.str l[i]) := by
  obtain ⟨p, h1, h2⟩ := h.at TSS SS9 (by omega) (i := i) (by simpa using hi) (kk := .i64)
  refine ⟨p, h1, fun σ' hk => ?_⟩
  have e : ((l.map V.str).drop (i * 1)).take 1 = [V.str l[i]] := by
    rw [Nat.mul_one, List.drop_eq_getElem_cons (by simpa using hi)]
    simp
  rw [e] at h2
  exact (h2.keep hk.keep).load1 G9
end Go.Proofs.Ytnbmfhnfmhgaaaa.Q

/- The law's helpers: alike, long. -/
set_option linter.unusedVariables false
set_option linter.unusedSimpArgs false
set_option maxRecDepth 100000
namespace Go.Proofs.Ytnbmfhnfmhgaaaa.Q
open Go Go.RowKit Go.Proofs
theorem KS.nils {S : List Nat} {σ σ' : St} (h : KS [] σ σ') : KS S σ σ' := h.mono fun x hx => by cases hx
theorem DiskAt.pushes {σ σ' : St} {r rm : Nat} {d : Dk} {fs : List Ent} (h : DiskAt σ r d rm fs) (hk : KS [] σ σ') : DiskAt σ' r d rm fs := h.keep hk fun x _ => by simp
theorem RefAt.pushes {σ σ' : St} {r : Nat} {d : Dk} {q : Option Nat} {rs : List RE} (h : RefAt σ r d q rs) (hk : KS [] σ σ') : RefAt σ' r d q rs := h.keep hk fun x _ => by simp
end Go.Proofs.Ytnbmfhnfmhgaaaa.Q

/- Operations as arguments; long. -/
set_option linter.unusedVariables false
set_option linter.unusedSimpArgs false
set_option maxRecDepth 100000
namespace Go.Proofs.Ytnbmfhnfmhgaaaa.Q
open Go Go.RowKit Go.Proofs
theorem TOs : Try.prog.underlying 41 = some (.slice 46) := by kernel_rfl
theorem SOp : sizeT Try.prog 46 = some 6 := by kernel_rfl
theorem GOp : isAggT Try.prog 46 = some true := by kernel_rfl
theorem Opn.cells_len (o : Opn) : o.cells.length = 6 := rfl
def OpsV (w : V) (l : List Opn) : Prop := RowV 6 w (l.flatMap Opn.cells) l.length
theorem OpsV.len {v : V} {l : List Opn} (h : OpsV v l) : vlen Try.prog 41 v = some (.int .i64 l.length) := RowV.len h TOs
theorem OpsV.addr {v : V} {l : List Opn} (h : OpsV v l) {i : Nat} (hi : i < l.length) : vindexAddr Try.prog 41 v (.int .i64 i) = some (.eptr (l.flatMap Opn.cells) (i * 6)) := by
  have := RowV.addr h TOs SOp (by omega) (kk := .i64) (i := i) (by omega) (by omega)
  rwa [Int.toNat_natCast] at this
theorem OpsV.load {l : List Opn} {i : Nat} (hi : i < l.length) {objs : List Ob} : vload Try.prog objs 46 (.eptr (l.flatMap Opn.cells) (i * 6)) = some (.agg l[i].cells) := load_part Opn.cells_len hi GOp SOp
theorem Opn.one {o : Opn} (h : BtsV o.bv o.b) : o.cells.all Q.one = true := by
  simp only [Opn.cells, List.all_cons, List.all_nil, h.one, Bool.and_true]
  rfl
end Go.Proofs.Ytnbmfhnfmhgaaaa.Q

/- Rows of rows of bytes as arguments; and of truths. -/
set_option linter.unusedVariables false
set_option linter.unusedSimpArgs false
set_option maxRecDepth 100000
namespace Go.Proofs.Ytnbmfhnfmhgaaaa.Q
open Go Go.RowKit Go.Proofs
abbrev BV := V × List UInt8
theorem SBs : sizeT Try.prog 28 = some 1 := pSB
/-- A row of rows of bytes. -/
def PtsV (w : V) (l : List BV) : Prop := RowV 1 w (l.map Prod.fst) l.length
theorem PtsV.len {v : V} {l : List BV} (h : PtsV v l) : vlen Try.prog 22 v = some (.int .i64 l.length) := RowV.len h TBB
theorem PtsV.addr {v : V} {l : List BV} (h : PtsV v l) {i : Nat} (hi : i < l.length) : vindexAddr Try.prog 22 v (.int .i64 i) = some (.eptr (l.map Prod.fst) i) := by
  have := RowV.addr h TBB SBs (by omega) (kk := .i64) (i := i) (by omega) (by omega)
  rwa [Int.toNat_natCast, Nat.mul_one] at this
theorem PtsV.load {l : List BV} {i : Nat} (hi : i < l.length) {objs : List Ob} : vload Try.prog objs 28 (.eptr (l.map Prod.fst) i) = some l[i].1 := by
  simp [vload, vcellsAt, vpart, pGB, hi]
end Go.Proofs.Ytnbmfhnfmhgaaaa.Q

/- The waking. -/
set_option linter.unusedVariables false
set_option linter.unusedSimpArgs false
set_option maxRecDepth 100000
namespace Go.Proofs.Ytnbmfhnfmhgaaaa.Q
open Go Go.RowKit Go.Proofs
theorem wakes_run : isTrue (vcall Try.prog prims 300 8 [] st0) = true := by kernel_rfl
theorem wakes_does : ∃ σ, Does Try.prog prims 8 [] st0 (.ret (.bool true)) σ := by
  obtain ⟨σ, h⟩ := isTrue_eq wakes_run
  exact ⟨σ, 300, h⟩
end Go.Proofs.Ytnbmfhnfmhgaaaa.Q

/- DiskFull: for every input of bulk at most 1048576 the law answers true. -/
set_option linter.unusedVariables false
set_option linter.unusedSimpArgs false
set_option maxRecDepth 100000
namespace Go.Proofs.Ytnbmfhnfmhgaaaa.Q
open Go Go.RowKit Go.Proofs
/-! ### Sizes, plainly -/
theorem sizeD_perm {l m : List Fl} (h : l.Perm m) : sizeD l = sizeD m := (h.map Fl.len).sum_nat
theorem sizeD_cons (f : Fl) (l : List Fl) : sizeD (f :: l) = f.len + sizeD l := by simp [sizeD]
theorem size_putF {l : List Fl} {x : Fl} (hr : l.Pairwise fun f g => f.name < g.name) : sizeD (putF x l) + (match getF l x.name with | some f => f.len | none => 0) = sizeD l + x.len := by
  cases h : getF l x.name with
  | none =>
    rw [sizeD_perm (putF_new h), sizeD_cons]; simp only; omega
  | some f =>
    obtain ⟨hm, hn⟩ := getF_some h
    obtain ⟨A, B, rfl⟩ := List.append_of_mem hm
    have hp := putF_perm (x := x) hr (List.Perm.refl _) hn.symm
    rw [← sizeD_perm hp]
    simp only [sizeD, List.map_append, List.map_cons, List.sum_append, List.sum_cons]
    omega
theorem size_mem {l : List Fl} {f : Fl} (h : f ∈ l) : f.len ≤ sizeD l := by
  obtain ⟨A, B, rfl⟩ := List.append_of_mem h
  simp only [sizeD, List.map_append, List.map_cons, List.sum_append, List.sum_cons]
  omega
theorem readyD_yes {d : Dk} {n : List UInt8} (h : namedD n = true) (ho : d.on = true) : readyD d n = 0 := by
  unfold readyD; rw [if_neg (by simp [h]), if_neg (by simp [ho])]
/-- An append where no power goes. -/
theorem append_plain {d : Dk} (hok : d.Ok) {n b : List UInt8} (hn : namedD n = true) (ho : d.on = true) (ha : d.armed = 0) (hs : sizeD d.files + b.length ≤ 1048576) (hl : d.files.length < 16) :
    (d.room < ((sizeD d.files + b.length : Nat) : Int) ∧ appendD n b d = (22, d)) ∨ (¬ d.room < ((sizeD d.files + b.length : Nat) : Int) ∧
      appendD n b d = (0, { d with files := putF ⟨n, ((getF d.files n).getD ⟨n, [], []⟩).safe, ((getF d.files n).getD ⟨n, [], []⟩).wait ++ b⟩ d.files, writes := d.writes + 1 }) ∧
      sizeD (putF ⟨n, ((getF d.files n).getD ⟨n, [], []⟩).safe, ((getF d.files n).getD ⟨n, [], []⟩).wait ++ b⟩ d.files) = sizeD d.files + b.length) := by
  have hle : ((getF d.files n).getD ⟨n, [], []⟩).len ≤ sizeD d.files := by
    cases h : getF d.files n with
    | none => simp [Fl.len]
    | some f => exact size_mem (getF_some h).1
  have hrd : ¬ readyD d n ≠ 0 := by rw [readyD_yes hn ho]; simp
  have hlong : ¬ 1048576 < ((getF d.files n).getD ⟨n, [], []⟩).len + b.length := by omega
  by_cases hf : d.room < ((sizeD d.files + b.length : Nat) : Int)
  · refine .inl ⟨hf, ?_⟩
    unfold appendD
    rw [if_neg hrd]
    simp only
    rw [if_neg hlong, if_pos (.inr hf)]
  · refine .inr ⟨hf, ?_, ?_⟩
    · unfold appendD
      rw [if_neg hrd]
      simp only
      rw [if_neg hlong, if_neg (by rintro (h | h); · omega
                                   · exact hf h)]
      simp [rawD, ha]
    · have h := size_putF (x := ⟨n, ((getF d.files n).getD ⟨n, [], []⟩).safe, ((getF d.files n).getD ⟨n, [], []⟩).wait ++ b⟩) hok.rise
      cases hg : getF d.files n with
      | none => rw [hg] at h; simp [Fl.len] at h ⊢; exact h
      | some f => rw [hg] at h; simp [Fl.len] at h ⊢; omega
def nmA : List UInt8 := [97]
def nmB : List UInt8 := [98]
theorem two_names {l : List Fl} (hr : l.Pairwise fun f g => f.name < g.name) (h : ∀ f ∈ l, f.name = nmA ∨ f.name = nmB) : l.length ≤ 2 := by
  match l, hr, h with
  | [], _, _ => simp
  | [_], _, _ => simp
  | [_, _], _, _ => simp
  | a :: b :: c :: l, hr, h =>
    exfalso
    simp only [List.pairwise_cons, List.mem_cons, forall_eq_or_imp] at hr h
    obtain ⟨⟨h1, h2, _⟩, ⟨h3, _⟩, _⟩ := hr
    obtain ⟨a1, b1, c1, _⟩ := h
    rcases a1 with a1 | a1 <;> rcases b1 with b1 | b1 <;> rcases c1 with c1 | c1 <;> rw [a1, b1] at h1 <;> rw [a1, c1] at h2 <;> rw [b1, c1] at h3 <;>
      first | exact lt_irrefl' _ h1 | exact lt_irrefl' _ h2 | exact lt_irrefl' _ h3
/-! ### The walk -/
structure Full (d : Dk) (n : Int) (i : Nat) : Prop where
  ok : d.Ok
  on : d.on = true
  arm : d.armed = 0
  room : d.room = n
  two : ∀ f ∈ d.files, f.name = nmA ∨ f.name = nmB
  sz : sizeD d.files ≤ 1024 * i
  wr : d.writes ≤ i
theorem Full.new {n : Int} (h : InI64 n) : Full (newD n) n 0 := ⟨newD_ok h, rfl, rfl, rfl, fun f hf => (by cases hf), by simp [newD, sizeD], Nat.le_refl _⟩
theorem Full.step {d : Dk} {n : Int} {i : Nat} (h : Full d n i) (hi : i < 512) {nm b : List UInt8} (hn : nm = nmA ∨ nm = nmB) (hb : b.length ≤ 1024) :
    (n < ((sizeD d.files + b.length : Nat) : Int) ∧ appendD nm b d = (22, d) ∧ Full d n (i + 1)) ∨ (¬ n < ((sizeD d.files + b.length : Nat) : Int) ∧ (appendD nm b d).1 = 0 ∧ Full (appendD nm b d).2 n (i + 1) ∧ sizeD (appendD nm b d).2.files = sizeD d.files + b.length) := by
  have hnm : namedD nm = true := by rcases hn with rfl | rfl <;> decide
  have h2 := two_names h.ok.rise h.two
  have hsz := h.sz
  have hwr := h.wr
  have hr := h.room
  rcases append_plain h.ok hnm h.on h.arm (b := b) (by omega) (by omega) with ⟨h3, h4⟩ | ⟨h3, h4, h5⟩
  · rw [hr] at h3
    exact .inl ⟨h3, h4, h.ok, h.on, h.arm, h.room, h.two, by omega, by omega⟩
  · rw [hr] at h3
    have hok := (append_ok (n := nm) (b := b) h.ok).1
    rw [h4] at hok ⊢
    refine .inr ⟨h3, rfl, ⟨hok, h.on, h.arm, h.room, fun f hf => ?_, ?_, ?_⟩, h5⟩
    · simp only [mem_putF] at hf
      rcases hf with rfl | hf
      · exact hn
      · exact h.two f hf.1
    · simp only [h5]; omega
    · simp only; omega
end Go.Proofs.Ytnbmfhnfmhgaaaa.Q

/- DiskSafe: for every input of bulk at most 1048576 the law answers true. -/
set_option linter.unusedVariables false
set_option linter.unusedSimpArgs false
set_option maxRecDepth 100000
namespace Go.Proofs.Ytnbmfhnfmhgaaaa.Q
open Go Go.RowKit Go.Proofs
/-! ### Rows of truths as arguments -/
theorem TLB : Try.prog.underlying 38 = some (.slice 4) := by kernel_rfl
def BoolsV (w : V) (l : List Bool) : Prop := RowV 1 w (l.map V.bool) l.length
theorem BoolsV.len {v : V} {l : List Bool} (h : BoolsV v l) : vlen Try.prog 38 v = some (.int .i64 l.length) := RowV.len h TLB
theorem BoolsV.addr {v : V} {l : List Bool} (h : BoolsV v l) {i : Nat} (hi : i < l.length) : vindexAddr Try.prog 38 v (.int .i64 i) = some (.eptr (l.map V.bool) i) := by
  have := RowV.addr h TLB S4 (by omega) (kk := .i64) (i := i) (by omega) (by omega)
  rwa [Int.toNat_natCast, Nat.mul_one] at this
theorem BoolsV.load {l : List Bool} {i : Nat} (hi : i < l.length) {objs : List Ob} : vload Try.prog objs 4 (.eptr (l.map V.bool) i) = some (.bool l[i]) := by
  simp [vload, vcellsAt, vpart, G4, hi]
/-! ### Plainly -/
def nmF : List UInt8 := [102]
structure Safe (d : Dk) (all : List UInt8) (sf i : Nat) : Prop where
  ok : d.Ok
  on : d.on = true
  arm : d.armed = 0
  room : d.room = 1048576
  wr : d.writes ≤ 2 * i
  sl : sf ≤ all.length
  fl : d.files = if i = 0 then [] else [⟨nmF, all.take sf, all.drop sf⟩]
  zr : i = 0 → all = []
theorem Safe.new : Safe (newD 1048576) [] 0 0 := ⟨newD_ok (by unfold InI64; omega), rfl, rfl, rfl, Nat.le_refl _, Nat.le_refl _, rfl, fun _ => rfl⟩
theorem get_one (f : Fl) : getF [f] f.name = some f := by simp [getF]
theorem put_one (f x : Fl) (h : f.name = x.name) : putF x [f] = [x] := by
  have : ¬ x.name < x.name := lt_irrefl' _
  simp [putF, h, this]
theorem Safe.size {d : Dk} {all : List UInt8} {sf i : Nat} (h : Safe d all sf i) : sizeD d.files = all.length ∧ d.files.length < 16 := by
  have h1 := h.fl
  by_cases hi : i = 0
  · rw [if_pos hi] at h1
    rw [h1, h.zr hi]
    exact ⟨rfl, by simp⟩
  · rw [if_neg hi] at h1
    rw [h1]
    have := h.sl
    exact ⟨by simp [sizeD, Fl.len]; omega, by simp⟩
theorem Safe.app {d : Dk} {all : List UInt8} {sf i : Nat} (h : Safe d all sf i) (b : List UInt8) (hb : all.length + b.length ≤ 524288) : (appendD nmF b d).1 = 0 ∧ Safe (appendD nmF b d).2 (all ++ b) sf (i + 1) := by
  obtain ⟨s1, s2⟩ := h.size
  rcases append_plain h.ok (n := nmF) (b := b) (by decide) h.on h.arm (by omega) s2 with ⟨h3, _⟩ | ⟨h3, h4, h5⟩
  · rw [h.room, s1] at h3; omega
  · have hok := (append_ok (n := nmF) (b := b) h.ok).1
    have hwr := h.wr
    have hsl := h.sl
    rw [h4] at hok ⊢
    refine ⟨rfl, hok, h.on, h.arm, h.room, by simp only; omega, by rw [List.length_append]; omega, ?_, fun h => by omega⟩
    rw [if_neg (by omega)]
    have h1 := h.fl
    by_cases hi : i = 0
    · rw [if_pos hi] at h1
      have ha := h.zr hi
      subst ha
      have hs0 : sf = 0 := by simpa using hsl
      subst hs0
      simp only [h1]
      simp [getF, putF]
    · rw [if_neg hi] at h1
      simp only [h1]
      rw [show getF [(⟨nmF, all.take sf, all.drop sf⟩ : Fl)] nmF = some ⟨nmF, all.take sf, all.drop sf⟩ from get_one _]
      simp only [Option.getD_some]
      rw [put_one, List.take_append_of_le_length hsl, List.drop_append_of_le_length hsl]
      rfl
theorem Safe.snc {d : Dk} {all : List UInt8} {sf i : Nat} (h : Safe d all sf (i + 1)) (hw : d.writes ≤ 2 * i + 1) : (syncD nmF d).1 = 0 ∧ Safe (syncD nmF d).2 all all.length (i + 1) := by
  have h1 := h.fl
  rw [if_neg (by omega)] at h1
  have hg : getF d.files nmF = some ⟨nmF, all.take sf, all.drop sf⟩ := by rw [h1]; exact get_one _
  have ht : ¬ thereD d nmF ≠ 0 := by
    unfold thereD
    rw [if_neg (by rw [readyD_yes (by decide) h.on]; simp), hg]
    simp
  have hr : rawD d = (false, { d with writes := d.writes + 1 }) := by unfold rawD; rw [if_pos h.arm]
  have e : syncD nmF d = (0, { d with writes := d.writes + 1, files := [⟨nmF, all, []⟩] }) := by
    unfold syncD
    rw [if_neg ht, hr, if_neg (by simp), hg]
    simp only [Option.getD_some]
    rw [h1, put_one, List.take_append_drop]
    rfl
  have hok := (sync_ok (n := nmF) h.ok).1
  rw [e] at hok ⊢
  refine ⟨rfl, hok, h.on, h.arm, h.room, by simp only; omega, Nat.le_refl _, ?_, fun h => by omega⟩
  rw [if_neg (by omega)]
  simp
/-- What is found behind the loss of power. -/
theorem Safe.found {d : Dk} {all : List UInt8} {sf i : Nat} (h : Safe d all sf i) (k : Int) :
    namesD (offD k d) = [] ∧ (offD k d).on = false ∧ ((i = 0 ∧ readD nmF { offD k d with on := true } = (21, [])) ∨ (i ≠ 0 ∧ readD nmF { offD k d with on := true } = (0, all.take (sf + min k.toNat (all.length - sf))))) := by
  have e : offD k d = { d with files := d.files.map (offF k), on := false, armed := 0 } := by unfold offD; rw [if_pos h.on]
  refine ⟨by rw [e]; rfl, by rw [e], ?_⟩
  have h1 := h.fl
  by_cases hi : i = 0
  · refine .inl ⟨hi, ?_⟩
    rw [if_pos hi] at h1
    rw [e, h1]
    rfl
  · refine .inr ⟨hi, ?_⟩
    rw [if_neg hi] at h1
    rw [e, h1]
    have hm : all.take (sf + min k.toNat (all.length - sf)) = all.take sf ++ (all.drop sf).take k.toNat := by
      rw [List.take_add]
      congr 1
      rw [List.take_eq_take_iff, List.length_drop]
      omega
    rw [hm]
    simp only [List.map_cons, List.map_nil]
    unfold readD
    have hg : getF [offF k ⟨nmF, all.take sf, all.drop sf⟩] nmF = some (offF k ⟨nmF, all.take sf, all.drop sf⟩) := get_one _
    have ht : ¬ thereD { d with files := [offF k ⟨nmF, all.take sf, all.drop sf⟩], on := true, armed := 0 } nmF ≠ 0 := by
      unfold thereD
      rw [if_neg (by rw [readyD_yes (by decide) rfl]; simp)]
      simp only [hg]
      simp
    rw [if_neg ht]
    simp only [hg, Option.getD_some]
    simp only [offF, List.append_nil]
/-! ### The walk -/
theorem DiskAt.objs {σ σ' : St} {r rm : Nat} {d : Dk} {fs : List Ent} (h : DiskAt σ r d rm fs) (e : σ'.objs = σ.objs) : DiskAt σ' r d rm fs := ⟨by rw [e]; exact h.hd, by rw [e]; exact h.hm, by rw [e]; exact h.hf, h.nd, h.pm⟩
theorem OwnV.toks {e m : Nat} {σ σ' : St} {v : V} {bs : List UInt8} (h : OwnV e m σ v bs) (hk : ∀ k, tokLive σ.toks k = true → tokLive σ'.toks k = true) : OwnV e m σ' v bs := (h.toR.keep hk).toV
def tot (l : List BV) (i : Nat) : Nat := ((l.take i).map fun p => p.2.length).sum
end Go.Proofs.Ytnbmfhnfmhgaaaa.Q

/- DiskKeeps: for every input of bulk at most 1048576 the law answers true. -/
set_option linter.unusedVariables false
set_option linter.unusedSimpArgs false
set_option maxRecDepth 100000
namespace Go.Proofs.Ytnbmfhnfmhgaaaa.Q
open Go Go.RowKit Go.Proofs
/-! ### Rows that are written -/
theorem rowSet {σ : St} {v : V} {q : Option Nat} {cs : List V} (h : rowOf σ.objs v = some (q, cs)) {t e : TypeId} (ht : Try.prog.underlying t = some (.slice e)) (hs : sizeT Try.prog e = some 1) {u : V} (hu : one u = true) {i : Nat} (hi : i < cs.length) :
    ∃ p σ', vindexAddr Try.prog t v (.int .i64 (i : Int)) = some p ∧ vstore Try.prog σ e p u = some σ' ∧ rowOf σ'.objs v = some (q, cs.set i u) ∧ KS q.toList σ σ' ∧ σ'.objs.length = σ.objs.length := by
  rcases rowOf_spec h with ⟨rfl, rfl, rfl⟩ | ⟨r, full, rfl, rfl, hr, hl, hc⟩
  · simp at hi
  · have hi' : (i : Int) < (cs.length : Nat) := by omega
    have hrl := (List.getElem?_eq_some_iff.1 hr).1
    refine ⟨.optr r i, ⟨σ.objs.set r (.cells (full.set i u)), σ.toks⟩, by simp [vindexAddr, ht, hs, hi'], vstore_obj hr hs hu (by omega), ?_, KS.set (.inl (by simp)) _, by simp⟩
    simp only [rowOf]
    rw [List.getElem?_set_self hrl]
    simp only [List.length_set]
    rw [if_pos hl, List.take_set, ← hc]
theorem litRow2 (σ : St) : vbuildRow Try.prog σ 28 2 [(0, .int .u8 71), (1, .int .u8 72)] = some (.hslice σ.objs.length 0 1 2, ⟨σ.objs ++ [.cells ([71, 72].map byteV)], σ.toks⟩) := by
  have hz := BT.z
  have e : List.range 2 = [0, 1] := by decide
  simp [vbuildRow, T22, S5, hz, vcells, zeroCellsV, vfill, setAll, byteV, e]
theorem litRow3 (σ : St) : vbuildRow Try.prog σ 28 3 [(0, .int .u8 3), (1, .int .u8 4), (2, .int .u8 5)] = some (.hslice σ.objs.length 0 1 3, ⟨σ.objs ++ [.cells ([3, 4, 5].map byteV)], σ.toks⟩) := by
  have hz := BT.z
  have e : List.range 3 = [0, 1, 2] := by decide
  simp [vbuildRow, T22, S5, hz, vcells, zeroCellsV, vfill, setAll, byteV, e]
theorem rowNew (σ : St) (cs : List V) : rowOf (σ.objs ++ [Ob.cells cs]) (.hslice σ.objs.length 0 1 cs.length) = some (some σ.objs.length, cs) := by
  simp [rowOf]
/-- An append of bytes behind a row of bytes. -/
theorem rowAppB {σ : St} {s w' : V} {q : Option Nat} {xs ys : List UInt8} (h : rowOf σ.objs s = some (q, xs.map byteV)) (hw : RB σ w' ys) (hl : xs.length + ys.length ≤ 1000000000) :
    ∃ s' q' σ', vappendRow Try.prog σ 28 28 s w' = some (s', σ') ∧ rowOf σ'.objs s' = some (q', (xs ++ ys).map byteV) ∧ KS q.toList σ σ' ∧ ∀ x ∈ q'.toList, x ∈ q.toList ∨ σ.objs.length ≤ x := by
  have hbn := hw.news
  rw [← List.length_map (f := byteV)] at hbn
  obtain ⟨s', q', σ', h1, h2, h3, h4, _⟩ := rowApp h hbn (byteV_one ys) (by rw [List.length_map, List.length_map]; omega)
  exact ⟨s', q', σ', h1, by rw [List.map_append]; exact h2, h3, h4⟩
def Free (q : Option Nat) (F : List Nat) : Prop := ∀ x ∈ q.toList, x ∉ F
theorem Free.step {q : Option Nat} {F F' : List Nat} {n : Nat} (h : Free q F) (hl : ∀ x ∈ q.toList, x < n) (hF : ∀ x ∈ F', x ∈ F ∨ n ≤ x) : Free q F' := fun x hx hx2 => by
  rcases hF x hx2 with h1 | h1
  · exact h x hx h1
  · have := hl x hx; omega
theorem Free.low {q : Option Nat} {F : List Nat} {n : Nat} (hl : ∀ x ∈ q.toList, x < n) (hF : ∀ x ∈ F, n ≤ x) : Free q F := fun x hx hx2 => by
  have := hl x hx; have := hF x hx2; omega
theorem Free.high {q : Option Nat} {F : List Nat} {n : Nat} (hl : ∀ x ∈ q.toList, n ≤ x) (hF : ∀ x ∈ F, x < n) : Free q F := fun x hx hx2 => by
  have := hl x hx; have := hF x hx2; omega
theorem rowOf_free {σ σ' : St} {v : V} {q : Option Nat} {cs : List V} {F : List Nat} (h : rowOf σ.objs v = some (q, cs)) (hf : Free q F) (hk : KS F σ σ') : rowOf σ'.objs v = some (q, cs) := rowOf_frame h fun x hx o ho => hk.ko _ _ (hf x hx) ho
/-! ### The walk -/
theorem diskkeeps_true : LawTrue Try.prog prims 4 [28, 28] := by
  intro args hA hb
  match args, hA with
  | [va, vb], ⟨hx, hx2, _⟩ =>
    obtain ⟨xa, hba, hal⟩ := bytes_arg (P := Try.prog) T22 T5 C5 hx
    obtain ⟨xb, hbb, hbl⟩ := bytes_arg (P := Try.prog) T22 T5 C5 hx2
    simp only [vbulks] at hb
    have key : ∃ r σ', Does Try.prog prims 4 [va, vb] st0 r σ' ∧ r = .ret (.bool true) := by
      apply k4_is.does (by simp)
      obtain ⟨s1, hwk⟩ := wakes_does
      have hla := hba.len T22
      have hlb := hbb.len T22
      have hws : IntKind.i64.wrap ((xa.length : Int) + (xb.length : Nat)) = ((xa.length + xb.length : Nat) : Int) := by rw [wrap_i64 (by omega) (by omega)]; omega
      simp only [k4_a, WK, vop, evAll, evOpt, evParts, vbuiltin, vun, vextract, Nat.reduceLT, Nat.reduceEqDiff, ↓reduceIte, reduceCtorEq, Nat.reduceAdd, Int.reduceLT, Int.reduceNeg, valloc_std, noSB, vhot, List.getD_cons_zero, List.getD_cons_succ]
      refine KD.ret hwk ?_
      by_cases hbig : 65536 < xa.length + xb.length
      · have hbig' : (65536 : Int) < ((xa.length + xb.length : Nat) : Int) := by omega
        simp only [k4_a, WK, vop, evAll, evOpt, evParts, vbuiltin, vun, vextract, Nat.reduceLT, Nat.reduceEqDiff, ↓reduceIte, reduceCtorEq, Nat.reduceAdd, Int.reduceLT, Int.reduceNeg, valloc_std, noSB, vhot, List.getD_cons_zero, List.getD_cons_succ, Bool.not_true, hla, hlb, hws, hbig', decide_true]
      · have hbig' : ¬ (65536 : Int) < ((xa.length + xb.length : Nat) : Int) := by omega
        -- mine
        obtain ⟨s2, hs2⟩ : ∃ s2 : St, s2 = ⟨s1.objs ++ [.cells []], s1.toks⟩ := ⟨_, rfl⟩
        have l0 := litRow0 s1
        rw [← hs2] at l0
        have r2 : rowOf s2.objs (.hslice s1.objs.length 0 1 0) = some (some s1.objs.length, ([] : List UInt8).map byteV) := by rw [hs2]; exact rowNew s1 []
        obtain ⟨v3, q3, s3, a3, r3, k3, i3⟩ := rowAppB r2 (.inl hba : RB s2 va xa) (by simp; omega)
        rw [List.nil_append] at r3
        obtain ⟨s4, hs4⟩ : ∃ s4 : St, s4 = ⟨s3.objs ++ [.cells ([71, 72].map byteV)], s3.toks⟩ := ⟨_, rfl⟩
        have l2 := litRow2 s3
        rw [← hs4] at l2
        have r4 : rowOf s4.objs (.hslice s3.objs.length 0 1 2) = some (some s3.objs.length, ([71, 72] : List UInt8).map byteV) := by rw [hs4]; exact rowNew s3 _
        have k4 : KS [] s3 s4 := by rw [hs4]; exact KS.push _ _ _
        have r3' : rowOf s4.objs v3 = some (q3, xa.map byteV) := rowOf_frame r3 fun x hx o ho => k4.ko _ _ (by simp) ho
        obtain ⟨v5, q5, s5, a5, r5, k5, i5⟩ := rowAppB r3' (rowOf_rb r4) (by simp; omega)
        have q5l := rowOf_lt r5
        -- the disks
        obtain ⟨s6, r, rm, h6, D6, K6, I6⟩ := newdisk_does s5 1048576
        obtain ⟨s7, ro, rmo, h7, O7, K7, I7⟩ := newdisk_does s6 1048576
        have D7 := D6.pushes K7
        have K57 : KS [] s5 s7 := K6.trans' K7
        have f7 : Free q5 (foot r rm []) := Free.low q5l I6
        have o7 : ∀ x ∈ foot ro rmo [], x ∉ foot r rm [] := fun x hx hx2 => by have := I7 x hx; have := D6.lt x hx2; omega
        have r57 : rowOf s7.objs v5 = some (q5, (xa ++ [71, 72]).map byteV) := rowOf_frame r5 fun x hx o ho => K57.ko _ _ (by simp) ho
        have hSl : ∀ (s : St), rowOf s.objs v5 = some (q5, (xa ++ [71, 72]).map byteV) → ∃ w, vslice Try.prog 28 v5 none (some (.int .i64 (xa.length : Int))) none = some w ∧ RB s w xa := by
          intro s hs
          obtain ⟨w, e1, e2⟩ := rowOf_take hs (n := xa.length) (by simp)
          refine ⟨w, e1, rowOf_rb (bs := xa) (q := q5) ?_⟩
          rw [e2, List.map_append, List.take_append_of_le_length (by simp), List.take_of_length_le (by simp)]
        obtain ⟨wa, ea, Ra⟩ := hSl s7 r57
        have S0 := Safe.new
        obtain ⟨z8, S8⟩ := S0.app xa (by simp; omega)
        obtain ⟨p8, s8, h8, rfl, fs8, D8, K8, I8⟩ := append_sees (n := nmF) D7 S0.ok (by have := S0.wr; omega) Ra (by omega)
        rw [z8] at h8
        have w8 : (appendD nmF xa (newD 1048576)).2.writes ≤ 2 * 0 + 1 := by have := (append_ok (n := nmF) (b := xa) S0.ok).2; have := S0.wr; omega
        rw [List.nil_append] at S8
        obtain ⟨z9, S9⟩ := S8.snc w8
        obtain ⟨p9, s9, h9, rfl, fs9, D9, K9, I9⟩ := sync_sees (n := nmF) D8 S8.ok (by omega)
        rw [z9] at h9
        obtain ⟨d9, hd9⟩ : ∃ d9, d9 = (syncD nmF (appendD nmF xa (newD 1048576)).2).2 := ⟨_, rfl⟩
        rw [← hd9] at S9 D9
        obtain ⟨z10, S10⟩ := S9.app xb (by omega)
        obtain ⟨p10, s10, h10, rfl, fs10, D10, K10, I10⟩ := append_sees (n := nmF) D9 S9.ok (by have := S9.wr; omega) (.inl hbb : RB s9 vb xb) (by omega)
        rw [z10] at h10
        obtain ⟨d, hd⟩ : ∃ d, d = (appendD nmF xb d9).2 := ⟨_, rfl⟩
        rw [← hd] at S10 D10
        -- what stays beside
        have q7 : ∀ x ∈ q5.toList, x < s7.objs.length := rowOf_lt r57
        have f8 : Free q5 (foot r rm fs8) := f7.step q7 I8
        have r8 := rowOf_free r57 f7 K8
        have f9 : Free q5 (foot r rm fs9) := f8.step (rowOf_lt r8) I9
        have r9 := rowOf_free r8 f8 K9
        have f10 : Free q5 (foot r rm fs10) := f9.step (rowOf_lt r9) I10
        have r10 := rowOf_free r9 f9 K10
        have stO : ∀ {s s' : St} {F F' : List Nat}, DiskAt s ro (newD 1048576) rmo [] → (∀ x ∈ foot ro rmo [], x ∉ F) → KS F s s' → (∀ x ∈ F', x ∈ F ∨ s.objs.length ≤ x) → DiskAt s' ro (newD 1048576) rmo [] ∧ ∀ x ∈ foot ro rmo [], x ∉ F' := fun {s s' F F'} hO hn hk hF => ⟨hO.keep hk hn, fun x hx hx2 => by
          rcases hF x hx2 with h | h
          · exact hn x hx h
          · have := hO.lt x hx; omega⟩
        obtain ⟨O8, o8⟩ := stO O7 o7 K8 I8
        obtain ⟨O9, o9⟩ := stO O8 o8 K9 I9
        obtain ⟨O10, o10⟩ := stO O9 o9 K10 I10
        have fO5 : Free q5 (foot ro rmo []) := fun x hx hx2 => by have := I7 x hx2; have := q5l x hx; have := K6.le; omega
        -- mine is xa it was
        obtain ⟨wa2, ea2, Ra2⟩ := hSl s10 r10
        have ewa : wa2 = wa := by rw [ea] at ea2; injection ea2 with h; exact h.symm
        subst ewa
        have hsm := same3_does Ra2 (.inl hba : RB s10 va xa) (by omega)
        rw [decide_eq_true rfl] at hsm
        have R10 : RB s10 v5 (xa ++ [71, 72]) := rowOf_rb r10
        obtain ⟨pA, eA, lA⟩ := R10.at (i := xa.length) (by simp)
        obtain ⟨pB, eB, lB⟩ := R10.at (i := xa.length + 1) (by simp)
        have tA : (xa ++ [71, 72])[xa.length]'(by simp) = (71 : UInt8) := by simp
        have tB : (xa ++ [71, 72])[xa.length + 1]'(by simp) = (72 : UInt8) := by rw [List.getElem_append_right (by omega)]; simp
        rw [tA] at lA
        rw [tB] at lB
        have w1 : IntKind.i64.wrap ((xa.length : Int) + 1) = ((xa.length + 1 : Nat) : Int) := by rw [wrap_i64 (by omega) (by omega)]; omega
        have oF : ofVal (Value.string { data := #[102] }) = some (.str nmF) := rfl
        have lm := rowOf_len r10
        rw [List.length_map, List.length_append] at lm
        simp only [k4_a, WK, vop, evAll, evOpt, evParts, vbuiltin, vun, vextract, Nat.reduceLT, Nat.reduceEqDiff, ↓reduceIte, reduceCtorEq, Nat.reduceAdd, Int.reduceLT, Int.reduceNeg, valloc_std, noSB, vhot, List.getD_cons_zero, List.getD_cons_succ, Bool.not_true, hla, hlb, hws, hbig', decide_false, l0, a3, l2, a5]
        refine KD.ret h6 ?_
        simp only [k4_a, WK, vop, evAll, evOpt, evParts, vbuiltin, vun, vextract, Nat.reduceLT, Nat.reduceEqDiff, ↓reduceIte, reduceCtorEq, Nat.reduceAdd, Int.reduceLT, Int.reduceNeg, valloc_std, noSB, vhot, List.getD_cons_zero, List.getD_cons_succ]
        refine KD.ret h7 ?_
        simp only [k4_a, WK, vop, evAll, evOpt, evParts, vbuiltin, vun, vextract, Nat.reduceLT, Nat.reduceEqDiff, ↓reduceIte, reduceCtorEq, Nat.reduceAdd, Int.reduceLT, Int.reduceNeg, valloc_std, noSB, vhot, List.getD_cons_zero, List.getD_cons_succ, ofNilP, eql_optr pTD, hla, ea, T22, oF]
        refine KD.ret h8 ?_
        simp only [k4_a, WK, vop, evAll, evOpt, evParts, vbuiltin, vun, vextract, Nat.reduceLT, Nat.reduceEqDiff, ↓reduceIte, reduceCtorEq, Nat.reduceAdd, Int.reduceLT, Int.reduceNeg, valloc_std, noSB, vhot, List.getD_cons_zero, List.getD_cons_succ, Int.natCast_zero, eq_self, decide_true, Bool.not_true, oF]
        refine KD.ret h9 ?_
        simp only [k4_a, WK, vop, evAll, evOpt, evParts, vbuiltin, vun, vextract, Nat.reduceLT, Nat.reduceEqDiff, ↓reduceIte, reduceCtorEq, Nat.reduceAdd, Int.reduceLT, Int.reduceNeg, valloc_std, noSB, vhot, List.getD_cons_zero, List.getD_cons_succ, Int.natCast_zero, eq_self, decide_true, Bool.not_true, oF]
        refine KD.ret h10 ?_
        simp only [k4_a, WK, vop, evAll, evOpt, evParts, vbuiltin, vun, vextract, Nat.reduceLT, Nat.reduceEqDiff, ↓reduceIte, reduceCtorEq, Nat.reduceAdd, Int.reduceLT, Int.reduceNeg, valloc_std, noSB, vhot, List.getD_cons_zero, List.getD_cons_succ, Int.natCast_zero, eq_self, decide_true, Bool.not_true, hla, ea, T22]
        refine KD.ret hsm ?_
        simp only [k4_a, WK, vop, evAll, evOpt, evParts, vbuiltin, vun, vextract, Nat.reduceLT, Nat.reduceEqDiff, ↓reduceIte, reduceCtorEq, Nat.reduceAdd, Int.reduceLT, Int.reduceNeg, valloc_std, noSB, vhot, List.getD_cons_zero, List.getD_cons_succ, Bool.not_true, hla, eA, lA, w1, eB, lB, (by decide : (((71 : UInt8).toNat : Nat) : Int) = 71), (by decide : (((72 : UInt8).toNat : Nat) : Int) = 72), eq_self, decide_true, lm]
        refine Ev.loopF (fun (i : Nat) e u => e 84 = .int .i64 (i : Nat) ∧ i ≤ xa.length + 2 ∧ ∃ cs, rowOf u.objs v5 = some (q5, cs) ∧ cs.length = xa.length + 2 ∧ KS q5.toList s10 u) (fun i => xa.length + 2 - i) 0 ?_ ?_
        · exact ⟨by simp [upd_some], Nat.zero_le _, _, r10, by simp, KS.refl _ _⟩
        rintro i e u ⟨h84, hi, cs, hcs, hcl, ku⟩ hf
        have g0 : e 0 = va := (hf 0 (by decide)).trans (by simp [upd_some])
        have g1 : e 1 = vb := (hf 1 (by decide)).trans (by simp [upd_some])
        have g5 : e 5 = v5 := (hf 5 (by decide)).trans (by simp [upd_some])
        have g6 : e 6 = .optr r 0 := (hf 6 (by decide)).trans (by simp [upd_some])
        have g7 : e 7 = .optr ro 0 := (hf 7 (by decide)).trans (by simp [upd_some])
        have g82 : e 82 = v5 := (hf 82 (by decide)).trans (by simp [upd_some])
        have g83 : e 83 = .int .i64 ((xa.length + 2 : Nat) : Int) := (hf 83 (by decide)).trans (by simp [upd_some])
        clear hf
        by_cases hlt : i < xa.length + 2
        · have hlt' : (i : Int) < ((xa.length + 2 : Nat) : Int) := by omega
          have hwi : IntKind.i64.wrap ((i : Int) + 1) = ((i + 1 : Nat) : Int) := by rw [show ((i : Int) + 1) = ((i + 1 : Nat) : Int) from by omega]; exact wrap_nat (by omega)
          obtain ⟨pw, u1, x1, x2, x3, x4, x5⟩ := rowSet hcs T22 S5 (u := .int .u8 1) rfl (i := i) (by omega)
          simp only [k4_a, WK, vop, evAll, evOpt, evParts, vbuiltin, vun, vextract, Nat.reduceLT, Nat.reduceEqDiff, ↓reduceIte, reduceCtorEq, Nat.reduceAdd, Int.reduceLT, Int.reduceNeg, valloc_std, noSB, vhot, h84, g83, g5, hlt', decide_true, x1, x2, hwi]
          exact ⟨i + 1, ⟨by simp [upd_some], by omega, _, x3, by simpa using hcl, ku.trans' x4⟩, by omega⟩
        · have hlt' : ¬ (i : Int) < ((xa.length + 2 : Nat) : Int) := by omega
          have nF : ∀ x ∈ foot r rm fs10, x ∉ q5.toList := fun x hx hx2 => f10 x hx2 hx
          have Du := D10.keep ku nF
          have Ou := O10.keep ku (fun x hx hx2 => fO5 x hx2 hx)
          -- want
          obtain ⟨v10, u1, y1, y2, y3, y4⟩ := OwnV.append' BT (σ := u) (show OwnV 5 u.toks.length u (.slice .exact 1 [] 0) [] from .inr ⟨.exact, rfl, .inl rfl⟩) (σ0 := ⟨[], u.toks⟩) rfl ⟨fun r o h => by simp at h, Nat.le_refl _, fun _ h => h⟩ T22 hba (by simp; omega)
          rw [List.nil_append] at y2
          obtain ⟨v11, u2, y5, y6, y7, y8⟩ := y2.append' BT (σ0 := ⟨[], u.toks⟩) rfl y3 T22 hbb (by omega)
          have eo : u2.objs = u.objs := y8.trans y4
          have D2 := Du.objs eo
          have O2 := Ou.objs eo
          have hall : xa ++ xb = (xa ++ xb).take xa.length ++ (xa ++ xb).drop xa.length := (List.take_append_drop _ _).symm
          have hrd : readD nmF d = (0, xa ++ xb) := by
            have h1 := S10.fl
            rw [if_neg (by omega)] at h1
            have hg : getF d.files nmF = some ⟨nmF, (xa ++ xb).take xa.length, (xa ++ xb).drop xa.length⟩ := by rw [h1]; exact get_one _
            have ht : ¬ thereD d nmF ≠ 0 := by
              unfold thereD
              rw [if_neg (by rw [readyD_yes (by decide) S10.on]; simp), hg]
              simp
            unfold readD
            rw [if_neg ht, hg]
            simp only [Option.getD_some, List.take_append_drop]
          have hnm : namesD d = [nmF] := by
            have h1 := S10.fl
            rw [if_neg (by omega)] at h1
            unfold namesD
            rw [if_pos S10.on, h1]
            rfl
          obtain ⟨p12, u3, c12, v12, q12, rfl, n12, K12, I12⟩ := read_sees (n := nmF) D2 S10.ok
          rw [hrd] at c12 n12
          have D3 := D2.pushes K12
          have O3 := O2.pushes K12
          have hsm2 := same3_does (rowOf_rb n12) (.inl y6.bts : RB u3 v11 (xa ++ xb)) (by simp; omega)
          rw [decide_eq_true rfl] at hsm2
          have l12 := rowOf_len n12
          rw [List.length_map, List.length_append] at l12
          have F3 : ∀ x ∈ foot r rm fs10, x ∉ q12.toList := fun x hx hx2 => by have := D2.lt x hx; have := I12 x hx2; omega
          have FO3 : ∀ x ∈ foot ro rmo [], x ∉ q12.toList := fun x hx hx2 => by have := O2.lt x hx; have := I12 x hx2; omega
          simp only [k4_a, WK, vop, evAll, evOpt, evParts, vbuiltin, vun, vextract, Nat.reduceLT, Nat.reduceEqDiff, ↓reduceIte, reduceCtorEq, Nat.reduceAdd, Int.reduceLT, Int.reduceNeg, valloc_std, noSB, vhot, h84, g83, g0, g1, g6, hlt', decide_false, build0 BT, y1, y5, oF]
          refine KD.ret c12 ?_
          simp only [k4_a, WK, vop, evAll, evOpt, evParts, vbuiltin, vun, vextract, Nat.reduceLT, Nat.reduceEqDiff, ↓reduceIte, reduceCtorEq, Nat.reduceAdd, Int.reduceLT, Int.reduceNeg, valloc_std, noSB, vhot, Int.natCast_zero, eq_self, decide_true, Bool.not_true]
          refine KD.ret hsm2 ?_
          simp only [k4_a, WK, vop, evAll, evOpt, evParts, vbuiltin, vun, vextract, Nat.reduceLT, Nat.reduceEqDiff, ↓reduceIte, reduceCtorEq, Nat.reduceAdd, Int.reduceLT, Int.reduceNeg, valloc_std, noSB, vhot, Bool.not_true, l12]
          refine Ev.loopF (fun (j : Nat) e2 t => e2 111 = .int .i64 (j : Nat) ∧ j ≤ xa.length + xb.length ∧ ∃ cs, rowOf t.objs v12 = some (q12, cs) ∧ cs.length = xa.length + xb.length ∧ KS q12.toList u3 t) (fun j => xa.length + xb.length - j) 0 ?_ ?_
          · exact ⟨by simp [upd_some], Nat.zero_le _, _, n12, by simp, KS.refl _ _⟩
          rintro j e2 t ⟨k111, hj, cs2, hcs2, hcl2, kt⟩ hf2
          have k6 : e2 6 = .optr r 0 := (hf2 6 (by decide)).trans (by simp [upd_some, g6])
          have k7 : e2 7 = .optr ro 0 := (hf2 7 (by decide)).trans (by simp [upd_some, g7])
          have k9 : e2 9 = v11 := (hf2 9 (by decide)).trans (by simp [upd_some])
          have k10 : e2 10 = v12 := (hf2 10 (by decide)).trans (by simp [upd_some])
          have k109 : e2 109 = v12 := (hf2 109 (by decide)).trans (by simp [upd_some])
          have k110 : e2 110 = .int .i64 ((xa.length + xb.length : Nat) : Int) := (hf2 110 (by decide)).trans (by simp [upd_some])
          clear hf2
          by_cases hjt : j < xa.length + xb.length
          · have hjt' : (j : Int) < ((xa.length + xb.length : Nat) : Int) := by omega
            have hwj : IntKind.i64.wrap ((j : Int) + 1) = ((j + 1 : Nat) : Int) := by rw [show ((j : Int) + 1) = ((j + 1 : Nat) : Int) from by omega]; exact wrap_nat (by omega)
            obtain ⟨pw, t1, x1, x2, x3, x4, x5⟩ := rowSet hcs2 T22 S5 (u := .int .u8 2) rfl (i := j) (by omega)
            simp only [k4_a, WK, vop, evAll, evOpt, evParts, vbuiltin, vun, vextract, Nat.reduceLT, Nat.reduceEqDiff, ↓reduceIte, reduceCtorEq, Nat.reduceAdd, Int.reduceLT, Int.reduceNeg, valloc_std, noSB, vhot, k111, k110, k10, hjt', decide_true, x1, x2, hwj]
            exact ⟨j + 1, ⟨by simp [upd_some], by omega, _, x3, by simpa using hcl2, kt.trans' x4⟩, by omega⟩
          · have hjt' : ¬ (j : Int) < ((xa.length + xb.length : Nat) : Int) := by omega
            have Dt := D3.keep kt F3
            have Ot := O3.keep kt FO3
            -- x, longer
            obtain ⟨t1, ht1⟩ : ∃ t1 : St, t1 = ⟨t.objs ++ [.cells ([3, 4, 5].map byteV)], t.toks⟩ := ⟨_, rfl⟩
            have l3 := litRow3 t
            rw [← ht1] at l3
            have r3 : rowOf t1.objs (.hslice t.objs.length 0 1 3) = some (some t.objs.length, ([3, 4, 5] : List UInt8).map byteV) := by rw [ht1]; exact rowNew t _
            have kt1 : KS [] t t1 := by rw [ht1]; exact KS.push _ _ _
            have hcs2' : rowOf t1.objs v12 = some (q12, cs2) := rowOf_frame hcs2 fun x hx o ho => kt1.ko _ _ (by simp) ho
            have hbn := (rowOf_rb r3).news
            rw [← List.length_map (f := byteV)] at hbn
            obtain ⟨v13, q13, t2, b1, b2, b3, b4, _⟩ := rowApp hcs2' hbn (byteV_one _) (by rw [List.length_map]; simp; omega)
            have D5 := (Dt.pushes kt1).keep b3 F3
            have O5 := (Ot.pushes kt1).keep b3 FO3
            have l13 := rowOf_len b2
            rw [List.length_append, List.length_map, hcl2, show ([3, 4, 5] : List UInt8).length = 3 from rfl] at l13
            -- read again
            obtain ⟨p14, t3, c14, v14, q14, rfl, n14, K14, I14⟩ := read_sees (n := nmF) D5 S10.ok
            rw [hrd] at c14 n14
            have D6' := D5.pushes K14
            have O6' := O5.pushes K14
            -- names
            obtain ⟨p15, t4, c15, v15, q15, rfl, n15, K15, I15⟩ := names_sees D6' S10.ok
            rw [hnm] at n15
            have R15 : RowS t4 1 v15 ([nmF].map V.str) 1 := row_strs n15
            have D7' := D6'.pushes K15
            have O7' := O6'.pushes K15
            obtain ⟨pz, t5, z1, z2, z3, z4, z5⟩ := rowSet n15 TSS SS9 (u := .str [122]) rfl (i := 0) (by simp)
            have D8' := D7'.keep z4 (fun x hx hx2 => by have := D6'.lt x hx; have := I15 x hx2; omega)
            have O8' := O7'.keep z4 (fun x hx hx2 => by have := O6'.lt x hx; have := I15 x hx2; omega)
            obtain ⟨p16, t6, c16, v16, q16, rfl, n16, K16, I16⟩ := names_sees D8' S10.ok
            rw [hnm] at n16
            have R16 : RowS t6 1 v16 ([nmF].map V.str) 1 := row_strs n16
            have O9' := O8'.pushes K16
            obtain ⟨pm, hm1, hm2⟩ := R16.strAt (l := [nmF]) (i := 0) (by simp)
            have hm2 := hm2 t6 (KS.refl _ _)
            have hm1 : vindexAddr Try.prog 31 v16 (.int .i64 0) = some pm := hm1
            have z1 : vindexAddr Try.prog 31 v15 (.int .i64 0) = some pz := z1
            have hm2 : vload Try.prog t6.objs 9 pm = some (.str nmF) := hm2
            have n14' : rowOf t6.objs v14 = some (q14, (xa ++ xb).map byteV) := rowOf_frame n14 fun x hx o ho => K16.ko _ _ (by simp) (z4.ko _ _ (fun hx2 => by have := I15 x hx2; have := rowOf_lt n14 x hx; omega) (K15.ko _ _ (by simp) ho))
            have hsm3 := same3_does (rowOf_rb n14') (.inl y6.bts : RB t6 v11 (xa ++ xb)) (by simp; omega)
            rw [decide_eq_true rfl] at hsm3
            obtain ⟨p17, t7, c17, v17, q17, rfl, n17, K17, I17⟩ := names_sees O9' (newD_ok (by unfold InI64; omega))
            have R17 : RowS t7 1 v17 (([] : List (List UInt8)).map V.str) 0 := row_strs n17
            have lw := y6.bts.len T22
            rw [List.length_append] at lw
            have hw3 : IntKind.i64.wrap (((xa.length + xb.length : Nat) : Int) + 3) = ((xa.length + xb.length + 3 : Nat) : Int) := by rw [wrap_i64 (by omega) (by omega)]; omega
            have oZ : ofVal (Value.string { data := #[122] }) = some (.str [122]) := rfl
            simp only [k4_a, WK, vop, evAll, evOpt, evParts, vbuiltin, vun, vextract, Nat.reduceLT, Nat.reduceEqDiff, ↓reduceIte, reduceCtorEq, Nat.reduceAdd, Int.reduceLT, Int.reduceNeg, valloc_std, noSB, vhot, k111, k110, k10, k6, hjt', decide_false, l3, b1, oF]
            refine KD.ret c14 ?_
            simp only [k4_a, WK, vop, evAll, evOpt, evParts, vbuiltin, vun, vextract, Nat.reduceLT, Nat.reduceEqDiff, ↓reduceIte, reduceCtorEq, Nat.reduceAdd, Int.reduceLT, Int.reduceNeg, valloc_std, noSB, vhot, k6]
            refine KD.ret c15 ?_
            simp only [k4_a, WK, vop, evAll, evOpt, evParts, vbuiltin, vun, vextract, Nat.reduceLT, Nat.reduceEqDiff, ↓reduceIte, reduceCtorEq, Nat.reduceAdd, Int.reduceLT, Int.reduceNeg, valloc_std, noSB, vhot, k6, R15.len TSS, Int.natCast_one, eq_self, decide_true, Bool.not_true, z1, z2, oZ]
            refine KD.ret c16 ?_
            simp only [k4_a, WK, vop, evAll, evOpt, evParts, vbuiltin, vun, vextract, Nat.reduceLT, Nat.reduceEqDiff, ↓reduceIte, reduceCtorEq, Nat.reduceAdd, Int.reduceLT, Int.reduceNeg, valloc_std, noSB, vhot, k9, l13, lw, hw3, eq_self, decide_true]
            have sbQ : strBin .eql nmF nmF = some (.bool true) := rfl
            refine KD.ret hsm3 ?_
            simp only [k4_a, WK, vop, evAll, evOpt, evParts, vbuiltin, vun, vextract, Nat.reduceLT, Nat.reduceEqDiff, ↓reduceIte, reduceCtorEq, Nat.reduceAdd, Int.reduceLT, Int.reduceNeg, valloc_std, noSB, vhot, k7, sbQ, R16.len TSS, Int.natCast_one, eq_self, decide_true, hm1, hm2, oF, sbN]
            refine KD.ret c17 ?_
            simp only [k4_a, WK, vop, evAll, evOpt, evParts, vbuiltin, vun, vextract, Nat.reduceLT, Nat.reduceEqDiff, ↓reduceIte, reduceCtorEq, Nat.reduceAdd, Int.reduceLT, Int.reduceNeg, valloc_std, noSB, vhot, R17.len TSS, Int.natCast_zero, eq_self, decide_true]
    obtain ⟨r, σ', ⟨m, h⟩, rfl⟩ := key
    exact ⟨m, σ', h⟩
end Go.Proofs.Ytnbmfhnfmhgaaaa.Q

