import Derived.Test.YtmcadfejkcpblaaTa
set_option linter.unusedVariables false
set_option linter.unusedSimpArgs false
set_option maxRecDepth 100000
namespace Go.Proofs.Ytmcadfejkcpblaa.Q
open Go Go.RowKit Go.Proofs

theorem IT : IntT Try.prog 30 3 := ⟨by kernel_rfl, T3, by kernel_rfl, by kernel_rfl, by kernel_rfl, by kernel_rfl, by kernel_rfl⟩

/-- v is a written row: the whole of object r, that has these bytes. -/
def HB (σ : St) (v : V) (r : Nat) (bs : List UInt8) : Prop := v = .hslice r 0 1 bs.length ∧ σ.objs[r]? = some (.cells (bs.map byteV))
theorem HB.keep {σ σ' : St} {v : V} {r : Nat} {bs : List UInt8} (h : HB σ v r bs) (hk : Keep σ σ') : HB σ' v r bs := ⟨h.1, hk.1 _ _ h.2⟩
theorem HB.keepX {σ σ' : St} {v : V} {r q : Nat} {bs : List UInt8} (h : HB σ v r bs) (hk : KeepX q σ σ') (hne : r ≠ q) : HB σ' v r bs := ⟨h.1, hk.1 _ _ hne h.2⟩
theorem HB.lt {σ : St} {v : V} {r : Nat} {bs : List UInt8} (h : HB σ v r bs) : r < σ.objs.length := (List.getElem?_eq_some_iff.1 h.2).1
/-- A row of bytes, written or not. -/
def RB (σ : St) (v : V) (bs : List UInt8) : Prop := BtsV v bs ∨ ∃ r off cs, v = .hslice r off 1 bs.length ∧ σ.objs[r]? = some (.cells cs) ∧ off + bs.length ≤ cs.length ∧ (cs.drop off).take bs.length = bs.map byteV
theorem HB.rb {σ : St} {v : V} {r : Nat} {bs : List UInt8} (h : HB σ v r bs) : RB σ v bs := .inr ⟨r, 0, _, h.1, h.2, by simp, by rw [List.drop_zero]; exact List.take_of_length_le (by simp)⟩
theorem RB.keep {σ σ' : St} {v : V} {bs : List UInt8} (h : RB σ v bs) (hk : Keep σ σ') : RB σ' v bs := by
  rcases h with h | ⟨r, off, cs, h1, h2, h3⟩
  · exact .inl h
  · exact .inr ⟨r, off, cs, h1, hk.1 _ _ h2, h3⟩
theorem RB.len {σ : St} {v : V} {bs : List UInt8} (h : RB σ v bs) : vlen Try.prog 22 v = some (.int .i64 (bs.length : Nat)) := by
  rcases h with h | ⟨r, off, cs, rfl, _⟩
  · exact h.len T22
  · simp [vlen, T22]
theorem RB.news {σ : St} {v : V} {bs : List UInt8} (h : RB σ v bs) : vnewsO Try.prog σ.objs 22 v 1 = some (bs.map byteV, bs.length) := by
  rcases h with h | ⟨r, off, cs, rfl, h2, h3, h4⟩
  · refine vnewsO_of ?_
    rcases h with ⟨rfl, rfl⟩ | ⟨p, rfl⟩ <;> simp [vnews, T22]
  · simp [vnewsO, vnews, T22, h2, h3, h4]
/-- Its places. -/
theorem RB.at {σ : St} {v : V} {bs : List UInt8} (h : RB σ v bs) {i : Nat} (hi : i < bs.length) : ∃ p, vindexAddr Try.prog 22 v (.int .i64 (i : Int)) = some p ∧ vload Try.prog σ.objs 5 p = some (.int .u8 (bs[i].toNat : Nat)) := by
  have hi' : (i : Int) < bs.length := by omega
  rcases h with h | ⟨r, off, cs, rfl, h2, h3, h4⟩
  · refine ⟨_, h.addr T22 S5 (Int.natCast_nonneg i) hi', ?_⟩
    have := BtsV.load (P := Try.prog) (objs := σ.objs) G5 hi
    simpa using this
  · refine ⟨.optr r (off + i), by simp [vindexAddr, T22, S5, hi'], ?_⟩
    have h5 : cs[off + i]? = some (byteV bs[i]) := by
      have := congrArg (·[i]?) h4
      simp only [List.getElem?_take_of_lt hi, List.getElem?_drop, List.getElem?_map, List.getElem?_eq_getElem hi] at this
      simpa using this
    rw [vload_obj h2 G5, h5]
    rfl
theorem HB.slice {σ : St} {v : V} {r : Nat} {bs : List UInt8} (h : HB σ v r bs) {n : Nat} (hn : n ≤ bs.length) (hl : bs.length ≤ 1000000000) : ∃ w, vslice Try.prog 22 v none (some (.int .i64 (n : Int))) none = some w ∧ RB σ w (bs.take n) := by
  have hb : vbounds bs.length none (some (.int .i64 (n : Int))) none = some (0, n, none) := vbounds_hi (by omega) (by omega)
  refine ⟨.hslice r 0 1 n, by rw [h.1]; simp [vslice, T22, S5, hb], .inr ⟨r, 0, _, by rw [List.length_take, Nat.min_eq_left hn], h.2, by rw [List.length_take, List.length_map]; omega, ?_⟩⟩
  rw [List.drop_zero, List.length_take, Nat.min_eq_left hn, ← List.map_take]

/-! ### Rows that are made as objects -/
theorem mkRow0 {σ : St} {c : Int} (h0 : 0 ≤ c) (h1 : c ≤ 140737488355328) : vmakeRow Try.prog σ 22 (.int .i64 0) (.int .i64 c) = some (.hslice σ.objs.length 0 1 0, ⟨σ.objs ++ [.cells []], σ.toks⟩) := by
  have hb := BT.b
  have hz := BT.z
  simp [vmakeRow, T22, hb, S5, hz, vcells, zeroCellsV, h0, h1]
theorem litRow0 (σ : St) : vbuildRow Try.prog σ 22 0 [] = some (.hslice σ.objs.length 0 1 0, ⟨σ.objs ++ [.cells []], σ.toks⟩) := by
  have hz := BT.z
  simp [vbuildRow, T22, S5, hz, vcells, zeroCellsV, vfill]
theorem litRow1 (σ : St) {n : Nat} (hn : n < 256) : vbuildRow Try.prog σ 22 1 [(0, .int .u8 (n : Int))] = some (.hslice σ.objs.length 0 1 1, ⟨σ.objs ++ [.cells [byteV (UInt8.ofNat n)]], σ.toks⟩) := by
  have hz := BT.z
  have e : (UInt8.ofNat n).toNat = n := by simp; omega
  simp [vbuildRow, T22, S5, hz, vcells, zeroCellsV, vfill, setAll, byteV, e]
theorem made {σ : St} (v : V) (bs : List UInt8) (hv : v = .hslice σ.objs.length 0 1 bs.length) : HB ⟨σ.objs ++ [.cells (bs.map byteV)], σ.toks⟩ v σ.objs.length bs := ⟨hv, push_new _ _⟩
/-- An append behind such a row. -/
theorem HB.append {σ : St} {v y : V} {r : Nat} {bs ys : List UInt8} (h : HB σ v r bs) (hy : RB σ y ys) (hl : bs.length + ys.length ≤ 140737488355328) :
    ∃ v' r' σ', vappendRow Try.prog σ 22 22 v y = some (v', σ') ∧ HB σ' v' r' (bs ++ ys) ∧ KeepX r σ σ' ∧ (r' = r ∨ σ.objs.length ≤ r') := by
  have hb := BT.b
  have hz := BT.z
  have hn := hy.news
  rw [h.1]
  by_cases hm : ys.length = 0
  · have : ys = [] := List.length_eq_zero_iff.1 hm
    subst this
    refine ⟨_, r, σ, ?_, by rw [List.append_nil]; exact ⟨rfl, h.2⟩, KeepX.refl _ _, .inl rfl⟩
    simp [vappendRow, T22, hb, S5, hz, vcells, hn]
  · refine ⟨.hslice σ.objs.length 0 1 (bs ++ ys).length, σ.objs.length, ⟨σ.objs.set r .dead ++ [.cells ((bs ++ ys).map byteV)], σ.toks⟩, ?_, ⟨rfl, ?_⟩, ⟨fun q o hq ho => ?_, Nat.le_refl _, fun _ h => h⟩, .inr (Nat.le_refl _)⟩
    · have h1 := byteV_one ys
      have h2 : List.take bs.length (bs.map byteV) = bs.map byteV := List.take_of_length_le (by simp)
      simp [vappendRow, T22, hb, S5, hz, vcells, hn, hm, h.2, hl, h1, h2]
    · have := push_new (σ.objs.set r .dead) (Ob.cells ((bs ++ ys).map byteV))
      rwa [List.length_set] at this
    · have hql : q < σ.objs.length := (List.getElem?_eq_some_iff.1 ho).1
      simp only
      rw [List.getElem?_append_left (by rw [List.length_set]; exact hql), List.getElem?_set_ne (Ne.symm hq)]
      exact ho
end Go.Proofs.Ytmcadfejkcpblaa.Q
