/- Rows whose elements have any number of cells; appended texts. -/
import Derived.Test.YtmcadfejkcpblaaQq
set_option linter.unusedVariables false
set_option linter.unusedSimpArgs false
namespace Go.Proofs.Ytmcadfejkcpblaa.Q
open Go Go.RowKit

/-- v is a row of n elements of k cells each. -/
def RowV (k : Nat) (v : V) (cs : List V) (n : Nat) : Prop := cs.length = n * k ∧ ((v = .nils ∧ n = 0) ∨ ∃ p, v = .slice p k cs n)

theorem RowV.one {k n : Nat} {v : V} {cs : List V} (h : RowV k v cs n) : one v = true := by
  rcases h.2 with ⟨rfl, _⟩ | ⟨p, rfl⟩ <;> rfl
theorem RowV.nil (k : Nat) : RowV k .nils [] 0 := ⟨by simp, .inl ⟨rfl, rfl⟩⟩

section
variable {P : Program}

/-- What one must know of a row's types. -/
structure RowT (P : Program) (t e : TypeId) (k by_ : Nat) : Prop where
  u : P.underlying t = some (.slice e)
  s : sizeT P e = some k
  z : ∃ z, zeroT P e = some z ∧ (vcells z).length = k
  b : (P.info? e).map (·.bytes) = some by_
  k0 : 0 < k

theorem RowV.len {k n : Nat} {v : V} {cs : List V} (h : RowV k v cs n) {t e : TypeId} (ht : P.underlying t = some (.slice e)) : vlen P t v = some (.int .i64 n) := by
  rcases h.2 with ⟨rfl, rfl⟩ | ⟨p, rfl⟩ <;> simp [vlen, ht]

theorem RowV.addr {k n : Nat} {v : V} {cs : List V} (h : RowV k v cs n) {t e : TypeId} (ht : P.underlying t = some (.slice e)) (hs : sizeT P e = some k) (hk : 0 < k) {kk : IntKind} {i : Int} (h0 : 0 ≤ i) (h1 : i < n) : vindexAddr P t v (.int kk i) = some (.eptr cs (i.toNat * k)) := by
  rcases h.2 with ⟨rfl, rfl⟩ | ⟨p, rfl⟩
  · omega
  · have hne : cs ≠ [] := by
      rintro rfl
      have := h.1
      simp only [List.length_nil] at this
      have : 1 * 1 ≤ n * k := Nat.mul_le_mul (by omega) hk
      omega
    simp [vindexAddr, ht, hs, h0, h1, hne]

/-- A part of a row. -/
theorem RowV.slice {k n : Nat} {v : V} {cs : List V} (h : RowV k v cs n) {t e : TypeId} (ht : P.underlying t = some (.slice e)) (hs : sizeT P e = some k) {lo hi : Option V} {a b : Nat} (hb : vbounds n lo hi none = some (a, b, none)) (hab : a ≤ b) (hbl : b ≤ n) :
    ∃ v', vslice P t v lo hi none = some v' ∧ RowV k v' ((cs.drop (a * k)).take ((b - a) * k)) (b - a) := by
  have hl : ((cs.drop (a * k)).take ((b - a) * k)).length = (b - a) * k := by
    have h1 := h.1
    have h2 : b * k ≤ n * k := Nat.mul_le_mul_right k hbl
    have h3 : b * k = a * k + (b - a) * k := by rw [← Nat.add_mul]; congr 1; omega
    rw [List.length_take, List.length_drop]
    omega
  rcases h.2 with ⟨rfl, rfl⟩ | ⟨p, rfl⟩
  · exact ⟨.nils, by simp [vslice, ht, hs, hb], hl, .inl ⟨rfl, by omega⟩⟩
  · refine ⟨_, ?_, hl, .inr ⟨if p = Perm.exact ∧ b = n then Perm.exact else if a = 0 ∧ b = n then p else Perm.ro, rfl⟩⟩
    simp only [vslice, ht, hs, if_true, hb]

/-- v is such a row, and an append to it finds that nobody else has a part in what stands behind it; its token is not below m. -/
def OwnR (e : TypeId) (k m : Nat) (σ : St) (v : V) (cs : List V) (n : Nat) : Prop :=
  cs.length = n * k ∧ ((v = .nils ∧ n = 0) ∨ ∃ p, v = .slice p k cs n ∧ (p = .exact ∨ ∃ q, p = .tok q e ∧ tokLive σ.toks q = true ∧ m ≤ q))

theorem OwnR.row {e k m n : Nat} {σ : St} {v : V} {cs : List V} (h : OwnR e k m σ v cs n) : RowV k v cs n := by
  rcases h with ⟨h1, h | ⟨p, h, _⟩⟩
  · exact ⟨h1, .inl h⟩
  · exact ⟨h1, .inr ⟨p, h⟩⟩
theorem OwnR.nil {e k m : Nat} {σ : St} : OwnR e k m σ .nils [] 0 := ⟨by simp, .inl ⟨rfl, rfl⟩⟩

theorem OwnR.keep {e k m n : Nat} {σ σ' : St} {v : V} {cs : List V} (h : OwnR e k m σ v cs n) (hk : ∀ k, tokLive σ.toks k = true → tokLive σ'.toks k = true) : OwnR e k m σ' v cs n := by
  rcases h with ⟨h1, h | ⟨p, h, h2⟩⟩
  · exact ⟨h1, .inl h⟩
  · refine ⟨h1, .inr ⟨p, h, ?_⟩⟩
    rcases h2 with h2 | ⟨q, h2, h3, h4⟩
    · exact .inl h2
    · exact .inr ⟨q, h2, hk q h3, h4⟩

theorem OwnR.low {e k m m' n : Nat} {σ : St} {v : V} {cs : List V} (h : OwnR e k m σ v cs n) (hm : m' ≤ m) : OwnR e k m' σ v cs n := by
  rcases h with ⟨h1, h | ⟨p, h, h2⟩⟩
  · exact ⟨h1, .inl h⟩
  · refine ⟨h1, .inr ⟨p, h, ?_⟩⟩
    rcases h2 with h2 | ⟨q, h2, h3, h4⟩
    · exact .inl h2
    · exact .inr ⟨q, h2, h3, Nat.le_trans hm h4⟩

/-- An append to a row of one's own. -/
theorem OwnR.appendO {t t2 e : TypeId} {k by_ : Nat} (hT : RowT P t e k by_) {m : Nat} {σ0 σ : St} {v y : V} {cs ys : List V} {n l : Nat} (h : OwnR e k m σ v cs n) (hn : m = σ0.toks.length) (hk : Keep σ0 σ) (hnews : vnewsO P σ.objs t2 y k = some (ys, l)) (hyl : ys.length = l * k) (hone : ys.all one = true) (hl : n + l ≤ 140737488355328) (hb : (n + l) * by_ ≤ 140737488355328) :
    ∃ v' σ', vappend P σ t t2 v y = some (v', σ') ∧ OwnR e k m σ' v' (cs ++ ys) (n + l) ∧ Keep σ0 σ' ∧ σ'.objs = σ.objs := by
  obtain ⟨z, hz, hzl⟩ := hT.z
  have hk0 : ¬ k = 0 := by have := hT.k0; omega
  have hml : m ≤ σ.toks.length := by rw [hn]; exact hk.2.1
  have keep1 : Keep σ0 ⟨σ.objs, σ.toks ++ [true]⟩ := ⟨hk.1, by simp; have := hk.2.1; omega, fun k h => tokLive_app (hk.2.2 k h)⟩
  have hlen : (cs ++ ys).length = (n + l) * k := by rw [List.length_append, Nat.add_mul, h.1, hyl]
  by_cases hm : l = 0
  · subst hm
    have hys : ys = [] := List.length_eq_zero_iff.1 (by simpa using hyl)
    subst hys
    refine ⟨v, σ, ?_, by simpa using h, hk, rfl⟩
    rcases h.2 with ⟨rfl, rfl⟩ | ⟨p, rfl, _⟩
    · simp [vappend, hT.u, hT.b, hT.s, hz, hnews, hzl, hk0]
    · simp [vappend, hT.u, hT.b, hT.s, hz, hnews, hzl, hk0]
  · rcases h.2 with ⟨rfl, rfl⟩ | ⟨p, rfl, hp⟩
    · have hcs : cs = [] := List.length_eq_zero_iff.1 (by simpa using h.1)
      subst hcs
      refine ⟨_, _, ?_, ⟨hlen, .inr ⟨.tok σ.toks.length e, rfl, .inr ⟨_, rfl, tokLive_new _, hml⟩⟩⟩, keep1, rfl⟩
      simp only [Nat.zero_add] at hl hb
      simp [vappend, hT.u, hT.b, hT.s, hz, hnews, hzl, hk0, hm, hl, hb]
    · rcases hp with rfl | ⟨q, rfl, hlive, hnk⟩
      · refine ⟨_, _, ?_, ⟨hlen, .inr ⟨.tok σ.toks.length e, rfl, .inr ⟨_, rfl, tokLive_new _, hml⟩⟩⟩, keep1, rfl⟩
        simp [vappend, hT.u, hT.b, hT.s, hz, hnews, hzl, hk0, hm, hl, hb]
      · have hkl : (killTok σ.toks q).length = σ.toks.length := by simp [killTok]
        refine ⟨.slice (.tok σ.toks.length e) k (cs ++ ys) (n + l), ⟨σ.objs, killTok σ.toks q ++ [true]⟩, ?_, ⟨hlen, .inr ⟨.tok σ.toks.length e, rfl, .inr ⟨_, rfl, by have := tokLive_new (killTok σ.toks q); rwa [hkl] at this, hml⟩⟩⟩, ?_, rfl⟩
        · simp [vappend, hT.u, hT.b, hT.s, hz, hnews, hzl, hk0, hm, hl, hb, hlive, hone] at hone ⊢
          first | exact hone | done
        · refine ⟨hk.1, by simp [hkl]; have := hk.2.1; omega, fun j hj => ?_⟩
          refine tokLive_app (tokLive_kill_ne (hk.2.2 j hj) ?_)
          have := tokLive_lt hj
          omega

theorem OwnR.append {t t2 e : TypeId} {k by_ : Nat} (hT : RowT P t e k by_) {m : Nat} {σ0 σ : St} {v y : V} {cs ys : List V} {n l : Nat} (h : OwnR e k m σ v cs n) (hn : m = σ0.toks.length) (hk : Keep σ0 σ) (hnews : vnews P t2 y k = some (ys, l)) (hyl : ys.length = l * k) (hone : ys.all one = true) (hl : n + l ≤ 140737488355328) (hb : (n + l) * by_ ≤ 140737488355328) :
    ∃ v' σ', vappend P σ t t2 v y = some (v', σ') ∧ OwnR e k m σ' v' (cs ++ ys) (n + l) ∧ Keep σ0 σ' ∧ σ'.objs = σ.objs := h.appendO hT hn hk (vnewsO_of hnews) hyl hone hl hb

theorem OwnV.toR {e m : Nat} {σ : St} {v : V} {bs : List UInt8} (h : OwnV e m σ v bs) : OwnR e 1 m σ v (bs.map byteV) bs.length := by
  refine ⟨by simp, ?_⟩
  rcases h with ⟨h, rfl⟩ | h
  · exact .inl ⟨h, rfl⟩
  · exact .inr h
theorem OwnR.toV {e m n : Nat} {σ : St} {v : V} {bs : List UInt8} (h : OwnR e 1 m σ v (bs.map byteV) n) : OwnV e m σ v bs := by
  have hl : bs.length = n := by have := h.1; simpa using this
  subst hl
  rcases h.2 with ⟨h, h0⟩ | h
  · exact .inl ⟨h, List.length_eq_zero_iff.1 h0⟩
  · exact .inr h

theorem ByteT.row {t e : TypeId} (h : ByteT P t e) : RowT P t e 1 1 := ⟨h.u, h.s, ⟨_, h.z, rfl⟩, h.b, by omega⟩

/-- A text behind bytes. -/
theorem OwnV.appendS {t t2 e : TypeId} (hT : ByteT P t e) {m : Nat} {σ0 σ : St} {v : V} {bs ys : List UInt8} (h : OwnV e m σ v bs) (hn : m = σ0.toks.length) (hk : Keep σ0 σ) (ht2 : P.underlying t2 = some .string) (hl : bs.length + ys.length ≤ 140737488355328) :
    ∃ v' σ', vappend P σ t t2 v (.str ys) = some (v', σ') ∧ OwnV e m σ' v' (bs ++ ys) ∧ Keep σ0 σ' ∧ σ'.objs = σ.objs := by
  obtain ⟨v', σ', h1, h2, h3⟩ := h.toR.append hT.row hn hk (t2 := t2) (y := .str ys) (ys := ys.map byteV) (l := ys.length) (by simp [vnews, ht2]) (by simp) (byteV_one ys) hl (by omega)
  rw [← List.map_append] at h2
  exact ⟨v', σ', h1, h2.toV, h3⟩

/-- A row's elements, one behind the other. -/
theorem flat_drop {α : Type} {f : α → List V} {k : Nat} (hf : ∀ a, (f a).length = k) : ∀ (l : List α) (i : Nat), (l.flatMap f).drop (i * k) = (l.drop i).flatMap f
  | l, 0 => by simp
  | [], i + 1 => by simp
  | a :: l, i + 1 => by
    have : (i + 1) * k = (f a).length + i * k := by rw [hf, Nat.add_mul, Nat.one_mul, Nat.add_comm]
    rw [List.flatMap_cons, this, List.drop_length_add_append, List.drop_succ_cons]
    exact flat_drop hf l i

theorem flat_len {α : Type} {f : α → List V} {k : Nat} (hf : ∀ a, (f a).length = k) : ∀ (l : List α), (l.flatMap f).length = l.length * k
  | [] => by simp
  | a :: l => by rw [List.flatMap_cons, List.length_append, flat_len hf l, hf, List.length_cons, Nat.add_mul, Nat.one_mul, Nat.add_comm]

theorem flat_part {α : Type} {f : α → List V} {k : Nat} (hf : ∀ a, (f a).length = k) {l : List α} {i : Nat} (h : i < l.length) : ((l.flatMap f).drop (i * k)).take k = f l[i] := by
  rw [flat_drop hf, List.drop_eq_getElem_cons h, List.flatMap_cons]
  have := List.take_left (l₁ := f l[i]) (l₂ := (l.drop (i + 1)).flatMap f)
  rw [hf] at this
  exact this

/-- An element of a row. -/
theorem load_part {α : Type} {f : α → List V} {k : Nat} (hf : ∀ a, (f a).length = k) {l : List α} {i : Nat} (h : i < l.length) {e : TypeId} (ha : isAggT P e = some true) (hs : sizeT P e = some k) {objs : List Ob} : vload P objs e (.eptr (l.flatMap f) (i * k)) = some (.agg (f l[i])) := by
  have hl : i * k + k ≤ (l.flatMap f).length := by
    rw [flat_len hf]
    have : (i + 1) * k ≤ l.length * k := Nat.mul_le_mul_right k h
    rw [Nat.add_mul, Nat.one_mul] at this
    exact this
  simp only [vload, vcellsAt, vpart, ha, hs, if_pos hl, flat_part hf h]

/-- An object as a whole. -/
theorem vload_agg {objs : List Ob} {r : Nat} {cs : List V} {t : TypeId} (h : objs[r]? = some (.cells cs)) (ha : isAggT P t = some true) (hs : sizeT P t = some cs.length) : vload P objs t (.optr r 0) = some (.agg cs) := by
  simp [vload, vcellsAt, h, vpart, ha, hs]
/-- A part of it that is one itself. -/
theorem vload_sub {objs : List Ob} {r off n : Nat} {cs : List V} {t : TypeId} (h : objs[r]? = some (.cells cs)) (ha : isAggT P t = some true) (hs : sizeT P t = some n) (hl : off + n ≤ cs.length) : vload P objs t (.optr r off) = some (.agg ((cs.drop off).take n)) := by
  simp [vload, vcellsAt, h, vpart, ha, hs, hl]

theorem setAll_take : ∀ (vs : List V) (cs : List V) (off : Nat), off + vs.length ≤ cs.length → setAll cs off vs = cs.take off ++ vs ++ cs.drop (off + vs.length)
  | [], cs, off, h => by simp [setAll]
  | v :: vs, cs, off, h => by
    simp only [List.length_cons] at h
    rw [setAll, setAll_take vs _ _ (by simp; omega)]
    apply List.ext_getElem?
    intro i
    simp only [List.length_cons, List.getElem?_append, List.length_take, List.length_set, List.length_append, List.getElem?_drop, List.getElem?_take, List.getElem?_set]
    have e1 : min (off + 1) cs.length = off + 1 := by omega
    have e2 : min off cs.length = off := by omega
    rw [e1, e2]
    rcases Nat.lt_trichotomy i off with h1 | h1 | h1
    · simp [h1, show i < off + 1 by omega, show i < off + 1 + vs.length by omega, show i < off + (vs.length + 1) by omega, show off ≠ i by omega]
    · subst h1
      simp [show i < cs.length by omega]
      omega
    · by_cases h2 : i < off + 1 + vs.length
      · simp [show ¬ i < off by omega, show ¬ i < off + 1 by omega, h2, show i < off + (vs.length + 1) by omega]
        have : i - off = (i - (off + 1)) + 1 := by omega
        rw [this, List.getElem?_cons_succ]
      · simp [show ¬ i < off by omega, h2, show ¬ i < off + (vs.length + 1) by omega]
        have e3 : off + 1 + vs.length + (i - (off + 1 + vs.length)) = i := by omega
        have e4 : off + (vs.length + 1) + (i - (off + (vs.length + 1))) = i := by omega
        rw [e3, e4]
        simp [show off ≠ i by omega]

/-- A whole object is written. -/
theorem vstore_agg {σ : St} {r : Nat} {cs cs' : List V} {t : TypeId} (h : σ.objs[r]? = some (.cells cs)) (hs : sizeT P t = some cs'.length) (hl : cs'.length = cs.length) (h1 : cs'.all one = true) : vstore P σ t (.optr r 0) (.agg cs') = some ⟨σ.objs.set r (.cells cs'), σ.toks⟩ := by
  simp only [vstore, h, vcells]
  have h2 : setAll cs 0 cs' = cs' := by rw [setAll_take _ _ _ (by omega)]; simp [hl]
  have h3 : 0 + cs'.length ≤ cs.length := by omega
  simp only [hs, h3, h1, and_self, if_true, h2]

theorem Keep.push {σ0 σ : St} (h : Keep σ0 σ) (o : Ob) : Keep σ0 ⟨σ.objs ++ [o], σ.toks⟩ :=
  ⟨fun r o' ho => by
    have := h.1 r o' ho
    simp only
    rw [List.getElem?_append_left (List.getElem?_eq_some_iff.1 this).1]
    exact this, h.2⟩
/-- Objects of one's own may be written. -/
theorem Keep.setNew {σ0 σ : St} (h : Keep σ0 σ) {r : Nat} (hr : σ0.objs.length ≤ r) (o : Ob) : Keep σ0 ⟨σ.objs.set r o, σ.toks⟩ :=
  ⟨fun q o' ho => by
    have hq := (List.getElem?_eq_some_iff.1 ho).1
    simp only
    rw [List.getElem?_set_ne (by omega)]
    exact h.1 q o' ho, h.2⟩
theorem KeepX.setNew {q : Nat} {σ0 σ : St} (h : KeepX q σ0 σ) {r : Nat} (hr : σ0.objs.length ≤ r) (o : Ob) : KeepX q σ0 ⟨σ.objs.set r o, σ.toks⟩ :=
  ⟨fun i o' hi ho => by
    have hq := (List.getElem?_eq_some_iff.1 ho).1
    simp only
    rw [List.getElem?_set_ne (by omega)]
    exact h.1 i o' hi ho, h.2⟩
theorem KeepX.push {q : Nat} {σ0 σ : St} (h : KeepX q σ0 σ) (o : Ob) : KeepX q σ0 ⟨σ.objs ++ [o], σ.toks⟩ :=
  ⟨fun r o' hi ho => by
    have := h.1 r o' hi ho
    simp only
    rw [List.getElem?_append_left (List.getElem?_eq_some_iff.1 this).1]
    exact this, h.2⟩
theorem push_new (objs : List Ob) (o : Ob) : (objs ++ [o])[objs.length]? = some o := by simp
theorem keepX_of {q : Nat} {σ σ' : St} (h : KeepX q σ σ') (hq : σ.objs.length ≤ q) : Keep σ σ' :=
  ⟨fun r o ho => h.1 r o (by have := (List.getElem?_eq_some_iff.1 ho).1; omega) ho, h.2⟩

/-- Texts and bytes. -/
theorem BtsV.str {v : V} {bs : List UInt8} (h : BtsV v bs) {t t2 e : TypeId} (ht : P.underlying t = some (.slice e)) (he : isU8 P e = true) (ht2 : P.underlying t2 = some .string) : vconv P t t2 v = some (.str bs) := by
  have hb : ∀ l : List UInt8, bytesOf' (l.map byteV) = some l := by
    intro l
    induction l with
    | nil => rfl
    | cons b l ih =>
      have h1 : byteOf1 (.int .u8 (b.toNat : Int)) = some b := by
        have := b.toNat_lt
        simp [byteOf1]
      simp only [List.map_cons, bytesOf', byteV, ih, h1]
  rcases h with ⟨rfl, rfl⟩ | ⟨p, rfl⟩
  · simp [vconv, ht, ht2, he]
  · simp [vconv, ht, ht2, he, hb]
end
end Go.Proofs.Ytmcadfejkcpblaa.Q
