import Derived.Test.YtcogghmmlndmgaaEd
import Derived.Test.YtcogghmmlndmgaaTr
set_option linter.unusedVariables false
set_option linter.unusedSimpArgs false
namespace Go.Proofs.Ytcogghmmlndmgaa.Q
open Go Go.RowKit Go.Proofs

theorem numS_ok {bs : List UInt8} {bad : Bool} (h : (numS bs bad).2.2 = false) : bad = false ∧ bs = putN (numS bs bad).1 ++ (numS bs bad).2.1 ∧ (numS bs bad).1 < 2 ^ 63 := by
  unfold numS at h ⊢
  cases bad with
  | true => simp at h
  | false =>
    simp at h ⊢
    refine ⟨?_, (takeS_lt bs).1⟩
    rw [takeS_back h, List.take_append_drop]

theorem numS_bad {bs : List UInt8} {bad : Bool} (h : (numS bs bad).2.2 = true) : (numS bs bad).1 = 0 := by
  unfold numS at h ⊢
  cases bad with
  | true => rfl
  | false =>
    simp at h ⊢
    exact takeS_none h

theorem numS_put {x : Nat} (hx : x < 2 ^ 63) (l : List UInt8) : numS (putN x ++ l) false = (x, l, false) := by
  unfold numS
  have h := putN_pos x
  simp [takeS_putN hx]
  exact fun h0 => by rw [h0] at h; simp at h

theorem bytS_ok {bs : List UInt8} {bad : Bool} {n : Int} (h : (bytS bs bad n).2.2 = false) : bad = false ∧ 0 ≤ n ∧ bs = (bytS bs bad n).1 ++ (bytS bs bad n).2.1 ∧ ((bytS bs bad n).1.length : Int) = n := by
  unfold bytS at h ⊢
  split at h
  · rename_i hc
    simp only [if_pos hc]
    simp [canS] at hc
    refine ⟨hc.1.1, hc.1.2, by rw [List.take_append_drop], ?_⟩
    rw [List.length_take]; omega
  · simp at h

theorem bytS_bad {bs : List UInt8} {bad : Bool} {n : Int} (h : (bytS bs bad n).2.2 = true) : (bytS bs bad n).1 = [] := by
  unfold bytS at h ⊢
  split at h
  · simp at h
  · rename_i hc
    simp only [if_neg hc]

theorem bytS_put (d l : List UInt8) : bytS (d ++ l) false (d.length : Nat) = (d, l, false) := by
  unfold bytS
  have : canS (d ++ l) false (d.length : Nat) = true := by simp [canS]; omega
  rw [if_pos this]
  simp

theorem numS_nil (bad : Bool) : numS [] bad = (0, [], true) := by
  cases bad <;> simp [numS, takeS]

theorem readEntS_nil : readEntS [] = none := by
  have : (rEnt []).2.2 = true := by simp [rEnt, numS_nil, bytS, canS]
  simp [readEntS, this]

theorem putS4 (a b c d : Int) : putS [a, b, c, d] = putN a.toNat ++ (putN b.toNat ++ (putN c.toNat ++ putN d.toNat)) := by simp [putS]

theorem readEntS_some {b : List UInt8} {e : Ent} (h : readEntS b = some e) : entOk e = true ∧ e.In ∧ b = entB e := by
  unfold readEntS at h
  split at h
  · rename_i hc
    injection h with h
    subst h
    refine ⟨hc.2, ?_⟩
    have hc1 := hc.1
    simp at hc1
    obtain ⟨h6, hnil⟩ := hc1
    obtain ⟨a1, ha1⟩ : ∃ a1, a1 = numS b false := ⟨_, rfl⟩
    obtain ⟨a2, ha2⟩ : ∃ a2, a2 = numS a1.2.1 a1.2.2 := ⟨_, rfl⟩
    obtain ⟨a3, ha3⟩ : ∃ a3, a3 = numS a2.2.1 a2.2.2 := ⟨_, rfl⟩
    obtain ⟨a4, ha4⟩ : ∃ a4, a4 = numS a3.2.1 a3.2.2 := ⟨_, rfl⟩
    obtain ⟨a5, ha5⟩ : ∃ a5, a5 = numS a4.2.1 a4.2.2 := ⟨_, rfl⟩
    obtain ⟨a6, ha6⟩ : ∃ a6, a6 = bytS a5.2.1 a5.2.2 a5.1 := ⟨_, rfl⟩
    have hr : rEnt b = (⟨(a1.1 : Nat), (a2.1 : Nat), (a3.1 : Nat), (a4.1 : Nat), a6.1⟩, a6.2) := by rw [ha6, ha5, ha4, ha3, ha2, ha1]; rfl
    rw [hr] at h6 hnil ⊢
    simp only at h6 hnil ⊢
    have o6 := bytS_ok (bs := a5.2.1) (bad := a5.2.2) (n := a5.1) (by rw [← ha6]; exact h6)
    rw [← ha6] at o6
    have o5 := numS_ok (bs := a4.2.1) (bad := a4.2.2) (by rw [← ha5]; exact o6.1)
    rw [← ha5] at o5
    have o4 := numS_ok (bs := a3.2.1) (bad := a3.2.2) (by rw [← ha4]; exact o5.1)
    rw [← ha4] at o4
    have o3 := numS_ok (bs := a2.2.1) (bad := a2.2.2) (by rw [← ha3]; exact o4.1)
    rw [← ha3] at o3
    have o2 := numS_ok (bs := a1.2.1) (bad := a1.2.2) (by rw [← ha2]; exact o3.1)
    rw [← ha2] at o2
    have o1 := numS_ok (bs := b) (bad := false) (by rw [← ha1]; exact o2.1)
    rw [← ha1] at o1
    refine ⟨⟨InI64.nat o1.2.2, InI64.nat o2.2.2, InI64.nat o3.2.2, InI64.nat o4.2.2⟩, ?_⟩
    have hl : a5.1 = a6.1.length := by have := o6.2.2.2; omega
    simp only [entB, putS4, Int.toNat_natCast, runS, ← hl]
    conv => lhs; rw [o1.2.1, o2.2.1, o3.2.1, o4.2.1, o5.2.1, o6.2.2.1, hnil, List.append_nil]
    simp
  · cases h

theorem readEntS_entB {e : Ent} (h : entOk e = true) (hI : e.In) : readEntS (entB e) = some e := by
  have h' := of_decide_eq_true h
  obtain ⟨i1, i2, i3, i4⟩ := hI
  unfold InI64 at i1 i2 i3 i4
  have hr : rEnt (entB e) = (e, [], false) := by
    have hE : entB e = putN e.kind.toNat ++ (putN e.ver.toNat ++ (putN e.cli.toNat ++ (putN e.seq.toNat ++ (putN e.data.length ++ (e.data ++ []))))) := by simp [entB, putS4, runS]
    rw [hE]
    unfold rEnt
    simp only [numS_put (show e.kind.toNat < 2 ^ 63 by omega), numS_put (show e.ver.toNat < 2 ^ 63 by omega), numS_put (show e.cli.toNat < 2 ^ 63 by omega), numS_put (show e.seq.toNat < 2 ^ 63 by omega), numS_put (show e.data.length < 2 ^ 63 by omega), bytS_put]
    obtain ⟨k, v, c, s, d⟩ := e
    simp at h' ⊢
    omega
  simp [readEntS, hr, h]

/-- An item: an entry of a term. -/
structure Itm where
  term : Int
  ent : Ent
  deriving DecidableEq
def itmCells (x : Itm) : List V := .int .i64 x.term :: entCells x.ent
theorem itmCells_len (x : Itm) : (itmCells x).length = 6 := rfl
def Itm.In (x : Itm) : Prop := InI64 x.term ∧ x.ent.In
def itm0 : Itm := ⟨0, ent0⟩
def itmB (x : Itm) : List UInt8 := putN x.term.toNat ++ runS (entryS x.ent)
def itemsS (l : List Itm) : List UInt8 := putN l.length ++ l.flatMap itmB

/-- One item is read. -/
def rItem (s : List UInt8 × Bool) : Option Itm × (List UInt8 × Bool) :=
  let a := numS s.1 s.2
  let b := numS a.2.1 a.2.2
  let c := bytS b.2.1 b.2.2 b.1
  ((readEntS c.1).map fun e => ⟨(a.1 : Nat), e⟩, c.2)
/-- So many are. -/
def rItems : Nat → List UInt8 × Bool → Option (List Itm × (List UInt8 × Bool))
  | 0, s => some ([], s)
  | k + 1, s => match rItems k s with
    | none => none
    | some (l, s') => match rItem s' with
      | (none, _) => none
      | (some x, s2) => some (l ++ [x], s2)
def readItemsS (bs : List UInt8) (bad : Bool) (most : Int) : Option (List Itm × List UInt8) :=
  if most < (numS bs bad).1 then none else match rItems (numS bs bad).1 (numS bs bad).2 with
  | none => none
  | some (l, (b, bad)) => if bad then none else some (l, b)

theorem rItem_some {s : List UInt8 × Bool} {x : Itm} {s' : List UInt8 × Bool} (h : rItem s = (some x, s')) : s.2 = false ∧ s'.2 = false ∧ entOk x.ent = true ∧ x.In ∧ 0 ≤ x.term ∧ s.1 = itmB x ++ s'.1 := by
  obtain ⟨a, ha⟩ : ∃ a, a = numS s.1 s.2 := ⟨_, rfl⟩
  obtain ⟨b, hb⟩ : ∃ b, b = numS a.2.1 a.2.2 := ⟨_, rfl⟩
  obtain ⟨c, hc⟩ : ∃ c, c = bytS b.2.1 b.2.2 b.1 := ⟨_, rfl⟩
  have hr : rItem s = ((readEntS c.1).map fun e => ⟨(a.1 : Nat), e⟩, c.2) := by rw [hc, hb, ha]; rfl
  rw [hr] at h
  injection h with h1 h2
  subst h2
  cases he : readEntS c.1 with
  | none => rw [he] at h1; cases h1
  | some e =>
    rw [he] at h1
    simp only [Option.map_some] at h1
    injection h1 with h1
    subst h1
    obtain ⟨o1, o2, o3⟩ := readEntS_some he
    have hcb : c.2.2 = false := by
      cases hb : c.2.2 with
      | false => rfl
      | true =>
        have := bytS_bad (bs := b.2.1) (bad := b.2.2) (n := b.1) (by rw [← hc]; exact hb)
        rw [← hc] at this
        rw [this, readEntS_nil] at he
        cases he
    have p3 := bytS_ok (bs := b.2.1) (bad := b.2.2) (n := b.1) (by rw [← hc]; exact hcb)
    rw [← hc] at p3
    have p2 := numS_ok (bs := a.2.1) (bad := a.2.2) (by rw [← hb]; exact p3.1)
    rw [← hb] at p2
    have p1 := numS_ok (bs := s.1) (bad := s.2) (by rw [← ha]; exact p2.1)
    rw [← ha] at p1
    refine ⟨p1.1, hcb, o1, ⟨InI64.nat p1.2.2, o2⟩, Int.natCast_nonneg _, ?_⟩
    have hl : b.1 = c.1.length := by have := p3.2.2.2; omega
    simp only [itmB, entryS, o1, if_true, ← o3, runS, ← hl, Int.toNat_natCast]
    conv => lhs; rw [p1.2.1, p2.2.1, p3.2.2.1]
    simp

theorem itmB_pos (x : Itm) : 0 < (itmB x).length := by
  have := putN_pos x.term.toNat
  simp [itmB]; omega

theorem rItems_some : ∀ {k : Nat} {s : List UInt8 × Bool} {l : List Itm} {s' : List UInt8 × Bool}, rItems k s = some (l, s') → l.length = k ∧ s.1 = l.flatMap itmB ++ s'.1 ∧ s'.2 = s.2 ∧ (0 < k → s.2 = false) ∧ k + s'.1.length ≤ s.1.length ∧ ∀ x ∈ l, entOk x.ent = true ∧ x.In ∧ 0 ≤ x.term
  | 0, s, l, s', h => by
    simp [rItems] at h
    obtain ⟨rfl, rfl⟩ := h
    simp
  | k + 1, s, l, s', h => by
    rw [rItems] at h
    cases h1 : rItems k s with
    | none => rw [h1] at h; cases h
    | some p =>
      obtain ⟨l1, s1⟩ := p
      rw [h1] at h
      simp only at h
      cases h2 : rItem s1 with
      | mk o s2 =>
        rw [h2] at h
        cases o with
        | none => cases h
        | some x =>
          simp only at h
          injection h with h
          injection h with h3 h4
          subst h3 h4
          obtain ⟨i1, i2, i3, i4, i5, i6⟩ := rItems_some h1
          obtain ⟨j1, j2, j3, j4, j5, j6⟩ := rItem_some h2
          have := itmB_pos x
          refine ⟨by simp [i1], by rw [i2, j6]; simp, by rw [j2, ← i3, j1], fun _ => by rw [← i3, j1], ?_, ?_⟩
          · rw [j6] at i5
            simp at i5
            omega
          · intro y hy
            rw [List.mem_append, List.mem_singleton] at hy
            rcases hy with hy | rfl
            · exact i6 y hy
            · exact ⟨j3, j4, j5⟩

theorem rItems_mono {s : List UInt8 × Bool} {i : Nat} (h : rItems i s = none) : ∀ {k : Nat}, i ≤ k → rItems k s = none
  | 0, hk => by have : i = 0 := by omega
                subst this; exact h
  | k + 1, hk => by
    by_cases he : i = k + 1
    · subst he; exact h
    · rw [rItems, rItems_mono h (k := k) (by omega)]

theorem itmB_len (x : Itm) (hx : x.In) (hd : x.ent.data.length ≤ 140737487000000) : (itmB x).length ≤ 16500 := by
  obtain ⟨h0, h1, h2, h3, h4⟩ := hx
  unfold InI64 at h0
  have p0 := putN_nat_len (n := x.term.toNat) (by omega)
  unfold itmB runS entryS
  split
  · rename_i hk
    have hk' := of_decide_eq_true hk
    have hp := putS_len (xs := [x.ent.kind, x.ent.ver, x.ent.cli, x.ent.seq]) (by simp; exact ⟨h1, h2, h3, h4⟩)
    have p1 := putN_nat_len (n := x.ent.data.length) (by omega)
    have p2 := putN_nat_len (n := (entB x.ent).length) (by unfold entB runS; simp at hp ⊢; omega)
    have : (entB x.ent).length ≤ 36 + 9 + 16384 := by
      unfold entB runS
      simp at hp ⊢
      omega
    simp only [List.length_append]
    omega
  · have p2 := putN_nat_len (n := 0) (by omega)
    simp
    omega

/-- Items that are put are read, if they can be. -/
theorem rItem_put (x : Itm) (hx : x.In) (hd : x.ent.data.length ≤ 140737487000000) (r : List UInt8) :
    (entOk x.ent = true → rItem (itmB x ++ r, false) = (some ⟨(x.term.toNat : Nat), x.ent⟩, (r, false))) ∧ (entOk x.ent = false → (rItem (itmB x ++ r, false)).1 = none) := by
  have hx' := hx
  obtain ⟨h0, h1⟩ := hx
  unfold InI64 at h0
  have hlen := itmB_len x hx' hd
  have hl2 : (entryS x.ent).length < 2 ^ 63 := by
    unfold itmB runS at hlen
    simp only [List.length_append] at hlen
    omega
  have hE : itmB x ++ r = putN x.term.toNat ++ (putN (entryS x.ent).length ++ (entryS x.ent ++ r)) := by simp [itmB, runS]
  have hr : rItem (itmB x ++ r, false) = ((readEntS (entryS x.ent)).map fun e => ⟨(x.term.toNat : Nat), e⟩, (r, false)) := by
    rw [hE]
    unfold rItem
    simp only [numS_put (show x.term.toNat < 2 ^ 63 by omega), numS_put hl2, bytS_put]
  rw [hr]
  constructor
  · intro hk
    simp [entryS, hk, readEntS_entB hk h1]
  · intro hk
    simp [entryS, hk, readEntS_nil]

def clip (x : Itm) : Itm := ⟨(x.term.toNat : Nat), x.ent⟩

theorem rItems_put {l : List Itm} (hl : ∀ x ∈ l, x.In ∧ x.ent.data.length ≤ 140737487000000) (r : List UInt8) : ∀ {i : Nat}, i ≤ l.length →
    ((∀ x ∈ l.take i, entOk x.ent = true) → rItems i (l.flatMap itmB ++ r, false) = some ((l.take i).map clip, ((l.drop i).flatMap itmB ++ r, false))) ∧ ((∃ x ∈ l.take i, entOk x.ent = false) → rItems i (l.flatMap itmB ++ r, false) = none)
  | 0, _ => by simp [rItems]
  | i + 1, hi => by
    obtain ⟨ih1, ih2⟩ := rItems_put hl r (i := i) (by omega)
    have hil : i < l.length := by omega
    have hx := hl l[i] (List.getElem_mem hil)
    obtain ⟨p1, p2⟩ := rItem_put l[i] hx.1 hx.2 ((l.drop (i + 1)).flatMap itmB ++ r)
    have hd : (l.drop i).flatMap itmB ++ r = itmB l[i] ++ ((l.drop (i + 1)).flatMap itmB ++ r) := by
      rw [List.drop_eq_getElem_cons hil, List.flatMap_cons, List.append_assoc]
    have ht : l.take (i + 1) = l.take i ++ [l[i]] := List.take_succ_eq_append_getElem hil
    rw [ht, rItems]
    constructor
    · intro h
      have h1 : ∀ x ∈ l.take i, entOk x.ent = true := fun x hx => h x (List.mem_append_left _ hx)
      rw [ih1 h1]
      simp only
      rw [hd, p1 (h _ (List.mem_append_right _ (List.mem_singleton.2 rfl)))]
      simp only [List.map_append, List.map_cons, List.map_nil, clip]
    · rintro ⟨x, hx, hk⟩
      rw [List.mem_append, List.mem_singleton] at hx
      rcases hx with hx | rfl
      · rw [ih2 ⟨x, hx, hk⟩]
      · by_cases hall : ∀ x ∈ l.take i, entOk x.ent = true
        · rw [ih1 hall]
          simp only
          rw [hd]
          have := p2 hk
          generalize rItem (itmB l[i] ++ ((l.drop (i + 1)).flatMap itmB ++ r), false) = q at this ⊢
          obtain ⟨o, s⟩ := q
          simp only at this
          subst this
          rfl
        · have : ∃ x ∈ l.take i, entOk x.ent = false := by
            simp only [Classical.not_forall] at hall
            obtain ⟨y, hy, hn⟩ := hall
            exact ⟨y, hy, by simpa using hn⟩
          rw [ih2 this]
end Go.Proofs.Ytcogghmmlndmgaa.Q
