import Derived.Test.YtcogghmmlndmgaaLt
set_option linter.unusedVariables false
set_option linter.unusedSimpArgs false
namespace Go.Proofs.Ytcogghmmlndmgaa.Q
open Go Go.RowKit Go.Proofs

theorem readItemsS_some {bs : List UInt8} {bad : Bool} {most : Int} {l : List Itm} {r : List UInt8} (h : readItemsS bs bad most = some (l, r)) :
    bad = false ∧ bs = itemsS l ++ r ∧ (l.length : Int) ≤ most ∧ l.length < 2 ^ 63 ∧ l.length ≤ bs.length ∧ ∀ x ∈ l, entOk x.ent = true ∧ x.In ∧ 0 ≤ x.term := by
  unfold readItemsS at h
  split at h
  · cases h
  · rename_i hm
    split at h
    · cases h
    · rename_i l' b bad' hr
      split at h
      · cases h
      · rename_i hb
        injection h with h
        injection h with h1 h2
        subst h1 h2
        obtain ⟨i1, i2, i3, i4, i5, i6⟩ := rItems_some hr
        simp only at i2 i3 i5
        have hb' : (numS bs bad).2.2 = false := by rw [← i3]; simpa using hb
        obtain ⟨j1, j2, j3⟩ := numS_ok hb'
        refine ⟨j1, ?_, by omega, by omega, ?_, i6⟩
        · rw [i2] at j2
          rw [itemsS, i1, List.append_assoc]
          exact j2
        · have := numS_len bs bad
          omega

def msg0 : Msg := ⟨0, 0, 0, 0, 0, 0, 0, false, [], []⟩
/-- What is read as a message, and what is left. -/
def readMsgS (b : List UInt8) : Option (Msg × List UInt8) :=
  let a1 := numS b false
  let a2 := numS a1.2.1 a1.2.2
  let a3 := numS a2.2.1 a2.2.2
  let a4 := numS a3.2.1 a3.2.2
  let a5 := numS a4.2.1 a4.2.2
  let a6 := numS a5.2.1 a5.2.2
  let a7 := numS a6.2.1 a6.2.2
  let a8 := numS a7.2.1 a7.2.2
  let a9 := numS a8.2.1 a8.2.2
  let c := bytS a9.2.1 a9.2.2 (a9.1 : Nat)
  match readItemsS c.2.1 c.2.2 16 with
  | none => none
  | some (l, r) => if a8.1 ≤ 1 ∧ msgOk ⟨(a1.1 : Nat), (a2.1 : Nat), (a3.1 : Nat), (a4.1 : Nat), (a5.1 : Nat), (a6.1 : Nat), (a7.1 : Nat), decide (((a8.1 : Nat) : Int) = 1), l, c.1⟩ = true then
      some (⟨(a1.1 : Nat), (a2.1 : Nat), (a3.1 : Nat), (a4.1 : Nat), (a5.1 : Nat), (a6.1 : Nat), (a7.1 : Nat), decide (((a8.1 : Nat) : Int) = 1), l, c.1⟩, r) else none
def decodeS (b : List UInt8) : Option Msg := match readMsgS b with
  | some (m, []) => some m
  | _ => none

theorem readMsgS_eq {b : List UInt8} {a1 a2 a3 a4 a5 a6 a7 a8 a9 : Nat × List UInt8 × Bool} {c : List UInt8 × List UInt8 × Bool} (h1 : a1 = numS b false) (h2 : a2 = numS a1.2.1 a1.2.2) (h3 : a3 = numS a2.2.1 a2.2.2) (h4 : a4 = numS a3.2.1 a3.2.2) (h5 : a5 = numS a4.2.1 a4.2.2) (h6 : a6 = numS a5.2.1 a5.2.2) (h7 : a7 = numS a6.2.1 a6.2.2) (h8 : a8 = numS a7.2.1 a7.2.2) (h9 : a9 = numS a8.2.1 a8.2.2) (hc : c = bytS a9.2.1 a9.2.2 (a9.1 : Nat)) :
    readMsgS b = match readItemsS c.2.1 c.2.2 16 with
      | none => none
      | some (l, r) => if a8.1 ≤ 1 ∧ msgOk ⟨(a1.1 : Nat), (a2.1 : Nat), (a3.1 : Nat), (a4.1 : Nat), (a5.1 : Nat), (a6.1 : Nat), (a7.1 : Nat), decide (((a8.1 : Nat) : Int) = 1), l, c.1⟩ = true then
          some (⟨(a1.1 : Nat), (a2.1 : Nat), (a3.1 : Nat), (a4.1 : Nat), (a5.1 : Nat), (a6.1 : Nat), (a7.1 : Nat), decide (((a8.1 : Nat) : Int) = 1), l, c.1⟩, r) else none := by
  rw [hc, h9, h8, h7, h6, h5, h4, h3, h2, h1]; rfl

theorem readMsgS_some {b : List UInt8} {m : Msg} {r : List UInt8} (h : readMsgS b = some (m, r)) : msgOk m = true ∧ m.In ∧ b = msgB m ++ r ∧ ItmsIn m.items ∧ m.book.length ≤ b.length := by
  obtain ⟨a1, h1⟩ : ∃ a1, a1 = numS b false := ⟨_, rfl⟩
  obtain ⟨a2, h2⟩ : ∃ a2, a2 = numS a1.2.1 a1.2.2 := ⟨_, rfl⟩
  obtain ⟨a3, h3⟩ : ∃ a3, a3 = numS a2.2.1 a2.2.2 := ⟨_, rfl⟩
  obtain ⟨a4, h4⟩ : ∃ a4, a4 = numS a3.2.1 a3.2.2 := ⟨_, rfl⟩
  obtain ⟨a5, h5⟩ : ∃ a5, a5 = numS a4.2.1 a4.2.2 := ⟨_, rfl⟩
  obtain ⟨a6, h6⟩ : ∃ a6, a6 = numS a5.2.1 a5.2.2 := ⟨_, rfl⟩
  obtain ⟨a7, h7⟩ : ∃ a7, a7 = numS a6.2.1 a6.2.2 := ⟨_, rfl⟩
  obtain ⟨a8, h8⟩ : ∃ a8, a8 = numS a7.2.1 a7.2.2 := ⟨_, rfl⟩
  obtain ⟨a9, h9⟩ : ∃ a9, a9 = numS a8.2.1 a8.2.2 := ⟨_, rfl⟩
  obtain ⟨c, hc⟩ : ∃ c, c = bytS a9.2.1 a9.2.2 (a9.1 : Nat) := ⟨_, rfl⟩
  rw [readMsgS_eq h1 h2 h3 h4 h5 h6 h7 h8 h9 hc] at h
  split at h
  · cases h
  · rename_i l r' hr
    split at h
    · rename_i hcond
      injection h with h
      injection h with e1 e2
      subst e2
      obtain ⟨k0, k1, k2, k3, k4, k5⟩ := readItemsS_some hr
      have oc := bytS_ok (bs := a9.2.1) (bad := a9.2.2) (n := a9.1) (by rw [← hc]; exact k0)
      rw [← hc] at oc
      have o9 := numS_ok (bs := a8.2.1) (bad := a8.2.2) (by rw [← h9]; exact oc.1)
      rw [← h9] at o9
      have o8 := numS_ok (bs := a7.2.1) (bad := a7.2.2) (by rw [← h8]; exact o9.1)
      rw [← h8] at o8
      have o7 := numS_ok (bs := a6.2.1) (bad := a6.2.2) (by rw [← h7]; exact o8.1)
      rw [← h7] at o7
      have o6 := numS_ok (bs := a5.2.1) (bad := a5.2.2) (by rw [← h6]; exact o7.1)
      rw [← h6] at o6
      have o5 := numS_ok (bs := a4.2.1) (bad := a4.2.2) (by rw [← h5]; exact o6.1)
      rw [← h5] at o5
      have o4 := numS_ok (bs := a3.2.1) (bad := a3.2.2) (by rw [← h4]; exact o5.1)
      rw [← h4] at o4
      have o3 := numS_ok (bs := a2.2.1) (bad := a2.2.2) (by rw [← h3]; exact o4.1)
      rw [← h3] at o3
      have o2 := numS_ok (bs := a1.2.1) (bad := a1.2.2) (by rw [← h2]; exact o3.1)
      rw [← h2] at o2
      have o1 := numS_ok (bs := b) (bad := false) (by rw [← h1]; exact o2.1)
      rw [← h1] at o1
      have hb8 : bitI (decide (((a8.1 : Nat) : Int) = 1)) = ((a8.1 : Nat) : Int) := by
        have := hcond.1
        have h01 : a8.1 = 0 ∨ a8.1 = 1 := by omega
        rcases h01 with h | h <;> rw [h] <;> rfl
      have hl : a9.1 = c.1.length := by have := oc.2.2.2; omega
      have hb : b = putN a1.1 ++ (putN a2.1 ++ (putN a3.1 ++ (putN a4.1 ++ (putN a5.1 ++ (putN a6.1 ++ (putN a7.1 ++ (putN a8.1 ++ (putN a9.1 ++ (c.1 ++ (itemsS l ++ r')))))))))) := by
        conv => lhs; rw [o1.2.1, o2.2.1, o3.2.1, o4.2.1, o5.2.1, o6.2.1, o7.2.1, o8.2.1, o9.2.1, oc.2.2.1, k1]
      rw [← e1]
      refine ⟨hcond.2, ⟨InI64.nat o1.2.2, InI64.nat o2.2.2, InI64.nat o3.2.2, InI64.nat o4.2.2, InI64.nat o5.2.2, InI64.nat o6.2.2, InI64.nat o7.2.2⟩, ?_, ?_, ?_⟩
      · rw [hb]
        simp only [msgB, headI, putS9, hb8, Int.toNat_natCast, ← hl, List.append_assoc]
      · intro x hx
        obtain ⟨p1, p2, p3⟩ := k5 x hx
        have := of_decide_eq_true p1
        exact ⟨p2, by omega⟩
      · have := congrArg List.length hb
        simp only [List.length_append] at this
        simp only
        omega
    · cases h

theorem readMsgS_msgB {m : Msg} (h : msgOk m = true) (hm : m.In) (hin : ItmsIn m.items) (hb : m.book.length ≤ 4294967296) (r : List UInt8) : readMsgS (msgB m ++ r) = some (m, r) := by
  obtain ⟨⟨m1, _, m2, _, m3, _, ⟨m4, m5, m6, m7⟩, m8⟩, m9, m10⟩ := msgOk_parts h
  have hm' := hm
  obtain ⟨a1, a2, a3, a4, a5, a6, a7⟩ := hm
  unfold InI64 at a1 a2 a3 a4 a5 a6 a7
  have bit0 : (bitI m.yes).toNat < 2 ^ 63 := by unfold bitI; split <;> decide
  have hbit : (bitI m.yes).toNat ≤ 1 := by unfold bitI; split <;> decide
  have hyes : decide ((((bitI m.yes).toNat : Nat) : Int) = 1) = m.yes := by cases m.yes <;> rfl
  have hE : msgB m ++ r = putN m.src.toNat ++ (putN m.dst.toNat ++ (putN m.kind.toNat ++ (putN m.term.toNat ++ (putN m.last.toNat ++ (putN m.lterm.toNat ++ (putN m.com.toNat ++ (putN (bitI m.yes).toNat ++ (putN m.book.length ++ (m.book ++ (itemsS m.items ++ r)))))))))) := by
    simp only [msgB, headI, putS9, Int.toNat_natCast, List.append_assoc]
  have hput := readItems_put hin (by omega) (most := 16) m8 r
  rw [m9, if_pos rfl, clip_id m10] at hput
  have e : ∀ x : Int, 0 ≤ x → ((x.toNat : Nat) : Int) = x := fun x hx => by omega
  have hmk : (⟨(m.src.toNat : Nat), (m.dst.toNat : Nat), (m.kind.toNat : Nat), (m.term.toNat : Nat), (m.last.toNat : Nat), (m.lterm.toNat : Nat), (m.com.toNat : Nat), decide ((((bitI m.yes).toNat : Nat) : Int) = 1), m.items, m.book⟩ : Msg) = m := by
    rw [e _ m1, e _ m2, e _ (by omega), e _ m4, e _ m5, e _ m6, e _ m7, hyes]
  have step : ∀ {x : Nat} {s : List UInt8}, x < 2 ^ 63 → (x, s, false) = numS (putN x ++ s) false := fun h => (numS_put h _).symm
  rw [hE, readMsgS_eq (a1 := (m.src.toNat, _, false)) (a2 := (m.dst.toNat, _, false)) (a3 := (m.kind.toNat, _, false)) (a4 := (m.term.toNat, _, false)) (a5 := (m.last.toNat, _, false)) (a6 := (m.lterm.toNat, _, false)) (a7 := (m.com.toNat, _, false)) (a8 := ((bitI m.yes).toNat, _, false)) (a9 := (m.book.length, _, false)) (c := (m.book, itemsS m.items ++ r, false))
    (step (by omega)) (step (by omega)) (step (by omega)) (step (by omega)) (step (by omega)) (step (by omega)) (step (by omega)) (step bit0) (step (by omega)) (bytS_put _ _).symm]
  simp only [hput, hmk, h, and_true, hbit, if_true]

theorem decodeS_some {b : List UInt8} {m : Msg} (h : decodeS b = some m) : msgOk m = true ∧ m.In ∧ b = msgB m ∧ ItmsIn m.items ∧ m.book.length ≤ b.length := by
  unfold decodeS at h
  split at h
  · rename_i m' hr
    injection h with h
    subst h
    have := readMsgS_some hr
    rwa [List.append_nil] at this
  · cases h
theorem decodeS_msgB {m : Msg} (h : msgOk m = true) (hm : m.In) (hin : ItmsIn m.items) (hb : m.book.length ≤ 4294967296) : decodeS (msgB m) = some m := by
  have := readMsgS_msgB h hm hin hb []
  rw [List.append_nil] at this
  unfold decodeS
  rw [this]
theorem itemsS_len {l : List Itm} (hin : ItmsIn l) (hl : l.length < 2 ^ 63) : (itemsS l).length ≤ 9 + 16500 * l.length := by
  have hpl := pre_len (bs := []) hin (Nat.le_refl _)
  rw [pre_all, List.nil_append] at hpl
  have := putN_nat_len hl
  simp only [List.length_nil] at hpl
  omega
theorem msgB_len {m : Msg} (h : msgOk m = true) (hm : m.In) (hin : ItmsIn m.items) (hb : m.book.length ≤ 4294967296) : (msgB m).length ≤ m.book.length + 300000 := by
  obtain ⟨⟨_, _, _, _, _, _, _, m8⟩, _, _⟩ := msgOk_parts h
  have h1 := putS_len (headI_in hm hb)
  have h2 := itemsS_len hin (by omega)
  simp only [headI, List.length_cons, List.length_nil] at h1
  simp only [msgB, List.length_append, headI]
  omega
/-- No proper beginning is a message. -/
theorem decodeS_pre {m : Msg} (h : msgOk m = true) (hm : m.In) (hin : ItmsIn m.items) (hb : m.book.length ≤ 2147483648) {i : Nat} (hi : i < (msgB m).length) : decodeS ((msgB m).take i) = none := by
  cases hd : decodeS ((msgB m).take i) with
  | none => rfl
  | some k =>
    exfalso
    obtain ⟨k1, k2, k3, k4, k5⟩ := decodeS_some hd
    have hl : ((msgB m).take i).length = i := by rw [List.length_take]; omega
    have hml := msgB_len h hm hin (by omega)
    have hbl : k.book.length ≤ 4294967296 := by omega
    have h1 := readMsgS_msgB h hm hin (by omega) []
    have hE : msgB m ++ [] = msgB k ++ (msgB m).drop i := by rw [← k3, List.take_append_drop, List.append_nil]
    rw [hE, readMsgS_msgB k1 k2 k4 hbl] at h1
    injection h1 with h1
    injection h1 with h1 h2
    have := congrArg List.length h2
    rw [List.length_drop] at this
    simp at this
    omega
theorem decodeS_more {m : Msg} (h : msgOk m = true) (hm : m.In) (hin : ItmsIn m.items) (hb : m.book.length ≤ 4294967296) (x : UInt8) : decodeS (msgB m ++ [x]) = none := by
  unfold decodeS
  rw [readMsgS_msgB h hm hin hb]
end Go.Proofs.Ytcogghmmlndmgaa.Q
