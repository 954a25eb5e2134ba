import Derived.Test.YtcogghmmlndmgaaGb
set_option linter.unusedVariables false
set_option linter.unusedSimpArgs false
namespace Go.Proofs.Ytcogghmmlndmgaa.Q
open Go Go.RowKit Go.Proofs

/-- What is read as a log, and what is left. -/
def readLogS (b : List UInt8) (size : Int) : Option (Lg × List UInt8) :=
  let a1 := numS b false
  let a2 := numS a1.2.1 a1.2.2
  let a3 := numS a2.2.1 a2.2.2
  let a4 := numS a3.2.1 a3.2.2
  let a5 := numS a4.2.1 a4.2.2
  let c := bytS a5.2.1 a5.2.2 (a5.1 : Nat)
  match readItemsS c.2.1 c.2.2 256 with
  | none => none
  | some (l, r) => if lgOk ⟨(a1.1 : Nat), (a2.1 : Nat) - 1, (a3.1 : Nat), (a4.1 : Nat), c.1, l⟩ size = true then
      some (⟨(a1.1 : Nat), (a2.1 : Nat) - 1, (a3.1 : Nat), (a4.1 : Nat), c.1, l⟩, r) else none
def decodeL (b : List UInt8) (size : Int) : Option Lg := match readLogS b size with
  | some (m, []) => some m
  | _ => none

theorem readLogS_eq {b : List UInt8} {size : Int} {a1 a2 a3 a4 a5 : Nat × List UInt8 × Bool} {c : List UInt8 × List UInt8 × Bool} (h1 : a1 = numS b false) (h2 : a2 = numS a1.2.1 a1.2.2) (h3 : a3 = numS a2.2.1 a2.2.2) (h4 : a4 = numS a3.2.1 a3.2.2) (h5 : a5 = numS a4.2.1 a4.2.2) (hc : c = bytS a5.2.1 a5.2.2 (a5.1 : Nat)) :
    readLogS b size = match readItemsS c.2.1 c.2.2 256 with
      | none => none
      | some (l, r) => if lgOk ⟨(a1.1 : Nat), (a2.1 : Nat) - 1, (a3.1 : Nat), (a4.1 : Nat), c.1, l⟩ size = true then
          some (⟨(a1.1 : Nat), (a2.1 : Nat) - 1, (a3.1 : Nat), (a4.1 : Nat), c.1, l⟩, r) else none := by
  rw [hc, h5, h4, h3, h2, h1]; rfl

theorem readLogS_some {b : List UInt8} {size : Int} {m : Lg} {r : List UInt8} (h : readLogS b size = some (m, r)) : lgOk m size = true ∧ b = lgB m ++ r ∧ ItmsIn m.items ∧ m.book.length ≤ b.length := by
  obtain ⟨a1, h1⟩ : ∃ a1, a1 = numS b false := ⟨_, rfl⟩
  obtain ⟨a2, h2⟩ : ∃ a2, a2 = numS a1.2.1 a1.2.2 := ⟨_, rfl⟩
  obtain ⟨a3, h3⟩ : ∃ a3, a3 = numS a2.2.1 a2.2.2 := ⟨_, rfl⟩
  obtain ⟨a4, h4⟩ : ∃ a4, a4 = numS a3.2.1 a3.2.2 := ⟨_, rfl⟩
  obtain ⟨a5, h5⟩ : ∃ a5, a5 = numS a4.2.1 a4.2.2 := ⟨_, rfl⟩
  obtain ⟨c, hc⟩ : ∃ c, c = bytS a5.2.1 a5.2.2 (a5.1 : Nat) := ⟨_, rfl⟩
  rw [readLogS_eq h1 h2 h3 h4 h5 hc] at h
  split at h
  · cases h
  · rename_i l r' hr
    split at h
    · rename_i hcond
      injection h with h
      injection h with e1 e2
      subst e2
      obtain ⟨k0, k1, k2, k3, k4, k5⟩ := readItemsS_some hr
      have oc := bytS_ok (bs := a5.2.1) (bad := a5.2.2) (n := a5.1) (by rw [← hc]; exact k0)
      rw [← hc] at oc
      have o5 := numS_ok (bs := a4.2.1) (bad := a4.2.2) (by rw [← h5]; exact oc.1)
      rw [← h5] at o5
      have o4 := numS_ok (bs := a3.2.1) (bad := a3.2.2) (by rw [← h4]; exact o5.1)
      rw [← h4] at o4
      have o3 := numS_ok (bs := a2.2.1) (bad := a2.2.2) (by rw [← h3]; exact o4.1)
      rw [← h3] at o3
      have o2 := numS_ok (bs := a1.2.1) (bad := a1.2.2) (by rw [← h2]; exact o3.1)
      rw [← h2] at o2
      have o1 := numS_ok (bs := b) (bad := false) (by rw [← h1]; exact o2.1)
      rw [← h1] at o1
      have hl : a5.1 = c.1.length := by have := oc.2.2.2; omega
      have hb : b = putN a1.1 ++ (putN a2.1 ++ (putN a3.1 ++ (putN a4.1 ++ (putN a5.1 ++ (c.1 ++ (itemsS l ++ r')))))) := by
        conv => lhs; rw [o1.2.1, o2.2.1, o3.2.1, o4.2.1, o5.2.1, oc.2.2.1, k1]
      have hv : ((a2.1 : Nat) : Int) - 1 + 1 = ((a2.1 : Nat) : Int) := by omega
      rw [← e1]
      refine ⟨hcond, ?_, ?_, ?_⟩
      · rw [hb]
        simp only [lgB, headL, putS4, hv, runS, Int.toNat_natCast, ← hl, List.append_assoc]
      · intro x hx
        obtain ⟨p1, p2, p3⟩ := k5 x hx
        have := of_decide_eq_true p1
        exact ⟨p2, by omega⟩
      · have := congrArg List.length hb
        simp only [List.length_append] at this
        simp only
        omega
    · cases h

theorem chain_pos {l : List Itm} {was : Int} (h : chainB was l = true) (h0 : 0 ≤ was) : (l.any fun x => decide (x.term < 0)) = false := by
  rw [List.any_eq_false]
  intro x hx
  have := (chain_le h).2 x hx
  simp only [decide_eq_true_eq]
  omega
theorem chain_all {l : List Itm} {was : Int} (h : chainB was l = true) : (l.all fun x => entOk x.ent) = true := by
  rw [List.all_eq_true]
  exact chain_ent h

theorem readLogS_lgB {m : Lg} {size : Int} (h : lgOk m size = true) (hs : size ≤ 7) (hin : ItmsIn m.items) (hb : m.book.length ≤ 4294967296) (r : List UInt8) : readLogS (lgB m ++ r) size = some (m, r) := by
  obtain ⟨⟨p1, p2, p3, p4, p5, p6, p7, p8⟩, c1, c2⟩ := lgOk_parts h
  have hbt := bterm_le h
  have hE : lgB m ++ r = putN m.term.toNat ++ (putN (m.vote + 1).toNat ++ (putN m.base.toNat ++ (putN m.bterm.toNat ++ (putN m.book.length ++ (m.book ++ (itemsS m.items ++ r)))))) := by
    simp only [lgB, headL, putS4, runS, List.append_assoc]
  have hput := readItems_put hin (by omega) (most := 256) p8 r
  rw [chain_all c1, if_pos rfl, clip_id (chain_pos c1 p7)] at hput
  have e : ∀ x : Int, 0 ≤ x → ((x.toNat : Nat) : Int) = x := fun x hx => by omega
  have hmk : (⟨(m.term.toNat : Nat), ((m.vote + 1).toNat : Nat) - 1, (m.base.toNat : Nat), (m.bterm.toNat : Nat), m.book, m.items⟩ : Lg) = m := by
    rw [e _ p1, e _ (by omega), e _ p5, e _ p7]
    obtain ⟨_, _, _, _, _, _⟩ := m
    simp only [Lg.mk.injEq, true_and, and_true]
    omega
  have step : ∀ {x : Nat} {s : List UInt8}, x < 2 ^ 63 → (x, s, false) = numS (putN x ++ s) false := fun h => (numS_put h _).symm
  rw [hE, readLogS_eq (a1 := (m.term.toNat, _, false)) (a2 := ((m.vote + 1).toNat, _, false)) (a3 := (m.base.toNat, _, false)) (a4 := (m.bterm.toNat, _, false)) (a5 := (m.book.length, _, false)) (c := (m.book, itemsS m.items ++ r, false))
    (step (by omega)) (step (by omega)) (step (by omega)) (step (by omega)) (step (by omega)) (bytS_put _ _).symm]
  simp only [hput, hmk, h, if_true]

theorem decodeL_some {b : List UInt8} {size : Int} {m : Lg} (h : decodeL b size = some m) : lgOk m size = true ∧ b = lgB m ∧ ItmsIn m.items ∧ m.book.length ≤ b.length := by
  unfold decodeL at h
  split at h
  · rename_i m' hr
    injection h with h
    subst h
    have := readLogS_some hr
    rwa [List.append_nil] at this
  · cases h
theorem decodeL_lgB {m : Lg} {size : Int} (h : lgOk m size = true) (hs : size ≤ 7) (hin : ItmsIn m.items) (hb : m.book.length ≤ 4294967296) : decodeL (lgB m) size = some m := by
  have := readLogS_lgB h hs hin hb []
  rw [List.append_nil] at this
  unfold decodeL
  rw [this]
theorem lgB_len {m : Lg} {size : Int} (h : lgOk m size = true) (hs : size ≤ 7) (hin : ItmsIn m.items) (hb : m.book.length ≤ 4294967296) : (lgB m).length ≤ m.book.length + 5000000 := by
  obtain ⟨⟨_, _, _, _, _, _, _, m8⟩, _, _⟩ := lgOk_parts h
  have h1 := putS_len (fun x hx => (headL_in h hs x hx).2)
  have h2 := itemsS_len hin (by omega)
  have h3 := putN_nat_len (n := m.book.length) (by omega)
  simp only [headL, List.length_cons, List.length_nil] at h1
  simp only [lgB, List.length_append, headL, runS]
  omega
/-- No proper beginning is a log. -/
theorem decodeL_pre {m : Lg} {size : Int} (h : lgOk m size = true) (hs : size ≤ 7) (hin : ItmsIn m.items) (hb : m.book.length ≤ 2147483648) {i : Nat} (hi : i < (lgB m).length) : decodeL ((lgB m).take i) size = none := by
  cases hd : decodeL ((lgB m).take i) size with
  | none => rfl
  | some k =>
    exfalso
    obtain ⟨k1, k3, k4, k5⟩ := decodeL_some hd
    have hl : ((lgB m).take i).length = i := by rw [List.length_take]; omega
    have hml := lgB_len h hs hin (by omega)
    have hbl : k.book.length ≤ 4294967296 := by omega
    have h1 := readLogS_lgB h hs hin (by omega) []
    have hE : lgB m ++ [] = lgB k ++ (lgB m).drop i := by rw [← k3, List.take_append_drop, List.append_nil]
    rw [hE, readLogS_lgB k1 hs k4 hbl] at h1
    injection h1 with h1
    injection h1 with h1 h2
    have := congrArg List.length h2
    rw [List.length_drop] at this
    simp at this
    omega
theorem decodeL_more {m : Lg} {size : Int} (h : lgOk m size = true) (hs : size ≤ 7) (hin : ItmsIn m.items) (hb : m.book.length ≤ 4294967296) (x : UInt8) : decodeL (lgB m ++ [x]) size = none := by
  unfold decodeL
  rw [readLogS_lgB h hs hin hb]

theorem decodeL_eq {b : List UInt8} {size : Int} {a1 a2 a3 a4 a5 : Nat × List UInt8 × Bool} {c : List UInt8 × List UInt8 × Bool} (h1 : a1 = numS b false) (h2 : a2 = numS a1.2.1 a1.2.2) (h3 : a3 = numS a2.2.1 a2.2.2) (h4 : a4 = numS a3.2.1 a3.2.2) (h5 : a5 = numS a4.2.1 a4.2.2) (hc : c = bytS a5.2.1 a5.2.2 (a5.1 : Nat)) {I : Option (List Itm × List UInt8)} (hI : I = readItemsS c.2.1 c.2.2 256) :
    (I = none → decodeL b size = none) ∧ ∀ l r, I = some (l, r) → decodeL b size = if r.length = 0 ∧ lgOk ⟨(a1.1 : Nat), (a2.1 : Nat) - 1, (a3.1 : Nat), (a4.1 : Nat), c.1, l⟩ size = true then some ⟨(a1.1 : Nat), (a2.1 : Nat) - 1, (a3.1 : Nat), (a4.1 : Nat), c.1, l⟩ else none := by
  have h := readLogS_eq (size := size) h1 h2 h3 h4 h5 hc
  rw [← hI] at h
  constructor
  · rintro rfl
    simp only at h
    unfold decodeL
    rw [h]
  · rintro l r rfl
    simp only at h
    unfold decodeL
    rw [h]
    by_cases hcnd : lgOk ⟨(a1.1 : Nat), (a2.1 : Nat) - 1, (a3.1 : Nat), (a4.1 : Nat), c.1, l⟩ size = true
    · rw [if_pos hcnd]
      cases r with
      | nil => simp [hcnd]
      | cons x r => simp
    · rw [if_neg hcnd]
      rw [if_neg (fun hh => hcnd hh.2)]

section
variable {σ : St} {q : Nat} {m : Lg} {w : V}
theorem IsL.put {o : Lg} {u : V} (h : IsL σ q o u) (h1 : one w = true) : vstore Try.prog σ 33 (.optr q 0) (.agg (lgCells m w)) = some ⟨σ.objs.set q (.cells (lgCells m w)), σ.toks⟩ :=
  vstore_agg h SL rfl (lgCells_one h1)
theorem IsL.put1 (h : IsL σ q m w) (n : Int) : vstore Try.prog σ 3 (.optr q 1) (.int .i64 n) = some ⟨σ.objs.set q (Ob.cells (lgCells { m with vote := n } w)), σ.toks⟩ := by
  rw [vstore_obj h S3 rfl (by simp [lgCells])]; rfl
theorem IsL.put2 (h : IsL σ q m w) (n : Int) : vstore Try.prog σ 3 (.optr q 2) (.int .i64 n) = some ⟨σ.objs.set q (Ob.cells (lgCells { m with base := n } w)), σ.toks⟩ := by
  rw [vstore_obj h S3 rfl (by simp [lgCells])]; rfl
theorem IsL.put3 (h : IsL σ q m w) (n : Int) : vstore Try.prog σ 3 (.optr q 3) (.int .i64 n) = some ⟨σ.objs.set q (Ob.cells (lgCells { m with bterm := n } w)), σ.toks⟩ := by
  rw [vstore_obj h S3 rfl (by simp [lgCells])]; rfl
theorem IsL.put4 (h : IsL σ q m w) (s : List UInt8) : vstore Try.prog σ 9 (.optr q 4) (.str s) = some ⟨σ.objs.set q (Ob.cells (lgCells { m with book := s } w)), σ.toks⟩ := by
  rw [vstore_obj h S9 rfl (by simp [lgCells])]; rfl
theorem IsL.put5 (h : IsL σ q m w) {l : List Itm} {u : V} (hu : ItemsV u l) : vstore Try.prog σ 22 (.optr q 5) u = some ⟨σ.objs.set q (Ob.cells (lgCells { m with items := l } u)), σ.toks⟩ := by
  rw [vstore_obj h SIs hu.one (by simp [lgCells])]; rfl
theorem IsL.step {o : Lg} {u : V} (h : IsL σ q o u) {σ' : St} (hs : σ' = ⟨σ.objs.set q (Ob.cells (lgCells m w)), σ.toks⟩) : IsL σ' q m w ∧ KeepX q σ σ' := by
  subst hs
  exact ⟨obj_set h, KeepX.set q _ _⟩
end
theorem BL4 (a b c d : Int) : vbuild Try.prog 33 [(0, .int .i64 a), (1, .int .i64 b), (2, .int .i64 c), (3, .int .i64 d)] = some (.agg (lgCells ⟨a, b, c, d, [], []⟩ .nils)) := by kernel_rfl
theorem BL1 (a : Int) : vbuild Try.prog 33 [(0, .int .i64 a)] = some (.agg (lgCells ⟨a, 0, 0, 0, [], []⟩ .nils)) := by kernel_rfl

/-- What Decode answers. -/
def LogR (b : List UInt8) (size : Int) (v : V) : Prop :=
  if 1 ≤ size ∧ size ≤ 7 then ∃ w, v = .tuple [.agg (lgCells ((decodeL b size).getD lg0) w), .int .i64 (if (decodeL b size).isSome then 0 else 11)] ∧ ItemsV w ((decodeL b size).getD lg0).items
  else v = .tuple [.agg (lgCells lg0 .nils), .int .i64 1]
theorem numS_lt {b : List UInt8} {bad : Bool} : (numS b bad).1 < 2 ^ 63 := by
  cases hb : (numS b bad).2.2 with
  | true => rw [numS_bad hb]; omega
  | false => exact (numS_ok hb).2.2
end Go.Proofs.Ytcogghmmlndmgaa.Q
