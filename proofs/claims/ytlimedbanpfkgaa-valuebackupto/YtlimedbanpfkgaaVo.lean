import Derived.Test.YtlimedbanpfkgaaVn
import Derived.Test.YtlimedbanpfkgaaTr
import Derived.Test.YtlimedbanpfkgaaTg
set_option linter.unusedVariables false
set_option linter.unusedSimpArgs false
namespace Go.Proofs.Ytlimedbanpfkgaa.Q
open Go Go.RowKit Go.Proofs

/-! ### Numbers and bytes that are read -/
theorem numS_len (bs : List UInt8) (bad : Bool) : (numS bs bad).2.1.length ≤ bs.length := by
  unfold numS; split <;> simp
theorem bytS_len (bs : List UInt8) (bad : Bool) (n : Int) : (bytS bs bad n).2.1.length ≤ bs.length := by
  unfold bytS; split <;> simp
theorem bytS_len2 (bs : List UInt8) (bad : Bool) (n : Int) : (bytS bs bad n).1.length + (bytS bs bad n).2.1.length ≤ bs.length := by
  unfold bytS; split
  · simp; omega
  · simp
theorem numS_ok {bs : List UInt8} {bad : Bool} (h : (numS bs bad).2.2 = false) : bad = false ∧ bs = putN (numS bs bad).1 ++ (numS bs bad).2.1 ∧ (numS bs bad).1 < 2 ^ 63 := by
  unfold numS at h ⊢
  cases bad with
  | true => simp at h
  | false =>
    simp at h ⊢
    refine ⟨?_, (takeS_lt bs).1⟩
    rw [takeS_back h, List.take_append_drop]
theorem numS_in (bs : List UInt8) (bad : Bool) : (numS bs bad).1 < 2 ^ 63 := by
  unfold numS
  cases bad with
  | true => simp
  | false => exact (takeS_lt bs).1
theorem numS_bad {bs : List UInt8} {bad : Bool} (h : (numS bs bad).2.2 = true) : (numS bs bad).1 = 0 := by
  unfold numS at h ⊢
  cases bad with
  | true => rfl
  | false =>
    simp at h ⊢
    exact takeS_none h
theorem numS_put {x : Nat} (hx : x < 2 ^ 63) (l : List UInt8) : numS (putN x ++ l) false = (x, l, false) := by
  unfold numS
  have h := putN_pos x
  simp [takeS_putN hx]
  exact fun h0 => by rw [h0] at h; simp at h
theorem numS_true (bs : List UInt8) : numS bs true = (0, bs, true) := rfl

/-! ### A value that is read -/
abbrev RS := List UInt8 × Bool
def rdN (g : RS → List Val × RS) : Nat → RS → List Val × RS
  | 0, s => ([], s)
  | n + 1, s => if (rdN g n s).2.2 = true then rdN g n s else ((rdN g n s).1 ++ (g (rdN g n s).2).1, (g (rdN g n s).2).2)
def one1 (f : RS → Val × RS) (s : RS) : List Val × RS := ([(f s).1], (f s).2)
def two2 (f g : RS → Val × RS) (s : RS) : List Val × RS := ([(f s).1, (g (f s).2).1], (g (f s).2).2)
def rdRow (st : Bool) (k : Int) (g : RS → List Val × RS) (s : RS) : Val × RS :=
  let a := numS s.1 s.2
  let p := rdN g (min a.1 65) (a.2.1, a.2.2 || (st && decide (64 < a.1)))
  (.mk k 0 [] p.1, p.2)
def rdInt (st : Bool) (s : RS) : Val × RS :=
  let a := numS s.1 s.2
  let b := numS a.2.1 a.2.2
  (.mk 1 (if a.1 = 1 then -(b.1 : Int) - 1 else (b.1 : Int)) [] [], (b.2.1, b.2.2 || (st && decide (1 < a.1))))
def rdBool (st : Bool) (s : RS) : Val × RS :=
  let a := numS s.1 s.2
  (.mk 2 (a.1 : Int) [] [], (a.2.1, a.2.2 || (st && decide (1 < a.1))))
def rdText (st : Bool) (s : RS) : Val × RS :=
  let a := numS s.1 s.2
  let c := bytS a.2.1 (a.2.2 || (st && decide (256 < a.1))) (a.1 : Int)
  (.mk 3 0 c.1 [], c.2)
/-- st: as the document tells it, strict. -/
def rdS (st : Bool) : Ty → RS → Val × RS
  | .int => rdInt st
  | .bool => rdBool st
  | .text => rdText st
  | .list e => rdRow st 4 (one1 (rdS st e))
  | .mapI e => rdRow st 5 (two2 (rdInt st) (rdS st e))
  | .mapT e => rdRow st 5 (two2 (rdText st) (rdS st e))

theorem rdN_bad (g : RS → List Val × RS) {s : RS} (h : s.2 = true) : ∀ n, rdN g n s = ([], s)
  | 0 => rfl
  | n + 1 => by rw [rdN, rdN_bad g h n, if_pos h]
theorem rdN_stay {g : RS → List Val × RS} {s : RS} {i : Nat} (h : (rdN g i s).2.2 = true) : ∀ n, i ≤ n → rdN g n s = rdN g i s
  | 0, hn => by rw [show i = 0 by omega]
  | n + 1, hn => by
    rcases Nat.lt_or_ge n i with h1 | h1
    · rw [show i = n + 1 by omega]
    · have := rdN_stay h n h1
      rw [rdN, this, if_pos h]
theorem rdN_front (g : RS → List Val × RS) {s : RS} (h : s.2 = false) : ∀ n, rdN g (n + 1) s = ((g s).1 ++ (rdN g n (g s).2).1, (rdN g n (g s).2).2)
  | 0 => by simp [rdN, h]
  | n + 1 => by
    rw [rdN, rdN_front g h n]
    simp only
    rw [rdN]
    split
    · rfl
    · simp [List.append_assoc]
theorem numS_isbad (bs : List UInt8) : (numS bs true).2.2 = true := rfl
theorem bytS_isbad (bs : List UInt8) (n : Int) : (bytS bs true n).2.2 = true := rfl
theorem rdRow_bad {st : Bool} {k : Int} {g : RS → List Val × RS} {s : RS} (h : s.2 = true) : (rdRow st k g s).2.2 = true := by
  unfold rdRow
  simp only [h, numS_true, Bool.true_or]
  rw [rdN_bad g rfl]
theorem rdInt_bad {st : Bool} {s : RS} (h : s.2 = true) : (rdInt st s).2.2 = true := by
  unfold rdInt; simp [h, numS_true]
theorem rdText_bad {st : Bool} {s : RS} (h : s.2 = true) : (rdText st s).2.2 = true := by
  unfold rdText; simp only [h, numS_true, Bool.true_or]; rfl
theorem rdS_bad (st : Bool) (T : Ty) {s : RS} (h : s.2 = true) : (rdS st T s).2.2 = true := by
  cases T with
  | int => exact rdInt_bad h
  | bool => unfold rdS rdBool; simp [h, numS_true]
  | text => exact rdText_bad h
  | list e => exact rdRow_bad h
  | mapI e => exact rdRow_bad h
  | mapT e => exact rdRow_bad h

/-! ### How much is read -/
def wB : Ty → Nat
  | .int => 1 | .bool => 1 | .text => 1
  | .list e => 1 + 65 * wB e
  | .mapI e => 1 + 65 * (1 + wB e)
  | .mapT e => 1 + 65 * (1 + wB e)
def WOkG (g : RS → List Val × RS) (B : Nat) : Prop := ∀ s, weights (g s).1 + (g s).2.1.length ≤ s.1.length + B
theorem rdN_weight {g : RS → List Val × RS} {B : Nat} (H : WOkG g B) (s : RS) : ∀ n, weights (rdN g n s).1 + (rdN g n s).2.1.length ≤ s.1.length + n * B
  | 0 => by simp [rdN, weights]
  | n + 1 => by
    have ih := rdN_weight H s n
    have e1 : (n + 1) * B = n * B + B := Nat.succ_mul n B
    rw [rdN]
    split
    · omega
    · have := H (rdN g n s).2
      simp only [weights_append]
      omega
theorem rdRow_weight {st : Bool} {k : Int} {g : RS → List Val × RS} {B : Nat} (H : WOkG g B) (s : RS) : weight (rdRow st k g s).1 + (rdRow st k g s).2.1.length ≤ s.1.length + (1 + 65 * B) := by
  unfold rdRow
  simp only [weight]
  have h1 := numS_len s.1 s.2
  have h2 := rdN_weight H ((numS s.1 s.2).2.1, (numS s.1 s.2).2.2 || (st && decide (64 < (numS s.1 s.2).1))) (min (numS s.1 s.2).1 65)
  have h3 : min (numS s.1 s.2).1 65 * B ≤ 65 * B := Nat.mul_le_mul_right B (Nat.min_le_right _ _)
  simp only [List.length_nil] at *
  omega
theorem rdInt_weight (st : Bool) (s : RS) : weight (rdInt st s).1 + (rdInt st s).2.1.length ≤ s.1.length + 1 := by
  unfold rdInt
  simp only [weight, weights, List.length_nil]
  have h1 := numS_len s.1 s.2
  have h2 := numS_len (numS s.1 s.2).2.1 (numS s.1 s.2).2.2
  omega
theorem rdText_weight (st : Bool) (s : RS) : weight (rdText st s).1 + (rdText st s).2.1.length ≤ s.1.length + 1 := by
  unfold rdText
  simp only [weight, weights]
  have h1 := numS_len s.1 s.2
  have h2 := bytS_len2 (numS s.1 s.2).2.1 ((numS s.1 s.2).2.2 || (st && decide (256 < (numS s.1 s.2).1))) ((numS s.1 s.2).1 : Int)
  omega
theorem rdS_weight (st : Bool) : ∀ (T : Ty) (s : RS), weight (rdS st T s).1 + (rdS st T s).2.1.length ≤ s.1.length + wB T
  | .int, s => rdInt_weight st s
  | .bool, s => by
    unfold rdS rdBool
    simp only [weight, weights, List.length_nil, wB]
    have h1 := numS_len s.1 s.2
    omega
  | .text, s => rdText_weight st s
  | .list e, s => rdRow_weight (fun s => by have := rdS_weight st e s; simpa [one1, weights] using this) s
  | .mapI e, s => rdRow_weight (fun s => by
      have h1 := rdInt_weight st s
      have h2 := rdS_weight st e (rdInt st s).2
      simp only [two2, weights]
      omega) s
  | .mapT e, s => rdRow_weight (fun s => by
      have h1 := rdText_weight st s
      have h2 := rdS_weight st e (rdText st s).2
      simp only [two2, weights]
      omega) s
theorem wB_le : ∀ (T : Ty), tyD T ≤ 4 → wB T ≤ 1000000
  | .int, _ => by simp [wB]
  | .bool, _ => by simp [wB]
  | .text, _ => by simp [wB]
  | T, h => by
    have key : ∀ (d : Nat) (T : Ty), tyD T ≤ d → wB T + 2 ≤ 3 * 67 ^ (d - 1) := by
      intro d
      induction d with
      | zero => intro T h; have := tyD_pos T; omega
      | succ d ih =>
        intro T h
        have hp : 1 ≤ 67 ^ d := Nat.one_le_pow _ _ (by omega)
        have step : ∀ e : Ty, tyD e + 1 ≤ d + 1 → 3 + 65 * (1 + wB e) ≤ 3 * 67 ^ d := by
          intro e he
          have h1 := ih e (by omega)
          have h2 := tyD_pos e
          have h3 : 67 ^ d = 67 ^ (d - 1) * 67 := by rw [← Nat.pow_succ]; congr 1; omega
          omega
        rw [Nat.add_sub_cancel]
        cases T with
        | int => simp [wB]; omega
        | bool => simp [wB]; omega
        | text => simp [wB]; omega
        | list e => have := step e h; simp only [wB]; omega
        | mapI e => have := step e h; simp only [wB]; omega
        | mapT e => have := step e h; simp only [wB]; omega
    have h1 := key 4 T h
    have : 3 * 67 ^ (4 - 1) = 902289 := by decide
    omega

/-! ### What was put is read -/
theorem putS_one (x : Int) : putS [x] = putN x.toNat := by simp [putS]
theorem putS_two (x y : Int) : putS [x, y] = putN x.toNat ++ putN y.toNat := by simp [putS]
/-- It reads what was put of these. -/
def BackG (f : RS → Val × RS) (P : Val → Bool) : Prop := ∀ v rest, P v = true → (∃ c, ValC v c) → f (putV v ++ rest, false) = (v, (rest, false))
theorem rdInt_back (st : Bool) : BackG (rdInt st) fitInt := by
  rintro v rest h ⟨c, hc⟩
  obtain ⟨k, n, t, l, w, rfl, rfl, hw, ik, im⟩ := hc.inv
  simp only [fitInt, Bool.and_eq_true, decide_eq_true_eq] at h
  obtain ⟨rfl, rfl, hl⟩ := h
  have hl : l = [] := List.length_eq_zero_iff.1 (by omega)
  subst hl
  unfold InI64 at im
  rw [putV, if_pos rfl]
  unfold zig rdInt
  by_cases h0 : 0 ≤ n
  · rw [if_pos h0, putS_two, List.append_assoc]
    have e0 : (0 : Int).toNat = 0 := rfl
    rw [e0, numS_put (by omega)]
    simp only
    rw [numS_put (by omega)]
    simp only [Nat.not_lt_zero, decide_false, Bool.and_false, Bool.or_false]
    rw [if_neg (by omega), show ((n.toNat : Nat) : Int) = n by omega]
  · rw [if_neg h0, putS_two, List.append_assoc]
    have e0 : (1 : Int).toNat = 1 := rfl
    rw [e0, numS_put (by omega)]
    simp only
    rw [numS_put (by omega)]
    simp only [Nat.lt_irrefl, decide_false, Bool.and_false, Bool.or_false]
    rw [if_pos True.intro, show (-(((-(n + 1)).toNat : Nat) : Int) - 1) = n by omega]
theorem rdBool_back (st : Bool) : BackG (rdBool st) fitBool := by
  rintro v rest h ⟨c, hc⟩
  obtain ⟨k, n, t, l, w, rfl, rfl, hw, ik, im⟩ := hc.inv
  simp only [fitBool, Bool.and_eq_true, Bool.or_eq_true, decide_eq_true_eq] at h
  obtain ⟨rfl, hn, rfl, hl⟩ := h
  have hl : l = [] := List.length_eq_zero_iff.1 (by omega)
  subst hl
  rw [putV, if_neg (by decide), if_pos rfl]
  unfold rdBool
  rw [putS_one, numS_put (by omega)]
  have h1 : ¬ 1 < n.toNat := by omega
  simp only [h1, decide_false, Bool.and_false, Bool.or_false]
  rw [show ((n.toNat : Nat) : Int) = n by omega]
theorem rdText_back (st : Bool) : BackG (rdText st) fitText := by
  rintro v rest h ⟨c, hc⟩
  obtain ⟨k, n, t, l, w, rfl, rfl, hw, ik, im⟩ := hc.inv
  simp only [fitText, Bool.and_eq_true, decide_eq_true_eq] at h
  obtain ⟨rfl, rfl, ht, hl⟩ := h
  have hl : l = [] := List.length_eq_zero_iff.1 (by omega)
  subst hl
  rw [putV, if_neg (by decide), if_neg (by decide), if_pos rfl]
  unfold rdText
  rw [putS_one, List.append_assoc, numS_put (by omega)]
  have h1 : ¬ 256 < (t.length : Int).toNat := by omega
  simp only [h1, decide_false, Bool.and_false, Bool.or_false]
  have hc : canS (t ++ rest) false (((t.length : Int).toNat : Nat) : Int) = true := by
    simp only [canS, Bool.not_false, Bool.true_and, Bool.and_eq_true, decide_eq_true_eq, List.length_append]
    omega
  rw [bytS, if_pos hc]
  have e1 : (((t.length : Int).toNat : Nat) : Int).toNat = t.length := by omega
  rw [e1, List.take_left, List.drop_left]
theorem ValsW.all {l : List Val} {w : V} (h : ValsW l w) : ∀ x ∈ l, ∃ c, ValC x c := by
  intro x hx
  obtain ⟨i, hi, rfl⟩ := List.mem_iff_getElem.1 hx
  obtain ⟨_, c, _, _, hc⟩ := h.get hi
  exact ⟨c, hc⟩
theorem rdList_back {f : RS → Val × RS} {P : Val → Bool} (H : BackG f P) : ∀ (l : List Val) (rest : List UInt8), (∀ x ∈ l, P x = true) → (∀ x ∈ l, ∃ c, ValC x c) → rdN (one1 f) l.length (putL l ++ rest, false) = (l, (rest, false))
  | [], rest, _, _ => rfl
  | v :: l, rest, h1, h2 => by
    rw [List.length_cons, rdN_front _ rfl, putL, List.append_assoc]
    have hv := H v (putL l ++ rest) (h1 v (by simp)) (h2 v (by simp))
    have ih := rdList_back H l rest (fun x hx => h1 x (by simp [hx])) (fun x hx => h2 x (by simp [hx]))
    simp only [one1, hv]
    rw [ih]
    rfl
theorem rdMap_back {fk fv : RS → Val × RS} {Pk Pv : Val → Bool} (Hk : BackG fk Pk) (Hv : BackG fv Pv) : ∀ (n : Nat) (l : List Val) (rest : List UInt8), l.length = 2 * n → (∀ j (h : j < l.length), (if j % 2 = 0 then Pk l[j] else Pv l[j]) = true) → (∀ x ∈ l, ∃ c, ValC x c) → rdN (two2 fk fv) n (putL l ++ rest, false) = (l, (rest, false))
  | 0, l, rest, hl, _, _ => by
    have : l = [] := List.length_eq_zero_iff.1 (by omega)
    subst this
    rfl
  | n + 1, l, rest, hl, h1, h2 => by
    match l, hl with
    | a :: b :: l, hl =>
      rw [rdN_front _ rfl, putL, putL, List.append_assoc, List.append_assoc]
      have ha := Hk a (putV b ++ (putL l ++ rest)) (by have h0 := h1 0 (by simp); rw [if_pos (by rfl)] at h0; exact h0) (h2 a (by simp))
      have hb := Hv b (putL l ++ rest) (by have h0 := h1 1 (by simp); rw [if_neg (by decide)] at h0; exact h0) (h2 b (by simp))
      have ih := rdMap_back Hk Hv n l rest (by simp only [List.length_cons] at hl; omega) (fun j hj => by
        have := h1 (j + 2) (by simp only [List.length_cons]; omega)
        rw [show (j + 2) % 2 = j % 2 by omega] at this
        simpa using this) (fun x hx => h2 x (by simp [hx]))
      simp only [two2, ha, hb]
      rw [ih]
      rfl
theorem rdRowL_back {st : Bool} {f : RS → Val × RS} {P : Val → Bool} (H : BackG f P) : BackG (rdRow st 4 (one1 f)) (fitList P) := by
  rintro v rest h ⟨c, hc⟩
  obtain ⟨k, n, t, l, w, rfl, rfl, hw, ik, im⟩ := hc.inv
  simp only [fitList, Bool.and_eq_true, decide_eq_true_eq, List.all_eq_true] at h
  obtain ⟨rfl, rfl, rfl, hl, hall⟩ := h
  rw [putV, if_neg (by decide), if_neg (by decide), if_neg (by decide), headV, if_neg (by decide)]
  unfold rdRow
  rw [putS_one, List.append_assoc, numS_put (by omega)]
  have h1 : ¬ 64 < (l.length : Int).toNat := by omega
  simp only [h1, decide_false, Bool.and_false, Bool.or_false]
  have e1 : min (l.length : Int).toNat 65 = l.length := by omega
  rw [e1, rdList_back H l rest hall hw.all]
theorem okAll_parts {fk fv : Val → Bool} {l : List Val} (h : okAll fk fv l = true) : ∀ j (hj : j < l.length), (if j % 2 = 0 then fk l[j] else fv l[j]) = true := by
  intro j hj
  simp only [okAll, List.all_eq_true] at h
  have h1 := h j (List.mem_range.2 hj)
  rw [okAt, List.getElem?_eq_getElem hj] at h1
  simp only at h1
  split at h1
  · rename_i he
    simp only [Bool.and_eq_true] at h1
    rw [if_pos he]
    exact h1.1
  · rename_i he
    rw [if_neg he]
    exact h1
theorem rdRowM_back {st : Bool} {fk fv : RS → Val × RS} {Pk Pv : Val → Bool} (Hk : BackG fk Pk) (Hv : BackG fv Pv) : BackG (rdRow st 5 (two2 fk fv)) (fitMap Pk Pv) := by
  rintro v rest h ⟨c, hc⟩
  obtain ⟨k, n, t, l, w, rfl, rfl, hw, ik, im⟩ := hc.inv
  simp only [fitMap, Bool.and_eq_true, decide_eq_true_eq] at h
  obtain ⟨rfl, rfl, rfl, hev, hl, hall⟩ := h
  rw [putV, if_neg (by decide), if_neg (by decide), if_neg (by decide), headV, if_pos rfl]
  unfold rdRow
  rw [putS_one, List.append_assoc, numS_put (by omega)]
  have h1 : ¬ 64 < (((l.length / 2 : Nat) : Int)).toNat := by omega
  simp only [h1, decide_false, Bool.and_false, Bool.or_false]
  have e1 : min (((l.length / 2 : Nat) : Int)).toNat 65 = l.length / 2 := by omega
  rw [e1, rdMap_back Hk Hv (l.length / 2) l rest (by omega) (okAll_parts hall) hw.all]
theorem rdS_back (st : Bool) : ∀ (T : Ty), BackG (rdS st T) (fitsT T)
  | .int => rdInt_back st
  | .bool => rdBool_back st
  | .text => rdText_back st
  | .list e => rdRowL_back (rdS_back st e)
  | .mapI e => rdRowM_back (rdInt_back st) (rdS_back st e)
  | .mapT e => rdRowM_back (rdText_back st) (rdS_back st e)

/-! ### What is read strictly is what was put -/
def CanG (f : RS → Val × RS) : Prop := ∀ s, (f s).2.2 = false → s.2 = false ∧ putV (f s).1 ++ (f s).2.1 = s.1
theorem numS_can {s : RS} (h : (numS s.1 s.2).2.2 = false) : s.2 = false ∧ putN (numS s.1 s.2).1 ++ (numS s.1 s.2).2.1 = s.1 := by
  obtain ⟨h1, h2, _⟩ := numS_ok h
  exact ⟨h1, h2.symm⟩
theorem rdInt_can : CanG (rdInt true) := by
  intro s h
  unfold rdInt at h ⊢
  simp only [Bool.true_and, Bool.or_eq_false_iff, decide_eq_false_iff_not] at h ⊢
  obtain ⟨h1, h2⟩ := h
  obtain ⟨h3, h4⟩ := numS_can (s := (numS s.1 s.2).2) h1
  obtain ⟨h5, h6⟩ := numS_can h3
  refine ⟨h5, ?_⟩
  rw [putV, if_pos rfl]
  have hb := numS_in (numS s.1 s.2).2.1 (numS s.1 s.2).2.2
  generalize hx : (numS (numS s.1 s.2).2.1 (numS s.1 s.2).2.2) = b at *
  generalize hy : (numS s.1 s.2) = a at *
  unfold zig
  by_cases h0 : a.1 = 1
  · rw [if_pos h0, if_neg (by omega), putS_two, List.append_assoc]
    rw [show (-(-(b.1 : Int) - 1 + 1)).toNat = b.1 by omega, h4, show (1 : Int).toNat = a.1 by omega, h6]
  · rw [if_neg h0, if_pos (by omega), putS_two, List.append_assoc]
    rw [show ((b.1 : Nat) : Int).toNat = b.1 by omega, h4, show (0 : Int).toNat = a.1 by omega, h6]
theorem rdBool_can : CanG (rdBool true) := by
  intro s h
  unfold rdBool at h ⊢
  simp only [Bool.true_and, Bool.or_eq_false_iff, decide_eq_false_iff_not] at h ⊢
  obtain ⟨h1, h2⟩ := h
  obtain ⟨h5, h6⟩ := numS_can h1
  refine ⟨h5, ?_⟩
  rw [putV, if_neg (by decide), if_pos rfl, putS_one, show (((numS s.1 s.2).1 : Nat) : Int).toNat = (numS s.1 s.2).1 by omega, h6]
theorem rdText_can : CanG (rdText true) := by
  intro s h
  unfold rdText at h ⊢
  simp only [Bool.true_and] at h ⊢
  generalize hy : (numS s.1 s.2) = a at *
  unfold bytS at h ⊢
  split at h
  · rename_i hc
    rw [if_pos hc]
    simp only [canS, Bool.and_eq_true, Bool.not_eq_true', Bool.or_eq_false_iff, decide_eq_false_iff_not, decide_eq_true_eq] at hc
    obtain ⟨⟨⟨h1, h2⟩, h3⟩, h4⟩ := hc
    obtain ⟨h5, h6⟩ := numS_can (s := s) (by rw [hy]; exact h1)
    rw [hy] at h6
    refine ⟨h5, ?_⟩
    rw [putV, if_neg (by decide), if_neg (by decide), if_pos rfl, putS_one, List.append_assoc]
    have e1 : ((a.1 : Nat) : Int).toNat = a.1 := by omega
    rw [e1, List.take_append_drop, List.length_take, show min a.1 a.2.1.length = a.1 by omega, e1, h6]
  · cases h
theorem rdN_can {g : RS → List Val × RS} (H : ∀ s, (g s).2.2 = false → s.2 = false ∧ putL (g s).1 ++ (g s).2.1 = s.1) (s : RS) : ∀ n, (rdN g n s).2.2 = false → s.2 = false ∧ putL (rdN g n s).1 ++ (rdN g n s).2.1 = s.1
  | 0, h => ⟨h, rfl⟩
  | n + 1, h => by
    rw [rdN] at h ⊢
    split at h
    · rename_i h1; rw [h1] at h; cases h
    · rename_i h1
      rw [if_neg h1]
      rw [Bool.not_eq_true] at h1
      obtain ⟨h2, h3⟩ := rdN_can H s n h1
      obtain ⟨h4, h5⟩ := H _ h
      refine ⟨h2, ?_⟩
      simp only [putL_append, List.append_assoc, h5, h3]
theorem rdN_count {g : RS → List Val × RS} {c : Nat} (H : ∀ s, (g s).1.length = c) (s : RS) : ∀ n, (rdN g n s).2.2 = false → (rdN g n s).1.length = n * c
  | 0, h => by simp [rdN]
  | n + 1, h => by
    have e1 : (n + 1) * c = n * c + c := Nat.succ_mul n c
    rw [rdN] at h ⊢
    split at h
    · rename_i h1; rw [h1] at h; cases h
    · rename_i h1
      rw [if_neg h1]
      rw [Bool.not_eq_true] at h1
      simp only [List.length_append, rdN_count H s n h1, H, e1]
theorem rdRow_can {k : Int} {g : RS → List Val × RS} {c : Nat} (hk : (k = 4 ∧ c = 1) ∨ (k = 5 ∧ c = 2)) (Hc : ∀ s, (g s).1.length = c) (H : ∀ s, (g s).2.2 = false → s.2 = false ∧ putL (g s).1 ++ (g s).2.1 = s.1) : CanG (rdRow true k g) := by
  intro s h
  unfold rdRow at h ⊢
  simp only [Bool.true_and] at h ⊢
  have h1 := rdN_count Hc _ _ h
  obtain ⟨h2, h3⟩ := rdN_can H _ _ h
  simp only [Bool.or_eq_false_iff, decide_eq_false_iff_not] at h2
  obtain ⟨h5, h6⟩ := numS_can h2.1
  refine ⟨h5, ?_⟩
  have hmin : min (numS s.1 s.2).1 65 = (numS s.1 s.2).1 := by omega
  have hh : headV k (rdN g (min (numS s.1 s.2).1 65) ((numS s.1 s.2).2.1, (numS s.1 s.2).2.2 || decide (64 < (numS s.1 s.2).1))).1.length = ((numS s.1 s.2).1 : Int) := by
    rw [h1, headV, hmin]
    rcases hk with ⟨rfl, rfl⟩ | ⟨rfl, rfl⟩
    · rw [if_neg (by decide)]; omega
    · rw [if_pos rfl]; omega
  rw [putV, if_neg (by omega), if_neg (by omega), if_neg (by omega), hh, putS_one, List.append_assoc]
  simp only at h3
  rw [h3, show (((numS s.1 s.2).1 : Nat) : Int).toNat = (numS s.1 s.2).1 by omega, h6]
theorem one_can {f : RS → Val × RS} (H : CanG f) : ∀ s, (one1 f s).2.2 = false → s.2 = false ∧ putL (one1 f s).1 ++ (one1 f s).2.1 = s.1 := by
  intro s h
  obtain ⟨h1, h2⟩ := H s h
  refine ⟨h1, ?_⟩
  simpa [one1, putL] using h2
theorem two_can {f g : RS → Val × RS} (H : CanG f) (H2 : CanG g) : ∀ s, (two2 f g s).2.2 = false → s.2 = false ∧ putL (two2 f g s).1 ++ (two2 f g s).2.1 = s.1 := by
  intro s h
  obtain ⟨h1, h2⟩ := H2 (f s).2 h
  obtain ⟨h3, h4⟩ := H s h1
  refine ⟨h3, ?_⟩
  simp only [two2, putL, List.append_nil, List.append_assoc, h2, h4]
theorem rdS_can : ∀ (T : Ty), CanG (rdS true T)
  | .int => rdInt_can
  | .bool => rdBool_can
  | .text => rdText_can
  | .list e => rdRow_can (.inl ⟨rfl, rfl⟩) (fun _ => rfl) (one_can (rdS_can e))
  | .mapI e => rdRow_can (.inr ⟨rfl, rfl⟩) (fun _ => rfl) (two_can rdInt_can (rdS_can e))
  | .mapT e => rdRow_can (.inr ⟨rfl, rfl⟩) (fun _ => rfl) (two_can rdText_can (rdS_can e))
end Go.Proofs.Ytlimedbanpfkgaa.Q
