/- Conversions, cuts, addresses, loads: operations that answer and leave memory as it is. -/
import Derived.Test.YtmcadfejkcpblaaQd
import Derived.Laws.BytesArg
import Derived.Lib.ConvBytes
import Derived.Lib.AppendStr
set_option linter.unusedVariables false
set_option linter.unusedSimpArgs false
namespace Go.Proofs.Ytmcadfejkcpblaa.Q
open Go Go.RowKit

section
variable {P : Program} {g : Gh} {s : List Bool} {w : World}

/-- The operation answers what is said, and leaves memory as it is. -/
def POk (P : Program) (g : Gh) (s : List Bool) (w : World) (m : Sem Value) (v : V) : Prop := ∃ u, m.run P w = .ok u w ∧ VR g s w v u

theorem vbin_ok {op : BinOp} {t : TypeId} {xo yo : Operand} {x y v : V} {a b : Value} (hx : VR g s w x a) (hy : VR g s w y b) (h : vbin P op t xo yo x y = some v) :
    POk P g s w (do eqGuard op t xo yo a b; binOp op t a b) v := by
  have gint : ∀ k n k' n', (eqGuard op t xo yo (.int k n) (.int k' n')).run P w = .ok () w := by intros; cases op <;> simp [eqGuard]
  have gstr : ∀ z z', (eqGuard op t xo yo (.string z) (.string z')).run P w = .ok () w := by intros; cases op <;> simp [eqGuard]
  unfold vbin at h
  split at h
  · simp only [VR] at hx hy
    subst hx hy
    split at h
    · obtain ⟨u, hu, hr⟩ := shiftBin_ok (P := P) (g := g) (s := s) (w := w) (t := t) (k' := _) h
      exact ⟨u, by simp only [Sem.run_bind, gint, Result.andThen_ok]; exact hu, hr⟩
    · obtain ⟨u, hu, hr⟩ := shiftBin_ok (P := P) (g := g) (s := s) (w := w) (t := t) (k' := _) h
      exact ⟨u, by simp only [Sem.run_bind, gint, Result.andThen_ok]; exact hu, hr⟩
    · split at h
      · rename_i e
        subst e
        obtain ⟨u, hu, hr⟩ := intBin_ok (P := P) (g := g) (s := s) (w := w) (t := t) h
        exact ⟨u, by simp only [Sem.run_bind, gint, Result.andThen_ok]; exact hu, hr⟩
      · cases h
  · simp only [VR] at hx hy
    subst hx hy
    obtain ⟨u, hu, hr⟩ := strBin_ok (P := P) (g := g) (s := s) (w := w) (t := t) h
    exact ⟨u, by simp only [Sem.run_bind, gstr, Result.andThen_ok]; exact hu, hr⟩
  · split at h
    · cases h
    · rename_i hb
      have hn : ∀ k p k' q, a = .int k p → b = .int k' q → False := by
        intro k p k' q e1 e2; subst e1 e2
        rw [VR_intV hx, VR_intV hy] at hb; simp [bothSame] at hb
      have hs : ∀ p q, a = .string p → b = .string q → False := by
        intro p q e1 e2; subst e1 e2
        obtain ⟨_, e1⟩ := VR_strV hx
        obtain ⟨_, e2⟩ := VR_strV hy
        rw [e1, e2] at hb; simp [bothSame] at hb
      have hf : ∀ k p k' q, a = .float k p → b = .float k' q → False := by
        intro k p k' q e1 e2; subst e1; cases x <;> simp [VR] at hx
      have hc : ∀ k p z k' q r, a = .complex k p z → b = .complex k' q r → False := by
        intro k p z k' q r e1 e2; subst e1; cases x <;> simp [VR] at hx
      split at h
      · split at h
        · rename_i hg
          rw [Option.map_eq_some_iff] at h
          obtain ⟨r, hr, rfl⟩ := h
          have := (eql_run (P := P) (w := w) (aggEq_ok 10000 hx hy hr) hn hs hf hc).1
          exact ⟨.bool r, by simp only [Sem.run_bind, guard_ok hx hy hg, Result.andThen_ok]; exact this, by simp [VR]⟩
        · cases h
      · split at h
        · rename_i hg
          rw [Option.map_eq_some_iff] at h
          obtain ⟨r, hr, rfl⟩ := h
          have := (eql_run (P := P) (w := w) (aggEq_ok 10000 hx hy hr) hn hs hf hc).2
          exact ⟨.bool (!r), by simp only [Sem.run_bind, guard_ok hx hy hg, Result.andThen_ok]; exact this, by simp [VR]⟩
        · cases h
      · cases h

def vun (op : UnOp) (x : V) : Option V :=
  match op, x with
  | .not, .bool b => some (.bool (!b))
  | .neg, .int k n => some (.int k (k.wrap (0 - n)))
  | .xor, .int k n => (bitOp .xor k (if k.signed then -1 else k.max) n).map (.int k)
  | _, _ => none

theorem vun_ok {op : UnOp} {x v : V} {a : Value} (hx : VR g s w x a) (h : vun op x = some v) : POk P g s w (Op.unary op a) v := by
  unfold vun at h
  split at h
  · simp only [VR] at hx; subst hx; injection h with h; subst h
    exact ⟨_, by simp [Op.unary]; rfl, by simp [VR]⟩
  · simp only [VR] at hx; subst hx; injection h with h; subst h
    rename_i k n
    exact ⟨.int k (k.wrap (0 - n)), by simp [Op.unary, Op.intArith], by simp [VR]⟩
  · simp only [VR] at hx; subst hx
    simp only [bitOp, Option.map_some] at h
    injection h with h; subst h
    exact ⟨_, by simp [Op.unary, Op.intBits]; rfl, by simp [VR]⟩
  · cases h

/-! ### Conversions that leave memory as it is -/
def byteOf1 : V → Option UInt8
  | .int .u8 n => some (UInt8.ofNat n.toNat)
  | _ => none
def bytesOf' : List V → Option (List UInt8)
  | [] => some []
  | v :: vs => match byteOf1 v, bytesOf' vs with
    | some b, some bs => some (b :: bs)
    | _, _ => none

theorem bytesOf'_ok : ∀ {cs : List V} {us : List Value} {l : List UInt8}, VRs g s w cs us → bytesOf' cs = some l → ∃ xs : List Int, us = xs.map (Value.int .u8) ∧ l = xs.map (fun n => UInt8.ofNat n.toNat)
  | [], us, l, h, hb => by
    simp only [VRs] at h; simp only [bytesOf'] at hb; injection hb with hb; subst h hb
    exact ⟨[], rfl, rfl⟩
  | c :: cs, us, l, h, hb => by
    simp only [VRs] at h
    obtain ⟨u, us', rfl, h1, h2⟩ := h
    simp only [bytesOf'] at hb
    split at hb
    · rename_i b bs e1 e2
      injection hb with hb
      subst hb
      obtain ⟨xs, rfl, rfl⟩ := bytesOf'_ok h2 e2
      unfold byteOf1 at e1
      split at e1
      · rename_i n
        injection e1 with e1
        subst e1
        simp only [VR] at h1
        subst h1
        exact ⟨n :: xs, rfl, rfl⟩
      · cases e1
    · cases hb

def isU8 (P : Program) (e : TypeId) : Bool := match P.underlying e with | some (.int .u8) => true | _ => false
theorem isU8_eq {e : TypeId} (h : isU8 P e = true) : P.underlying e = some (.int .u8) := by
  unfold isU8 at h
  split at h
  · assumption
  · cases h

def vconv (P : Program) (src dst : TypeId) (x : V) : Option V :=
  match P.underlying src, P.underlying dst, x with
  | some _, some (.int k), .int _ n => some (.int k (k.wrap n))
  | some _, some .string, .str l => some (.str l)
  | some _, some .string, .int _ n => some (.str (Utf8.encode n).data.toList)
  | some (.slice e), some .string, .nils => if isU8 P e then some (.str []) else none
  | some (.slice e), some .string, .slice _ _ cs len => if isU8 P e && cs.length == len then (bytesOf' cs).map .str else none
  | _, _, _ => none

theorem vconv_ok {src dst : TypeId} {x v : V} {a : Value} (hx : VR g s w x a) (h : vconv P src dst x = some v) : POk P g s w (convert src dst a) v := by
  unfold vconv at h
  split at h
  · rename_i h1 h2
    simp only [VR] at hx; subst hx; injection h with h; subst h
    exact ⟨_, by simp [convert, run_underlying h1, run_underlying h2, Conv.intToInt]; rfl, by simp [VR]⟩
  · rename_i h1 h2
    simp only [VR] at hx; subst hx; injection h with h; subst h
    exact ⟨_, by simp [convert, run_underlying h1, run_underlying h2]; rfl, by simp [VR]⟩
  · rename_i h1 h2
    simp only [VR] at hx; subst hx; injection h with h; subst h
    exact ⟨_, by simp [convert, run_underlying h1, run_underlying h2, Conv.intToString]; rfl, by simp [VR]⟩
  · rename_i e h1 h2
    simp only [VR] at hx; subst hx
    split at h
    · rename_i he
      injection h with h; subst h
      exact ⟨_, run_convert_bytes_nil w src e h1 (isU8_eq he) 0 0 dst h2, by simp [VR]; rfl⟩
    · cases h
  · rename_i e p es cs len h1 h2
    simp only [VR] at hx
    obtain ⟨ad, cap, us, rfl, hl, hc, hm, hr, hs, hp⟩ := hx
    split at h
    · rename_i he
      simp only [Bool.and_eq_true, beq_iff_eq] at he
      rw [Option.map_eq_some_iff] at h
      obtain ⟨l, h3, rfl⟩ := h
      obtain ⟨xs, rfl, rfl⟩ := bytesOf'_ok hs h3
      have hlen : xs.length = len := by have := hs.length; simp at this; omega
      by_cases h0 : len = 0
      · have hx0 : xs = [] := List.eq_nil_of_length_eq_zero (by omega)
        subst h0 hx0
        refine ⟨.string ByteArray.empty, ?_, by simp [VR]; rfl⟩
        rw [run_convert_bytes_string w src dst e (some ad) 0 cap h1 (isU8_eq he.1) h2]
        simp [Conv.bytesToString, loadCells, loadCellsFrom]
      · obtain ⟨hsp, hrow⟩ := hr (fun e => by rw [List.map_eq_nil_iff] at e; subst e; simp at hlen; omega)
        obtain ⟨b, o, sp⟩ := ad
        simp only at hsp hrow
        subst hsp
        refine ⟨.string (strOfNums xs), run_convert_bytes_arg w src e h1 (isU8_eq he.1) b o len cap xs hlen (fun i hi => ?_) dst h2, by simp [VR, strOfNums]⟩
        exact hrow.2 i _ (by simp [List.getElem?_map, List.getElem?_eq_getElem (show i < xs.length by omega), List.getD_eq_getElem?_getD])
    · cases h
  · cases h

/-! ### Indexes and cuts -/
def vindex (P : Program) (t : TypeId) (x i : V) : Option V :=
  match P.underlying t, x, i with
  | some .string, .str l, .int _ n => if 0 ≤ n then (l[n.toNat]?).map fun b => .int .u8 (b.toNat : Int) else none
  | some (.array len e), .agg cs, .int _ n => match sizeT P e with
    | some sz => if 0 ≤ n ∧ n < len then vpart P e cs (n.toNat * sz) else none
    | none => none
  | _, _, _ => none

theorem vindex_ok {t : TypeId} {x i v : V} {a b : Value} (hx : VR g s w x a) (hi : VR g s w i b) (h : vindex P t x i = some v) : POk P g s w (Instr.index t a b) v := by
  unfold vindex at h
  split at h
  · rename_i l k n hu
    simp only [VR] at hx hi; subst hx hi
    split at h
    · rename_i h0
      rw [Option.map_eq_some_iff] at h
      obtain ⟨c, hc, rfl⟩ := h
      have hn : n.toNat < l.length := (List.getElem?_eq_some_iff.1 hc).1
      have hg : (⟨l.toArray⟩ : ByteArray)[n.toNat]? = some c := by
        have hs : n.toNat < (⟨l.toArray⟩ : ByteArray).size := by rw [size_mk]; exact hn
        rw [getElem?_pos (⟨l.toArray⟩ : ByteArray) n.toNat hs]
        have := (List.getElem?_eq_some_iff.1 hc).2
        rw [← this]
        rfl
      exact ⟨.int .u8 (c.toNat : Int), by simp [Instr.index, run_underlying hu, asIntOf, h0, hg], by simp [VR]⟩
    · cases h
  · rename_i len e cs k n hu
    simp only [VR] at hx hi; subst hi
    obtain ⟨us, rfl, hc⟩ := hx
    split at h
    · rename_i sz hsz
      split at h
      · rename_i h0
        obtain ⟨u, hu', hr⟩ := vpart_ok (P := P) (us := us.toArray) (by simpa using hc) h
        exact ⟨u, by simp only [Instr.index, Sem.run_bind, asIntOf, Sem.run_pure, Result.andThen_ok, run_underlying hu]; rw [if_pos h0]; simp only [Sem.run_bind, run_sizeT hsz, Result.andThen_ok]; exact hu', hr⟩
      · cases h
    · cases h
  · cases h

def vb (x : Option V) (dflt y : Nat) : Option Nat :=
  match x with
  | none => some dflt
  | some (.int _ i) => if 0 ≤ i ∧ i ≤ y then some i.toNat else none
  | _ => none

/-- low, high and the third index of a cut (the third: none, where it isn't there) -/
def vbounds (len : Nat) (lo hi mx : Option V) : Option (Nat × Nat × Option Nat) :=
  match mx with
  | none => match vb hi len len with
    | some h => match vb lo 0 h with
      | some l => some (l, h, none)
      | none => none
    | none => none
  | some m => match vb (some m) 0 len, hi with
    | some m', some h => match vb (some h) 0 m' with
      | some h' => match vb lo 0 h' with
        | some l => some (l, h', some m')
        | none => none
      | none => none
    | _, _ => none

inductive OR (R : V → Value → Prop) : Option V → Option Value → Prop
  | none : OR R none none
  | some {v : V} {u : Value} (h : R v u) : OR R (some v) (some u)

theorem sliceBound_ok {v : V} {a : Value} (hv : VR g s w v a) {d y y' r : Nat} (h : vb (some v) d y = some r) (hy : y ≤ y') (c : BoundsCode) : (Instr.sliceBound a y' c).run P w = .ok r w ∧ r ≤ y := by
  unfold vb at h
  split at h
  · cases ‹some v = none›
  · rename_i k i e
    injection e with e
    subst e
    simp only [VR] at hv; subst hv
    split at h
    · rename_i h0
      injection h with h; subst h
      have h1 : 0 ≤ i ∧ i ≤ (y' : Int) := ⟨h0.1, by omega⟩
      exact ⟨by simp only [Instr.sliceBound, Sem.run_bind, asIntOf, Sem.run_pure, Result.andThen_ok]; rw [if_pos h1]; simp, by omega⟩
    · cases h
  · cases h

theorem vb_none {d y r : Nat} (h : vb none d y = some r) : r = d := by
  simp only [vb] at h
  injection h with h
  exact h.symm

theorem vbounds_ok {isSlice : Bool} {len cap : Nat} {lo hi mx : Option V} {lo' hi' mx' : Option Value} (hlo : OR (VR g s w) lo lo') (hhi : OR (VR g s w) hi hi') (hmx : OR (VR g s w) mx mx') (hc : len ≤ cap) {l h : Nat} {m : Option Nat}
    (hb : vbounds len lo hi mx = some (l, h, m)) : (Instr.sliceBounds isSlice len cap lo' hi' mx').run P w = .ok (l, h, m.getD cap) w ∧ l ≤ h ∧ h ≤ len ∧ (∀ k, m = some k → h ≤ k ∧ k ≤ len) := by
  unfold vbounds at hb
  cases hmx with
  | none =>
    simp only at hb
    split at hb
    · rename_i h1 e1
      split at hb
      · rename_i l1 e2
        injection hb with hb
        injection hb with hb1 hb2
        injection hb2 with hb2 hb3
        subst hb1 hb2 hb3
        cases hhi with
        | none =>
          have := vb_none e1
          subst this
          cases hlo with
          | none =>
            have := vb_none e2
            subst this
            exact ⟨by simp [Instr.sliceBounds], Nat.zero_le _, Nat.le_refl _, fun k hk => by cases hk⟩
          | some hl =>
            obtain ⟨r2, b2⟩ := sliceBound_ok (P := P) hl e2 (Nat.le_refl _) .sliceB
            exact ⟨by simp [Instr.sliceBounds, r2], b2, Nat.le_refl _, fun k hk => by cases hk⟩
        | some hv =>
          obtain ⟨r1, b1⟩ := sliceBound_ok (P := P) hv e1 hc (if isSlice = true then .sliceAcap else .sliceAlen)
          cases hlo with
          | none =>
            have := vb_none e2
            subst this
            exact ⟨by simp [Instr.sliceBounds, r1], Nat.zero_le _, b1, fun k hk => by cases hk⟩
          | some hl =>
            obtain ⟨r2, b2⟩ := sliceBound_ok (P := P) hl e2 (Nat.le_refl _) .sliceB
            exact ⟨by simp [Instr.sliceBounds, r1, r2], b2, b1, fun k hk => by cases hk⟩
      · cases hb
    · cases hb
  | some hm =>
    simp only at hb
    split at hb
    · rename_i m' h0 e1
      cases hhi with
      | some hv =>
        obtain ⟨rm, bm⟩ := sliceBound_ok (P := P) hm e1 hc (if isSlice = true then .slice3Acap else .slice3Alen)
        split at hb
        · rename_i h2 e2
          obtain ⟨r1, b1⟩ := sliceBound_ok (P := P) hv e2 (Nat.le_refl _) .slice3B
          split at hb
          · rename_i l1 e3
            injection hb with hb
            injection hb with hb1 hb2
            injection hb2 with hb2 hb3
            subst hb1 hb2 hb3
            cases hlo with
            | none =>
              have := vb_none e3
              subst this
              exact ⟨by simp [Instr.sliceBounds, rm, r1], Nat.zero_le _, by omega, fun k hk => by injection hk with hk; subst hk; exact ⟨b1, bm⟩⟩
            | some hl =>
              obtain ⟨r2, b2⟩ := sliceBound_ok (P := P) hl e3 (Nat.le_refl _) .slice3C
              exact ⟨by simp [Instr.sliceBounds, rm, r1, r2], b2, by omega, fun k hk => by injection hk with hk; subst hk; exact ⟨b1, bm⟩⟩
          · cases hb
        · cases hb
    · cases hb

def vslice (P : Program) (t : TypeId) (x : V) (lo hi mx : Option V) : Option V :=
  match P.underlying t, x with
  | some .string, .str l => match mx with
    | none => match vbounds l.length lo hi none with
      | some (a, b, _) => some (.str ((l.drop a).take (b - a)))
      | none => none
    | some _ => none
  | some (.slice e), .nils => match vbounds 0 lo hi mx, sizeT P e with
    | some _, some _ => some .nils
    | _, _ => none
  | some (.slice e), .slice p esz cs len =>
    if sizeT P e = some esz then
      match vbounds len lo hi mx with
      | some (a, b, none) => some (.slice (if p = .exact ∧ b = len then .exact else if a = 0 ∧ b = len then p else .ro) esz ((cs.drop (a * esz)).take ((b - a) * esz)) (b - a))
      | some (a, b, some m) => some (.slice (if b = m then .exact else .ro) esz ((cs.drop (a * esz)).take ((b - a) * esz)) (b - a))
      | none => none
    else none
  | some (.slice e), .hslice r off esz len =>
    if sizeT P e = some esz then
      match vbounds len lo hi mx with
      | some (a, b, none) => if a = 0 ∨ a < b then some (.hslice r (off + a * esz) esz (b - a)) else some (.slice .ro esz [] 0)
      | _ => none
    else none
  | _, _ => none

theorem RowAt.part {b o : Nat} {us : List Value} (h : RowAt g w b o us) (i n : Nat) (hi : i + n ≤ us.length) : RowAt g w b (o + i) ((us.drop i).take n) := by
  refine ⟨by have := h.1; simp only [List.length_take, List.length_drop]; omega, fun j u hj => ?_⟩
  rw [List.getElem?_take] at hj
  split at hj
  · rw [List.getElem?_drop] at hj
    have := h.2 (i + j) u hj
    rwa [← Nat.add_assoc] at this
  · cases hj

theorem RowA.part {ad : Addr} {us : List Value} (h : RowA g w ad us) (i n : Nat) (hi : i + n ≤ us.length) : RowA g w (ad.add i) ((us.drop i).take n) := by
  intro hne
  have hne' : us ≠ [] := fun e => by subst e; simp at hne
  obtain ⟨hs, hr⟩ := h hne'
  obtain ⟨b, o, sp⟩ := ad
  simp only at hs hr
  subst hs
  rw [Addr.add_lit]
  exact ⟨rfl, hr.part i n hi⟩

theorem RowA.nil (ad : Addr) : RowA g w ad [] := fun h => absurd rfl h

theorem vslice_ok {t : TypeId} {x v : V} {a : Value} {lo hi mx : Option V} {lo' hi' mx' : Option Value} (hx : VR g s w x a) (hlo : OR (VR g s w) lo lo') (hhi : OR (VR g s w) hi hi') (hmx : OR (VR g s w) mx mx')
    (h : vslice P t x lo hi mx = some v) : POk P g s w (Instr.sliceAt t a lo' hi' mx') v := by
  unfold vslice at h
  split at h
  · rename_i l hu
    simp only [VR] at hx; subst hx
    cases hmx with
    | some hm => cases h
    | none =>
      simp only at h
      split at h
      · rename_i p q m e
        injection h with h; subst h
        obtain ⟨hr, h1, h2, _⟩ := vbounds_ok (P := P) (isSlice := false) hlo hhi OR.none (Nat.le_refl _) e
        refine ⟨.string ((⟨l.toArray⟩ : ByteArray).extract p q), ?_, ?_⟩
        · simp only [Instr.sliceAt, Sem.run_bind, run_underlying hu, Result.andThen_ok, Instr.slice]
          simp [size_mk, hr]
        · simp only [VR]
          congr 1
          have : ((⟨l.toArray⟩ : ByteArray).extract p q).data = ((l.drop p).take (q - p)).toArray := by
            rw [ByteArray.data_extract]
            apply Array.ext'
            simp [List.extract_eq_take_drop]
          cases hh : (⟨l.toArray⟩ : ByteArray).extract p q with
          | mk d => rw [hh] at this; simp only at this; rw [this]
      · cases h
  · rename_i e hu
    simp only [VR] at hx; subst hx
    split at h
    · rename_i r sz er hsz
      obtain ⟨p, q, m⟩ := r
      injection h with h; subst h
      obtain ⟨hr, h1, h2, h3⟩ := vbounds_ok (P := P) (isSlice := true) hlo hhi hmx (Nat.le_refl 0) er
      have hq : q = 0 := by omega
      have hp : p = 0 := by omega
      subst hq hp
      have hm : m.getD 0 = 0 := by
        cases m with
        | none => rfl
        | some k => have := h3 k rfl; simp; omega
      rw [hm] at hr
      exact ⟨.slice none 0 0, by simp [Instr.sliceAt, Instr.slice, run_underlying hu, hr, run_sizeT hsz], by simp [VR]⟩
    · cases h
  · rename_i e p esz cs len hu
    simp only [VR] at hx
    obtain ⟨ad, cap, us, rfl, hl, hc, hm, hrow, hvs, hp⟩ := hx
    have hul := hvs.length
    have parts : ∀ (q r : Nat), q ≤ r → r ≤ len → ((cs.drop (q * esz)).take ((r - q) * esz)).length = (r - q) * esz ∧ q * esz + (r - q) * esz ≤ us.length := by
      intro q r hq hr
      have h1 : q * esz + (r - q) * esz = r * esz := by rw [← Nat.add_mul]; congr 1; omega
      have h2 : r * esz ≤ len * esz := Nat.mul_le_mul_right _ hr
      simp only [List.length_take, List.length_drop]
      omega
    have permOk : ∀ (q r : Nat) (ad' : Addr), (q = 0 → ad' = ad) → PermOk g s w ad' (cap - q) esz (r - q) (if p = .exact ∧ r = len then .exact else if q = 0 ∧ r = len then p else .ro) := by
      intro q r ad' hq
      split
      · rename_i hh
        have hp' := hp
        rw [hh.1] at hp'
        simp only [PermOk] at hp' ⊢
        omega
      · split
        · rename_i h00
          have h0 : q = 0 := h00.1
          have h0' : r = len := h00.2
          subst h0 h0'
          rw [hq rfl]
          simpa using hp
        · trivial
    split at h
    · rename_i hsz
      split at h
      · rename_i q r er
        injection h with h; subst h
        obtain ⟨hr, h1, h2, _⟩ := vbounds_ok (P := P) (isSlice := true) hlo hhi hmx hc er
        simp only [Option.getD_none] at hr
        obtain ⟨hpl, hpu⟩ := parts q r h1 h2
        by_cases hcq : cap = q
        · refine ⟨.slice (some ad) (r - q) (cap - q), by rw [hcq] at hr; simp [Instr.sliceAt, Instr.slice, run_underlying hu, hr, run_sizeT hsz, hcq], ?_⟩
          have hrq : r - q = 0 := by omega
          have hz : (cs.drop (q * esz)).take ((r - q) * esz) = [] := by rw [hrq]; simp
          simp only [VR]
          refine ⟨ad, cap - q, [], rfl, hpl, by omega, by omega, RowA.nil ad, by rw [hz]; simp [VRs], permOk q r ad (fun _ => rfl)⟩
        · refine ⟨.slice (some (ad.add (q * esz))) (r - q) (cap - q), by simp [Instr.sliceAt, Instr.slice, run_underlying hu, hr, run_sizeT hsz, hcq], ?_⟩
          simp only [VR]
          refine ⟨ad.add (q * esz), cap - q, _, rfl, hpl, by omega, by omega, hrow.part (q * esz) ((r - q) * esz) hpu, (hvs.drop _).take _, permOk q r _ (fun h0 => by subst h0; simp [Addr.add])⟩
      · rename_i q r m er
        injection h with h; subst h
        obtain ⟨hr, h1, h2, h3⟩ := vbounds_ok (P := P) (isSlice := true) hlo hhi hmx hc er
        simp only [Option.getD_some] at hr
        obtain ⟨h4, h5⟩ := h3 m rfl
        obtain ⟨hpl, hpu⟩ := parts q r h1 h2
        by_cases hcq : m = q
        · refine ⟨.slice (some ad) (r - q) (m - q), by simp [Instr.sliceAt, Instr.slice, run_underlying hu, hr, run_sizeT hsz, hcq], ?_⟩
          have hrq : r - q = 0 := by omega
          have hz : (cs.drop (q * esz)).take ((r - q) * esz) = [] := by rw [hrq]; simp
          rw [hz]
          simp only [VR]
          refine ⟨ad, m - q, [], rfl, by rw [hrq]; simp, by omega, by omega, RowA.nil ad, by simp [VRs], ?_⟩
          split
          · simp only [PermOk]; omega
          · trivial
        · refine ⟨.slice (some (ad.add (q * esz))) (r - q) (m - q), by simp [Instr.sliceAt, Instr.slice, run_underlying hu, hr, run_sizeT hsz, hcq], ?_⟩
          simp only [VR]
          refine ⟨ad.add (q * esz), m - q, _, rfl, hpl, by omega, by omega, hrow.part (q * esz) ((r - q) * esz) hpu, (hvs.drop _).take _, ?_⟩
          split
          · simp only [PermOk]; omega
          · trivial
      · cases h
    · cases h
  · rename_i e r off esz len hu
    simp only [VR] at hx
    obtain ⟨hrn, cap, rfl, hc, hm, hb⟩ := hx
    split at h
    · rename_i hsz
      split at h
      · rename_i p q er
        obtain ⟨hr, h1, h2, _⟩ := vbounds_ok (P := P) (isSlice := true) hlo hhi hmx hc er
        simp only [Option.getD_none] at hr
        split at h
        · rename_i hpq
          injection h with h; subst h
          by_cases hcp : cap = p
          · have hp0 : p = 0 := by omega
            subst hp0
            refine ⟨.slice (some ⟨g.ρ r, g.ob r + off, none⟩) (q - 0) (cap - 0), by rw [hcp] at hr; simp [Instr.sliceAt, Instr.slice, run_underlying hu, hr, run_sizeT hsz, hcp], ?_⟩
            simp only [VR]
            refine ⟨hrn, cap - 0, by simp, by omega, by omega, by simpa using hb⟩
          · refine ⟨.slice (some ((⟨g.ρ r, g.ob r + off, none⟩ : Addr).add (p * esz))) (q - p) (cap - p), by simp [Instr.sliceAt, Instr.slice, run_underlying hu, hr, run_sizeT hsz, hcp], ?_⟩
            simp only [VR]
            refine ⟨hrn, cap - p, by rw [Addr.add_lit, Nat.add_assoc], by omega, by omega, ?_⟩
            have e1 : p * esz + (cap - p) * esz = cap * esz := by rw [← Nat.add_mul]; congr 1; omega
            omega
        · rename_i hpq
          injection h with h; subst h
          have hpq2 : q - p = 0 := by omega
          by_cases hcp : cap = p
          · refine ⟨.slice (some ⟨g.ρ r, g.ob r + off, none⟩) (q - p) (cap - p), by rw [hcp] at hr; simp [Instr.sliceAt, Instr.slice, run_underlying hu, hr, run_sizeT hsz, hcp], ?_⟩
            simp only [VR]
            refine ⟨_, cap - p, [], by rw [hpq2], by simp, by omega, by omega, RowA.nil _, by simp [VRs], trivial⟩
          · refine ⟨.slice (some ((⟨g.ρ r, g.ob r + off, none⟩ : Addr).add (p * esz))) (q - p) (cap - p), by simp [Instr.sliceAt, Instr.slice, run_underlying hu, hr, run_sizeT hsz, hcp], ?_⟩
            simp only [VR]
            refine ⟨_, cap - p, [], by rw [hpq2], by simp, by omega, by omega, RowA.nil _, by simp [VRs], trivial⟩
      · cases h
    · cases h
  · cases h

/-! ### Addresses -/
def vfieldAddr (P : Program) (t : TypeId) (x : V) (f : Nat) : Option V :=
  match P.underlying t with
  | some (.struct fields) => match fields[f]? with
    | some fd => match sizeT P fd.type with
      | some 0 => none
      | some _ => match x with
        | .optr r off => some (.optr r (off + fd.offset))
        | .eptr cs off => some (.eptr cs (off + fd.offset))
        | _ => none
      | none => none
    | none => none
  | _ => none

theorem vfieldAddr_ok {t : TypeId} {x v : V} {a : Value} {f : Nat} (hx : VR g s w x a) (h : vfieldAddr P t x f = some v) : POk P g s w (Instr.fieldAt t a f) v := by
  unfold vfieldAddr at h
  split at h
  · rename_i fields hu
    split at h
    · rename_i fd hfd
      split at h
      · cases h
      · rename_i n hne hn
        have hn0 : n ≠ 0 := fun e => by subst e; exact hne rfl
        split at h
        · rename_i r off
          injection h with h; subst h
          simp only [VR] at hx
          obtain ⟨hr, rfl⟩ := hx
          exact ⟨.pointer (some ⟨g.ρ r, g.ob r + (off + fd.offset), none⟩), by simp [Instr.fieldAt, run_underlying hu, hfd, Instr.sureAddr, fieldPlace, run_sizeT hn, hn0, Addr.add_lit, Nat.add_assoc], by simp [VR, hr]⟩
        · rename_i cs off
          injection h with h; subst h
          simp only [VR] at hx
          obtain ⟨b, o, us, rfl, hrow, hvs⟩ := hx
          exact ⟨.pointer (some ⟨b, o + (off + fd.offset), none⟩), by simp [Instr.fieldAt, run_underlying hu, hfd, Instr.sureAddr, fieldPlace, run_sizeT hn, hn0, Addr.add_lit, Nat.add_assoc], by simp only [VR]; exact ⟨b, o, us, rfl, hrow, hvs⟩⟩
        · cases h
      · cases h
    · cases h
  · cases h

def vindexAddr (P : Program) (t : TypeId) (x i : V) : Option V :=
  match P.underlying t, i with
  | some (.slice e), .int _ n => match x with
    | .slice _ esz cs len => if sizeT P e = some esz ∧ 0 ≤ n ∧ n < len then (if cs.isEmpty then none else some (.eptr cs (n.toNat * esz))) else none
    | .hslice r off esz len => if sizeT P e = some esz ∧ 0 ≤ n ∧ n < len then some (.optr r (off + n.toNat * esz)) else none
    | _ => none
  | some (.array len e), .int _ n => match sizeT P e with
    | some sz => if 0 ≤ n ∧ n < len then
        match x with
        | .optr r off => some (.optr r (off + n.toNat * sz))
        | .eptr cs off => some (.eptr cs (off + n.toNat * sz))
        | _ => none
      else none
    | none => none
  | _, _ => none

theorem vindexAddr_ok {t : TypeId} {x i v : V} {a b : Value} (hx : VR g s w x a) (hi : VR g s w i b) (h : vindexAddr P t x i = some v) : POk P g s w (Instr.indexAt t a b) v := by
  unfold vindexAddr at h
  split at h
  · rename_i e k n hu
    simp only [VR] at hi; subst hi
    split at h
    · rename_i p esz cs len
      split at h
      · rename_i h0
        split at h
        · cases h
        rename_i h3
        injection h with h; subst h
        simp only [VR] at hx
        obtain ⟨ad, cap, us, rfl, hl, hc, hm, hrow, hvs, hp⟩ := hx
        by_cases hus : us = []
        · subst hus
          have hul := hvs.length
          simp at hul
          subst hul
          simp at h3
        · obtain ⟨hsp, hr⟩ := hrow hus
          obtain ⟨b, o, sp⟩ := ad
          simp only at hsp hr
          subst hsp
          exact ⟨.pointer (some ⟨b, o + n.toNat * esz, none⟩), by simp [Instr.indexAt, asIntOf, run_underlying hu, h0.2, run_sizeT h0.1, Addr.add_lit], by simp only [VR]; exact ⟨b, o, us, rfl, hr, hvs⟩⟩
      · cases h
    · rename_i r off esz len
      split at h
      · rename_i h0
        injection h with h; subst h
        simp only [VR] at hx
        obtain ⟨hr, cap, rfl, hc, hm, hb⟩ := hx
        exact ⟨.pointer (some ⟨g.ρ r, g.ob r + (off + n.toNat * esz), none⟩), by simp [Instr.indexAt, asIntOf, run_underlying hu, h0.2, run_sizeT h0.1, Addr.add_lit, Nat.add_assoc], by simp [VR, hr]⟩
      · cases h
    · cases h
  · rename_i len e k n hu
    simp only [VR] at hi; subst hi
    split at h
    · rename_i sz hsz
      split at h
      · rename_i h0
        split at h
        · rename_i r off
          injection h with h; subst h
          simp only [VR] at hx
          obtain ⟨hr, rfl⟩ := hx
          exact ⟨.pointer (some ⟨g.ρ r, g.ob r + (off + n.toNat * sz), none⟩), by simp [Instr.indexAt, asIntOf, run_underlying hu, h0, run_sizeT hsz, Instr.sureAddr, Addr.add_lit, Nat.add_assoc], by simp [VR, hr]⟩
        · rename_i cs off
          injection h with h; subst h
          simp only [VR] at hx
          obtain ⟨b, o, us, rfl, hrow, hvs⟩ := hx
          exact ⟨.pointer (some ⟨b, o + (off + n.toNat * sz), none⟩), by simp [Instr.indexAt, asIntOf, run_underlying hu, h0, run_sizeT hsz, Instr.sureAddr, Addr.add_lit, Nat.add_assoc], by simp only [VR]; exact ⟨b, o, us, rfl, hrow, hvs⟩⟩
        · cases h
      · cases h
    · cases h
  · cases h

/-! ### Loads -/
/-- The cells at an address. -/
def vcellsAt (objs : List Ob) : V → Option (List V × Nat)
  | .optr r off => match objs[r]? with
    | some (.cells cs) => some (cs, off)
    | some (.tcells _ cs) => some (cs, off)
    | _ => none
  | .eptr cs off => some (cs, off)
  | _ => none

def vload (P : Program) (objs : List Ob) (t : TypeId) (x : V) : Option V :=
  match vcellsAt objs x with
  | some (cs, off) => vpart P t cs off
  | none => none

theorem vcellsAt_ok {base : Nat} {w0 : World} {σ : St} (h : Rel base w0 g σ w) {x : V} {a : Value} {cs : List V} {off : Nat} (hx : VR g σ.toks w x a) (hc : vcellsAt σ.objs x = some (cs, off)) :
    ∃ b o us, a = .pointer (some ⟨b, o + off, none⟩) ∧ VRs g σ.toks w cs us ∧ ∀ i u, us[i]? = some u → w.cell? ⟨b, o + i, none⟩ = some u := by
  unfold vcellsAt at hc
  split at hc
  · rename_i r off'
    split at hc
    · rename_i cs' ho
      injection hc with hc
      injection hc with h1 h2
      subst h1 h2
      simp only [VR] at hx
      obtain ⟨hr, rfl⟩ := hx
      obtain ⟨_, _, c, ty, us, hh, hus, hlen, hcells⟩ := h.obj r _ ho
      refine ⟨g.ρ r, g.ob r, us, rfl, hus, fun i u hu => ?_⟩
      simp only [World.cell?, hh]
      simpa using hcells i u hu
    · rename_i t cs' ho
      injection hc with hc
      injection hc with h1 h2
      subst h1 h2
      simp only [VR] at hx
      obtain ⟨hr, rfl⟩ := hx
      obtain ⟨_, _, c, ty, us, hh, hus, hlen, hcells⟩ := h.cellsOf (m := some t) ho
      refine ⟨g.ρ r, g.ob r, us, rfl, hus, fun i u hu => ?_⟩
      simp only [World.cell?, hh]
      simpa using hcells i u hu
    · cases hc
  · injection hc with hc
    injection hc with h1 h2
    subst h1 h2
    simp only [VR] at hx
    obtain ⟨b, o, us, rfl, hrow, hvs⟩ := hx
    exact ⟨b, o, us, rfl, hvs, hrow.2⟩
  · cases hc

theorem vload_ok {base : Nat} {w0 : World} {σ : St} (h : Rel base w0 g σ w) {t : TypeId} {x v : V} {a : Value} (hx : VR g σ.toks w x a) (hl : vload P σ.objs t x = some v) : POk P g σ.toks w (Instr.loadAt t a) v := by
  unfold vload at hl
  split at hl
  · rename_i cs off hc
    obtain ⟨b, o, us, rfl, hvs, hcells⟩ := vcellsAt_ok h hx hc
    unfold vpart at hl
    split at hl
    · rename_i n ha hn
      split at hl
      · rename_i hle
        injection hl with hl; subst hl
        have hul := hvs.length
        have hrun := run_loadCells_list (P := P) w ⟨b, o + off, none⟩ ((us.drop off).take n) (fun j u hj => by
          rw [List.getElem?_take] at hj
          split at hj
          · rw [List.getElem?_drop] at hj
            rw [Addr.add_lit, Nat.add_assoc]
            exact hcells _ u hj
          · cases hj)
        have hlen : ((us.drop off).take n).length = n := by simp; omega
        rw [hlen] at hrun
        refine ⟨.agg ((us.drop off).take n).toArray, ?_, ?_⟩
        · simp [Instr.loadAt, Instr.sureAddr, loadVar, run_isAggT ha, run_sizeT hn, hrun]
        · simp only [VR]
          exact ⟨_, rfl, (hvs.drop off).take n⟩
      · cases hl
    · rename_i ha
      obtain ⟨u, hu, hr⟩ := hvs.get off hl
      refine ⟨u, ?_, hr⟩
      simp [Instr.loadAt, Instr.sureAddr, loadVar, run_isAggT ha, load, Sem.run, hcells off u hu]
    · cases hl
  · cases hl

/-! ### The rest -/
def vextract (x : V) (i : Nat) : Option V :=
  match x with
  | .tuple vs => vs[i]?
  | _ => none
theorem vextract_ok {x v : V} {a : Value} {i : Nat} (hx : VR g s w x a) (h : vextract x i = some v) : POk P g s w (Instr.extract a i) v := by
  unfold vextract at h
  split at h
  · simp only [VR] at hx
    obtain ⟨us, rfl, hvs⟩ := hx
    obtain ⟨u, hu, hr⟩ := hvs.get i h
    exact ⟨u, by simp [Instr.extract, hu], hr⟩
  · cases h

def vnil (x : V) : Option V :=
  match x with
  | .optr r o => some (.optr r o)
  | .eptr c o => some (.eptr c o)
  | .iface t v => some (.iface t v)
  | .func f c => some (.func f c)
  | _ => none

def vmakeIface (P : Program) (t : TypeId) (x : V) : Option V :=
  match P.underlying t with
  | some (.interface _) => none
  | some _ => some (.iface t x)
  | none => none
theorem vmakeIface_ok {t : TypeId} {x v : V} {a : Value} (hx : VR g s w x a) (h : vmakeIface P t x = some v) : POk P g s w (Instr.makeInterface t a) v := by
  unfold vmakeIface at h
  split at h
  · cases h
  · rename_i d hne hu
    injection h with h; subst h
    refine ⟨.iface t a, ?_, by simp only [VR]; exact ⟨a, rfl, hx⟩⟩
    simp only [Instr.makeInterface, Sem.run_bind, run_underlying hu, Result.andThen_ok]
    simp
  · cases h

def vtypeAssert (P : Program) (x : V) (xt at_ : TypeId) (ok : Bool) : Option V :=
  match P.underlying at_, x with
  | some (.interface _), _ => none
  | some _, .iface t v => if t = at_ then some (if ok then .tuple [v, .bool true] else v) else
      if ok then (zeroT P at_).map fun z => .tuple [z, .bool false] else none
  | some _, .nili => if ok then (zeroT P at_).map fun z => .tuple [z, .bool false] else none
  | _, _ => none

theorem vtypeAssert_ok {x v : V} {a : Value} {xt at_ : TypeId} {ok : Bool} (hx : VR g s w x a) (h : vtypeAssert P x xt at_ ok = some v) : POk P g s w (Instr.typeAssert a xt at_ ok) v := by
  unfold vtypeAssert at h
  split at h
  · cases h
  · rename_i d t y hne hu
    simp only [VR] at hx
    obtain ⟨u, rfl, hy⟩ := hx
    split at h
    · rename_i e
      subst e
      injection h with h; subst h
      cases ok with
      | true =>
        refine ⟨.tuple #[u, .bool true], ?_, by simp only [if_true, VR]; exact ⟨[u, .bool true], rfl, by simp only [VRs, VR]; exact ⟨u, _, rfl, hy, _, _, rfl, rfl, rfl⟩⟩⟩
        simp [Instr.typeAssert, Sem.run_bind, run_underlying hu, Result.andThen_ok]
      | false =>
        refine ⟨u, ?_, by simpa using hy⟩
        simp [Instr.typeAssert, Sem.run_bind, run_underlying hu, Result.andThen_ok]
    · rename_i e
      split at h
      · rename_i hok
        rw [Option.map_eq_some_iff] at h
        obtain ⟨z, hz, rfl⟩ := h
        obtain ⟨zu, hzu, hzo⟩ := run_zeroT hz
        refine ⟨.tuple #[zu, .bool false], ?_, by simp only [VR]; exact ⟨[zu, .bool false], rfl, by simp only [VRs, VR]; exact ⟨zu, _, rfl, ofVal_ok hzo, _, _, rfl, rfl, rfl⟩⟩⟩
        simp [Instr.typeAssert, Sem.run_bind, run_underlying hu, Result.andThen_ok, e, hok, hzu]
      · cases h
  · rename_i d hne hu
    simp only [VR] at hx
    subst hx
    split at h
    · rename_i hok
      rw [Option.map_eq_some_iff] at h
      obtain ⟨z, hz, rfl⟩ := h
      obtain ⟨zu, hzu, hzo⟩ := run_zeroT hz
      refine ⟨.tuple #[zu, .bool false], ?_, by simp only [VR]; exact ⟨[zu, .bool false], rfl, by simp only [VRs, VR]; exact ⟨zu, _, rfl, ofVal_ok hzo, _, _, rfl, rfl, rfl⟩⟩⟩
      simp [Instr.typeAssert, Sem.run_bind, run_underlying hu, Result.andThen_ok, hok, hzu]
    · cases h
  · cases h

def vlen (P : Program) (t : TypeId) (x : V) : Option V :=
  match P.underlying t, x with
  | some .string, .str l => some (.int .i64 l.length)
  | some (.slice _), .nils => some (.int .i64 0)
  | some (.slice _), .slice _ _ _ n => some (.int .i64 n)
  | some (.slice _), .hslice _ _ _ n => some (.int .i64 n)
  | some (.array n _), _ => some (.int .i64 n)
  | some (.map _ _), .nilm => some (.int .i64 0)
  | _, _ => none
theorem vlen_ok {t : TypeId} {x v : V} {a : Value} (hx : VR g s w x a) (h : vlen P t x = some v) (ty : TypeId) (ts : Array TypeId) (hts : ts[0]? = some t) (ar : Array Value) (has : ar[0]? = some a) : POk P g s w (Builtin.len_ ts ty ar) v := by
  unfold vlen at h
  split at h <;> (try cases h)
  · rename_i hu; simp only [VR] at hx; subst hx
    exact ⟨_, by simp [Builtin.len_, hts, has, run_underlying hu, size_mk]; rfl, by simp [VR, goInt]⟩
  · rename_i hu; simp only [VR] at hx; subst hx
    exact ⟨_, by simp [Builtin.len_, hts, has, run_underlying hu]; rfl, by simp [VR, goInt]⟩
  · rename_i hu; simp only [VR] at hx
    obtain ⟨ad, cap, us, rfl, _⟩ := hx
    exact ⟨_, by simp [Builtin.len_, hts, has, run_underlying hu]; rfl, by simp [VR, goInt]⟩
  · rename_i hu; simp only [VR] at hx
    obtain ⟨_, cap, rfl, _⟩ := hx
    exact ⟨_, by simp [Builtin.len_, hts, has, run_underlying hu]; rfl, by simp [VR, goInt]⟩
  · rename_i hu
    exact ⟨_, by simp [Builtin.len_, hts, has, run_underlying hu]; rfl, by simp [VR, goInt]⟩
  · rename_i hu; simp only [VR] at hx; subst hx
    exact ⟨_, by simp [Builtin.len_, hts, has, run_underlying hu]; rfl, by simp [VR, goInt]⟩

def vmm (mx : Bool) : V → V → Option V
  | .int k x, .int _ y => some (.int k (if mx then (if y > x then y else x) else (if y < x then y else x)))
  | _, _ => none
def mm (mx : Bool) (x y : Int) : Int := if mx then (if y > x then y else x) else (if y < x then y else x)
def vmm4 (mx : Bool) : V → V → V → V → Option V
  | .int k x, .int _ y, .int _ z, .int _ u => some (.int k (mm mx (mm mx (mm mx x y) z) u))
  | _, _, _, _ => none
end
end Go.Proofs.Ytmcadfejkcpblaa.Q
