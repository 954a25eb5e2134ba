/- What code leaves alone; rows of bytes that one owns. -/
import Derived.Test.YtmcadfejkcpblaaQo
set_option linter.unusedVariables false
set_option linter.unusedSimpArgs false
namespace Go.Proofs.Ytmcadfejkcpblaa.Q
open Go Go.RowKit

/-! ### The slots that code writes -/
def writesO : List COp → List Nat
  | [] => []
  | o :: l => match o.dst with
    | some d => d :: writesO l
    | none => writesO l

def writes : CC → List Nat
  | .region l => writesO l
  | .wregion l _ _ => writesO (l.map (·.2))
  | .hreg l => writesO (l.map (·.2))
  | .seq a b => writes a ++ writes b
  | .cond _ a b => writes a ++ writes b
  | .block _ c => writes c
  | .loop c => writes c
  | _ => []

section
variable {P : Program} {pr : Prim} {N : Nat}
theorem Eo_of {e : Nat → V} {σ : St} {Q : VX → (Nat → V) → St → Prop} {l l' : List COp} (h : l = l') : Eo P pr N l e σ Q = Eo P pr N l' e σ Q := by rw [h]
theorem Ev_of {e : Nat → V} {σ : St} {Q : VX → (Nat → V) → St → Prop} {l l' : CC} (h : l = l') : Ev P pr N l e σ Q = Ev P pr N l' e σ Q := by rw [h]
theorem oE {l l' : List COp} (h : l = l') (P : Program) (pr : Prim) (N : Nat) (e : Nat → V) (σ : St) (Q : VX → (Nat → V) → St → Prop) : Eo P pr N l e σ Q = Eo P pr N l' e σ Q := by rw [h]
theorem aI {a b : Prop} (h : a) (h2 : b) : a ∧ b := ⟨h, h2⟩
theorem vE {l l' : CC} (h : l = l') (P : Program) (pr : Prim) (N : Nat) (e : Nat → V) (σ : St) (Q : VX → (Nat → V) → St → Prop) : Ev P pr N l e σ Q = Ev P pr N l' e σ Q := by rw [h]

theorem writesO_cons {o : COp} {l : List COp} {k : Nat} (h : k ∉ writesO (o :: l)) : k ∉ writesO l ∧ ∀ (e : Nat → V) (v : V), upd e o.dst v k = e k := by
  unfold writesO at h
  split at h
  · rename_i d hd
    simp at h
    refine ⟨h.2, fun e v => ?_⟩
    rw [hd]
    simp [upd, h.1]
  · rename_i hd
    refine ⟨h, fun e v => ?_⟩
    rw [hd]
    rfl

theorem Eo.frame : ∀ {l : List COp} {e : Nat → V} {σ : St} {x : VX} {e' : Nat → V} {σ' : St}, (Eo P pr N l e σ fun x1 e1 σ1 => x1 = x ∧ e1 = e' ∧ σ1 = σ') → ∀ k, k ∉ writesO l → e' k = e k
  | [], e, σ, x, e', σ', h, k, hk => by
    obtain ⟨_, rfl, _⟩ := h
    rfl
  | o :: l, e, σ, x, e', σ', h, k, hk => by
    obtain ⟨hk1, hk2⟩ := writesO_cons hk
    rw [Eo] at h
    split at h
    · split at h
      · obtain ⟨fv, vs, h1, h2, r, σ1, h3, h4⟩ := h
        cases r with
        | ret v => rw [Eo.frame h4 k hk1, hk2]
        | pan v => rw [← h4.2.2.1]
      · obtain ⟨t, v, h1, h2, _, h4, _⟩ := h
        rw [← h4]
      · obtain ⟨v, σ1, h1, h2⟩ := h
        rw [Eo.frame h2 k hk1, hk2]
    · rw [Eo.frame h k hk1, hk2]

theorem EoW.frame {ws : List (Nat × COp × List Nat)} : ∀ {l : List (Bool × COp)} {la : Bool} {k : Nat} {acc : List (Nat × (Nat → V) × St)} {e : Nat → V} {σ : St} {x : VX} {e' : Nat → V} {σ' : St}, (EoW P pr N ws l la k acc e σ fun x1 e1 σ1 => x1 = x ∧ e1 = e' ∧ σ1 = σ') → ∀ k, k ∉ writesO (l.map (·.2)) → e' k = e k
  | [], la, k, acc, e, σ, x, e', σ', h, j, hj => by
    obtain ⟨_, _, rfl, _⟩ := h
    rfl
  | (b, o) :: l, la, k, acc, e, σ, x, e', σ', h, j, hj => by
    rw [EoW_cons] at h
    obtain ⟨x1, e1, σ1, hx, hE⟩ := Eo.split h
    simp only [List.map_cons] at hj
    have h1 : j ∉ writesO [o] := by
      unfold writesO at hj ⊢
      split at hj
      · simp at hj
        simp [writesO, hj.1]
      · simp [writesO]
    have h2 := Eo.frame hE j h1
    have h3 := (writesO_cons hj).1
    cases x1 with
    | normal => rw [EoW.frame hx j h3, h2]
    | pan v => rw [← hx.2.2.1, h2]
    | _ => exact hx.elim

theorem EoH.frame : ∀ {l : List (Bool × COp)} {e : Nat → V} {σ : St} {x : VX} {e' : Nat → V} {σ' : St}, (EoH P pr N l e σ fun x1 e1 σ1 => x1 = x ∧ e1 = e' ∧ σ1 = σ') → ∀ k, k ∉ writesO (l.map (·.2)) → e' k = e k
  | [], e, σ, x, e', σ', h, j, hj => by
    obtain ⟨_, rfl, _⟩ := h
    rfl
  | (b, o) :: l, e, σ, x, e', σ', h, j, hj => by
    rw [EoH] at h
    simp only [List.map_cons] at hj
    obtain ⟨h3, hk2⟩ := writesO_cons hj
    split at h
    · split at h
      · obtain ⟨v, σ1, h1, h2⟩ := h
        rw [EoH.frame h2 j h3, hk2]
      · rw [EoH.frame h j h3, hk2]
    · obtain ⟨x1, e1, σ1, hx, hE⟩ := Eo.split h
      have h1 : j ∉ writesO [o] := by
        unfold writesO at hj ⊢
        split at hj
        · simp at hj
          simp [writesO, hj.1]
        · simp [writesO]
      have h2 := Eo.frame hE j h1
      cases x1 with
      | normal => rw [EoH.frame hx j h3, h2]
      | pan v => rw [← hx.2.1, h2]
      | _ => exact hx.elim

theorem Big.frame {c : CC} {e : Nat → V} {σ : St} {x : VX} {e' : Nat → V} {σ' : St} (h : Big P pr N c e σ x e' σ') : ∀ k, k ∉ writes c → e' k = e k := by
  induction h with
  | skip => intro k _; rfl
  | exit => intro k _; rfl
  | ret => intro k _; rfl
  | region h => intro k hk; exact Eo.frame h k hk
  | wregion h => intro k hk; exact EoW.frame h k hk
  | hreg h => intro k hk; exact EoH.frame h k hk
  | rf hf hd ho => intro k _; rfl
  | seq h1 h2 ih1 ih2 =>
    intro k hk
    simp only [writes, List.mem_append, not_or] at hk
    rw [ih2 k hk.2, ih1 k hk.1]
  | seqX h1 hx ih1 =>
    intro k hk
    simp only [writes, List.mem_append, not_or] at hk
    exact ih1 k hk.1
  | cond hc h ih =>
    rename_i t _ _ _
    intro k hk
    simp only [writes, List.mem_append, not_or] at hk
    cases t
    · exact ih k hk.2
    · exact ih k hk.1
  | block h ih => exact ih
  | blockX h hx ih => exact ih
  | loop h1 h2 ih1 ih2 => intro k hk; rw [ih2 k hk, ih1 k hk]
  | loopX h1 hx ih1 => exact ih1

/-- Cut here: what was shown of the code, and that it leaves the other slots alone. -/
theorem Ev.cut {c : CC} {e : Nat → V} {σ : St} {Q Q1 : VX → (Nat → V) → St → Prop} (h : Ev P pr N c e σ Q1) (h2 : ∀ x e' σ', Q1 x e' σ' → (∀ k, (writes c).contains k = false → e' k = e k) → Q x e' σ') : Ev P pr N c e σ Q := by
  obtain ⟨x, e', σ', hb, hq⟩ := h
  exact ⟨x, e', σ', hb, h2 x e' σ' hq fun k hk => hb.frame k (by simpa using hk)⟩

/-- A loop; the other slots stay. -/
theorem Ev.loopF {ι : Type} {c : CC} {e0 : Nat → V} {σ0 : St} {Q : VX → (Nat → V) → St → Prop} (I : ι → (Nat → V) → St → Prop) (m : ι → Nat) (i : ι) (hi : I i e0 σ0)
    (h : ∀ i e σ, I i e σ → (∀ k, (writes c).contains k = false → e k = e0 k) → Ev P pr N c e σ (loopC I m i Q)) : Ev P pr N (.loop c) e0 σ0 Q := by
  refine Ev.loop' (fun i e σ => I i e σ ∧ ∀ k, (writes c).contains k = false → e k = e0 k) m i ⟨hi, fun _ _ => rfl⟩ ?_
  rintro i e σ ⟨hI, hf⟩
  refine Ev.cut (h i e σ hI hf) fun x e' σ' hx hw => ?_
  cases x with
  | normal =>
    obtain ⟨j, h1, h2⟩ := hx
    exact ⟨j, ⟨h1, fun k hk => by rw [hw k hk, hf k hk]⟩, h2⟩
  | _ => exact hx
end

/-! ### What later states keep -/
def Keep (σ σ' : St) : Prop := (∀ (r : Nat) (o : Ob), σ.objs[r]? = some o → σ'.objs[r]? = some o) ∧ σ.toks.length ≤ σ'.toks.length ∧ ∀ k, tokLive σ.toks k = true → tokLive σ'.toks k = true

theorem Keep.refl (σ : St) : Keep σ σ := ⟨fun _ _ h => h, Nat.le_refl _, fun _ h => h⟩
theorem Keep.trans {a b c : St} (h : Keep a b) (h2 : Keep b c) : Keep a c := ⟨fun r o ho => h2.1 r o (h.1 r o ho), Nat.le_trans h.2.1 h2.2.1, fun k hk => h2.2.2 k (h.2.2 k hk)⟩

/-- v is these bytes, and an append to it finds that nobody else has a part in what stands behind it; its token is not below n. -/
def OwnV (e : TypeId) (n : Nat) (σ : St) (v : V) (bs : List UInt8) : Prop :=
  (v = .nils ∧ bs = []) ∨ ∃ p, v = .slice p 1 (bs.map byteV) bs.length ∧ (p = .exact ∨ ∃ k, p = .tok k e ∧ tokLive σ.toks k = true ∧ n ≤ k)

theorem OwnV.bts {e n : Nat} {σ : St} {v : V} {bs : List UInt8} (h : OwnV e n σ v bs) : BtsV v bs := by
  rcases h with h | ⟨p, h, _⟩
  · exact .inl h
  · exact .inr ⟨p, h⟩

theorem OwnV.keep {e n : Nat} {σ σ' : St} {v : V} {bs : List UInt8} (h : OwnV e n σ v bs) (hk : Keep σ σ') : OwnV e n σ' v bs := by
  rcases h with h | ⟨p, h, h2⟩
  · exact .inl h
  · refine .inr ⟨p, h, ?_⟩
    rcases h2 with h2 | ⟨k, h2, h3, h4⟩
    · exact .inl h2
    · exact .inr ⟨k, h2, hk.2.2 k h3, h4⟩

theorem OwnV.low {e n m : Nat} {σ : St} {v : V} {bs : List UInt8} (h : OwnV e n σ v bs) (hm : m ≤ n) : OwnV e m σ v bs := by
  rcases h with h | ⟨p, h, h2⟩
  · exact .inl h
  · refine .inr ⟨p, h, ?_⟩
    rcases h2 with h2 | ⟨k, h2, h3, h4⟩
    · exact .inl h2
    · exact .inr ⟨k, h2, h3, Nat.le_trans hm h4⟩

theorem tokLive_new (toks : List Bool) : tokLive (toks ++ [true]) toks.length = true := by
  simp [tokLive]

theorem tokLive_app {toks : List Bool} {k : Nat} (h : tokLive toks k = true) : tokLive (toks ++ [true]) k = true := by
  have hl := tokLive_lt h
  unfold tokLive at *
  rw [List.getD_eq_getElem?_getD] at *
  rw [List.getElem?_append_left hl]
  exact h

theorem tokLive_kill_ne {toks : List Bool} {k j : Nat} (h : tokLive toks k = true) (hne : k ≠ j) : tokLive (killTok toks j) k = true := by
  unfold tokLive killTok at *
  rw [List.getD_eq_getElem?_getD] at *
  rw [List.getElem?_set_ne (Ne.symm hne)]
  exact h

section
variable {P : Program}

/-- What one must know of the program's types of bytes. -/
structure ByteT (P : Program) (t e : TypeId) : Prop where
  u : P.underlying t = some (.slice e)
  ue : P.underlying e = some (.int .u8)
  s : sizeT P e = some 1
  z : zeroT P e = some (.int .u8 0)
  b : (P.info? e).map (·.bytes) = some 1
  a : isAggT P e = some false
  c : P.cellsOf e = 1

theorem byteV_one (bs : List UInt8) : (bs.map byteV).all one = true := by
  rw [List.all_eq_true]
  intro v hv
  rw [List.mem_map] at hv
  obtain ⟨b, _, rfl⟩ := hv
  rfl

/-- An append to a row of one's own. -/
theorem OwnV.append {t t2 e : TypeId} (hT : ByteT P t e) {n : Nat} {σ0 σ : St} {v y : V} {bs ys : List UInt8} (h : OwnV e n σ v bs) (hn : n = σ0.toks.length) (hk : Keep σ0 σ) {e2 : TypeId} (ht2 : P.underlying t2 = some (.slice e2)) (hy : BtsV y ys) (hl : bs.length + ys.length ≤ 140737488355328) :
    ∃ v' σ', vappend P σ t t2 v y = some (v', σ') ∧ OwnV e n σ' v' (bs ++ ys) ∧ Keep σ0 σ' := by
  have hnews0 : vnews P t2 y 1 = some (ys.map byteV, ys.length) := by
    rcases hy with ⟨rfl, rfl⟩ | ⟨p, rfl⟩
    · simp [vnews, ht2]
    · simp [vnews, ht2]
  have hnews := fun (objs : List Ob) => vnewsO_of (objs := objs) hnews0
  have hnl : n ≤ σ.toks.length := by rw [hn]; exact hk.2.1
  have keep1 : Keep σ0 ⟨σ.objs, σ.toks ++ [true]⟩ := ⟨hk.1, by simp; have := hk.2.1; omega, fun k h => tokLive_app (hk.2.2 k h)⟩
  by_cases hm : ys.length = 0
  · have hys : ys = [] := List.length_eq_zero_iff.1 hm
    subst hys
    refine ⟨v, σ, ?_, by simpa using h, hk⟩
    rcases h with ⟨rfl, rfl⟩ | ⟨p, rfl, _⟩
    · simp [vappend, hT.u, hT.b, hT.s, hT.z, hnews, vcells]
    · simp [vappend, hT.u, hT.b, hT.s, hT.z, hnews, vcells]
  · rcases h with ⟨rfl, rfl⟩ | ⟨p, rfl, hp⟩
    · refine ⟨_, _, ?_, .inr ⟨.tok σ.toks.length e, rfl, .inr ⟨_, rfl, tokLive_new _, hnl⟩⟩, keep1⟩
      simp at hl
      simp [vappend, hT.u, hT.b, hT.s, hT.z, hnews, vcells, hm]
      omega
    · rcases hp with rfl | ⟨k, rfl, hlive, hnk⟩
      · refine ⟨_, _, ?_, .inr ⟨.tok σ.toks.length e, rfl, .inr ⟨_, rfl, tokLive_new _, hnl⟩⟩, keep1⟩
        simp [vappend, hT.u, hT.b, hT.s, hT.z, hnews, vcells, hm, hl]
      · have hkl : (killTok σ.toks k).length = σ.toks.length := by simp [killTok]
        refine ⟨.slice (.tok σ.toks.length e) 1 ((bs ++ ys).map byteV) (bs ++ ys).length, ⟨σ.objs, killTok σ.toks k ++ [true]⟩, ?_, .inr ⟨.tok σ.toks.length e, rfl, .inr ⟨_, rfl, by have := tokLive_new (killTok σ.toks k); rwa [hkl] at this, hnl⟩⟩, ?_⟩
        · have h1 := byteV_one ys
          simp [vappend, hT.u, hT.b, hT.s, hT.z, hnews, vcells, hm, hl, hlive, List.all_map] at h1 ⊢
          first | exact h1 | done
        · refine ⟨hk.1, by simp [hkl]; have := hk.2.1; omega, fun j hj => ?_⟩
          refine tokLive_app (tokLive_kill_ne (hk.2.2 j hj) ?_)
          have := tokLive_lt hj
          omega

/-- The same; and no object is another. -/
theorem OwnV.append' {t t2 e : TypeId} (hT : ByteT P t e) {n : Nat} {σ0 σ : St} {v y : V} {bs ys : List UInt8} (h : OwnV e n σ v bs) (hn : n = σ0.toks.length) (hk : Keep σ0 σ) {e2 : TypeId} (ht2 : P.underlying t2 = some (.slice e2)) (hy : BtsV y ys) (hl : bs.length + ys.length ≤ 140737488355328) :
    ∃ v' σ', vappend P σ t t2 v y = some (v', σ') ∧ OwnV e n σ' v' (bs ++ ys) ∧ Keep σ0 σ' ∧ σ'.objs = σ.objs := by
  obtain ⟨v', σ', h1, h2, h3⟩ := h.append hT hn hk ht2 hy hl
  refine ⟨v', σ', h1, h2, h3, ?_⟩
  unfold vappend at h1
  repeat' (split at h1)
  all_goals first
    | (cases h1; done)
    | (injection h1 with h1; injection h1 with h4 h5; rw [← h5])

theorem build0 {t e : TypeId} (hT : ByteT P t e) : vbuildSlice P t 0 [] = some (.slice .exact 1 [] 0) := by
  simp [vbuildSlice, hT.u, hT.s, hT.z, vcells, vfill, zeroCellsV]

theorem build1 {t e : TypeId} (hT : ByteT P t e) {k : IntKind} {n : Int} : vbuildSlice P t 1 [(0, .int k n)] = some (.slice .exact 1 [.int k n] 1) := by
  simp [vbuildSlice, hT.u, hT.s, hT.z, vcells, vfill, zeroCellsV, setAll]

theorem buildByte {t e : TypeId} (hT : ByteT P t e) {n : Nat} (h1 : n < 256) : vbuildSlice P t 1 [(0, .int .u8 (n : Int))] = some (.slice .exact 1 [.int .u8 (n : Int)] 1) ∧ BtsV (.slice .exact 1 [.int .u8 (n : Int)] 1) [UInt8.ofNat n] := by
  refine ⟨build1 hT, .inr ⟨.exact, ?_⟩⟩
  have : (UInt8.ofNat n).toNat = n := by rw [UInt8.toNat_ofNat']; omega
  simp [byteV, this]

/-- make([]byte, 0, c). -/
theorem make0 {t e : TypeId} (hT : ByteT P t e) {σ : St} {c : Int} (h0 : 0 ≤ c) (h1 : c ≤ 140737488355328) : vmakeSlice P σ t (.int .i64 0) (.int .i64 c) = some (.slice (.tok σ.toks.length e) 1 [] 0, ⟨σ.objs, σ.toks ++ [true]⟩) := by
  simp [vmakeSlice, hT.u, hT.b, hT.s, hT.z, vcells, zeroCellsV]
  omega

/-- What one must know of the program's types of numbers. -/
structure IntT (P : Program) (t e : TypeId) : Prop where
  u : P.underlying t = some (.slice e)
  ue : P.underlying e = some (.int .i64)
  s : sizeT P e = some 1
  z : zeroT P e = some (.int .i64 0)
  b : (P.info? e).map (·.bytes) = some 8
  a : isAggT P e = some false
  c : P.cellsOf e = 1

theorem IntsV.len {v : V} {xs : List Int} (h : IntsV v xs) {t e : TypeId} (hT : IntT P t e) : vlen P t v = some (.int .i64 xs.length) := by
  rcases h.1 with ⟨rfl, rfl⟩ | ⟨p, rfl⟩ <;> simp [vlen, hT.u]

theorem IntsV.addr {v : V} {xs : List Int} (h : IntsV v xs) {t e : TypeId} (hT : IntT P t e) {k : IntKind} {n : Int} (h0 : 0 ≤ n) (h1 : n < xs.length) : vindexAddr P t v (.int k n) = some (.eptr (xs.map i64V) n.toNat) := by
  rcases h.1 with ⟨rfl, rfl⟩ | ⟨p, rfl⟩
  · simp at h1; omega
  · cases xs with
    | nil => simp at h1; omega
    | cons b bs => simp [vindexAddr, hT.u, hT.s, h0] at h1 ⊢; omega

theorem IntsV.load {xs : List Int} {t e : TypeId} (hT : IntT P t e) {objs : List Ob} {n : Nat} (h : n < xs.length) : vload P objs e (.eptr (xs.map i64V) n) = some (.int .i64 (xs[n]'h)) := by
  simp [vload, vcellsAt, vpart, hT.a, h, i64V]

theorem buildInt {t e : TypeId} (hT : IntT P t e) {n : Int} (h : InI64 n) : vbuildSlice P t 1 [(0, .int .i64 n)] = some (.slice .exact 1 [.int .i64 n] 1) ∧ IntsV (.slice .exact 1 [.int .i64 n] 1) [n] := by
  refine ⟨by simp [vbuildSlice, hT.u, hT.s, hT.z, vcells, vfill, zeroCellsV, setAll], .inr ⟨.exact, rfl⟩, by simpa using h⟩

theorem vbounds_hi {len : Nat} {k : IntKind} {n : Int} (h0 : 0 ≤ n) (h1 : n ≤ len) : vbounds len none (some (.int k n)) none = some (0, n.toNat, none) := by
  simp [vbounds, vb, h0, h1]
theorem vbounds_lo {len : Nat} {k : IntKind} {n : Int} (h0 : 0 ≤ n) (h1 : n ≤ len) : vbounds len (some (.int k n)) none none = some (n.toNat, len, none) := by
  simp [vbounds, vb, h0, h1]
theorem vbounds_lohi {len : Nat} {k k' : IntKind} {n m : Int} (h0 : 0 ≤ n) (h1 : n ≤ m) (h2 : m ≤ len) : vbounds len (some (.int k n)) (some (.int k' m)) none = some (n.toNat, m.toNat, none) := by
  have h3 : 0 ≤ m := by omega
  have h4 : n ≤ (m.toNat : Int) := by omega
  simp only [vbounds, vb, h0, h2, h3, h4, and_self, if_true]

/-- A part of a row. -/
theorem BtsV.slice {v : V} {bs : List UInt8} (h : BtsV v bs) {t e : TypeId} (ht : P.underlying t = some (.slice e)) (hs : sizeT P e = some 1) {lo hi : Option V} {a b : Nat} (hb : vbounds bs.length lo hi none = some (a, b, none)) (hab : a ≤ b) (hbl : b ≤ bs.length) :
    ∃ v', vslice P t v lo hi none = some v' ∧ BtsV v' ((bs.drop a).take (b - a)) := by
  rcases h with ⟨rfl, rfl⟩ | ⟨p, rfl⟩
  · simp at hb
    exact ⟨.nils, by simp [vslice, ht, hs, hb], .inl ⟨rfl, by simp⟩⟩
  · obtain ⟨q, hq⟩ : ∃ q : Perm, q = if p = .exact ∧ b = bs.length then .exact else if a = 0 ∧ b = bs.length then p else .ro := ⟨_, rfl⟩
    refine ⟨.slice q 1 (((bs.map byteV).drop a).take (b - a)) (b - a), by simp only [vslice, ht, hs, if_true, hb, Nat.mul_one, hq], .inr ⟨q, ?_⟩⟩
    have : ((bs.drop a).take (b - a)).length = b - a := by rw [List.length_take, List.length_drop]; omega
    rw [this, ← List.map_drop, ← List.map_take]

/-- b[:len(b):len(b)]. -/
theorem BtsV.clip {v : V} {bs : List UInt8} (h : BtsV v bs) {t e : TypeId} (ht : P.underlying t = some (.slice e)) (hs : sizeT P e = some 1) {k k' : IntKind} {n : Nat} {σ : St} : ∃ v', vslice P t v none (some (.int k (bs.length : Int))) (some (.int k' (bs.length : Int))) = some v' ∧ OwnV e n σ v' bs := by
  rcases h with ⟨rfl, rfl⟩ | ⟨p, rfl⟩
  · exact ⟨.nils, by simp [vslice, ht, hs, vbounds, vb], .inl ⟨rfl, rfl⟩⟩
  · refine ⟨.slice .exact 1 (bs.map byteV) bs.length, ?_, .inr ⟨.exact, rfl, .inl rfl⟩⟩
    have hb : vbounds bs.length none (some (.int k (bs.length : Int))) (some (.int k' (bs.length : Int))) = some (0, bs.length, some bs.length) := by
      simp [vbounds, vb]
    simp only [vslice, ht, hs, hb, if_true, Nat.zero_mul, List.drop_zero, Nat.sub_zero, Nat.mul_one]
    rw [List.take_of_length_le (by simp)]

theorem eql_bool {t : TypeId} {xo yo : Operand} {a b : Bool} (ht : P.underlying t = some .bool) : vbin P .eql t xo yo (.bool a) (.bool b) = some (.bool (a == b)) := by
  simp [vbin, bothSame, guardFree, aggEq, ht]

theorem BtsV.nil : BtsV .nils [] := .inl ⟨rfl, rfl⟩
theorem ofVal_nil : ofVal (.slice none 0 0) = some .nils := rfl
end
end Go.Proofs.Ytmcadfejkcpblaa.Q
