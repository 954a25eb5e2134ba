/- The library's functions that are told by the shelf, and two of strings.Builder. -/
import Derived.Test.YtodcajpeilgfgaaQmd
import Derived.Test.YtodcajpeilgfgaaChecked
import Derived.Shelf.Strings.Builder1
import Derived.Shelf.Strings.Search1
set_option linter.unusedVariables false
set_option linter.unusedSimpArgs false
namespace Go.Proofs.Ytodcajpeilgfgaa.Q
open Go Go.RowKit Go.Proofs Go.Shelf

def ren217 : Ren where
  f := fun x => match x with
    | 217 => 30
    | 266 => 35
    | n => n
  t := fun x => match x with
    | 3 => 3
    | 5 => 5
    | 9 => 9
    | n => n
  g := fun x => x
theorem lays217 : Lays.n217 Try.prog ren217 where
  mixed := by kernel_rfl
  f217 := by kernel_rfl
  f266 := by kernel_rfl
  t3 := Try.underlying3
  a3 := Try.isAgg3
  z3 := Try.sizeOf3
  v3 := Try.zeroValue3
  t5 := Try.underlying5
  a5 := Try.isAgg5
  z5 := Try.sizeOf5
  v5 := Try.zeroValue5
  t9 := Try.underlying9
  a9 := Try.isAgg9
  z9 := Try.sizeOf9
  v9 := Try.zeroValue9
def ren240 : Ren where
  f := fun x => match x with
    | 240 => 36
    | 276 => 37
    | n => n
  t := fun x => match x with
    | 0 => 0
    | 3 => 3
    | 4 => 4
    | 5 => 5
    | 9 => 9
    | 20 => 20
    | 37 => 29
    | 70 => 52
    | 72 => 54
    | 127 => 60
    | 164 => 61
    | n => n
  g := fun x => x
theorem lays240 : Lays.n240 Try.prog ren240 where
  mixed := by kernel_rfl
  f240 := by kernel_rfl
  f276 := by kernel_rfl
  t0 := Try.underlying0
  a0 := Try.isAgg0
  z0 := Try.sizeOf0
  v0 := Try.zeroValue0
  t4 := Try.underlying4
  a4 := Try.isAgg4
  z4 := Try.sizeOf4
  v4 := Try.zeroValue4
  t9 := Try.underlying9
  a9 := Try.isAgg9
  z9 := Try.sizeOf9
  v9 := Try.zeroValue9
  t20 := Try.underlying20
  a20 := Try.isAgg20
  z20 := Try.sizeOf20
  v20 := Try.zeroValue20
  t70 := Try.underlying52
  a70 := Try.isAgg52
  z70 := Try.sizeOf52
  v70 := Try.zeroValue52
  t72 := Try.underlying54
  a72 := Try.isAgg54
  z72 := Try.sizeOf54
  v72 := Try.zeroValue54
  t164 := Try.underlying61
  a164 := Try.isAgg61
  z164 := Try.sizeOf61
  v164 := Try.zeroValue61
def ren169 : Ren where
  f := fun x => match x with
    | 169 => 32
    | n => n
  t := fun x => match x with
    | 0 => 0
    | 3 => 3
    | 4 => 4
    | 5 => 5
    | 9 => 9
    | 20 => 20
    | 37 => 29
    | 70 => 52
    | 72 => 54
    | 127 => 60
    | 164 => 61
    | n => n
  g := fun x => x
theorem lays169 : Lays.n169 Try.prog ren169 where
  mixed := by kernel_rfl
  f169 := by kernel_rfl
  t0 := Try.underlying0
  a0 := Try.isAgg0
  z0 := Try.sizeOf0
  v0 := Try.zeroValue0
  t3 := Try.underlying3
  a3 := Try.isAgg3
  z3 := Try.sizeOf3
  v3 := Try.zeroValue3
  t9 := Try.underlying9
  a9 := Try.isAgg9
  z9 := Try.sizeOf9
  v9 := Try.zeroValue9
  t37 := Try.underlying29
  a37 := Try.isAgg29
  z37 := Try.sizeOf29
  v37 := Try.zeroValue29
  t70 := Try.underlying52
  a70 := Try.isAgg52
  z70 := Try.sizeOf52
  v70 := Try.zeroValue52
  t72 := Try.underlying54
  a72 := Try.isAgg54
  z72 := Try.sizeOf54
  v72 := Try.zeroValue54
  t127 := Try.underlying60
  a127 := Try.isAgg60
  z127 := Try.sizeOf60
  v127 := Try.zeroValue60
theorem x72 : Builder.X72 Try.prog ren240 where
  sizeBuilder := by kernel_rfl
  liesBuilder := by kernel_rfl
theorem xsb : Builder.Extra Try.prog ren169 where
  sizeBuilder := by kernel_rfl
  liesBuilder := by kernel_rfl
  t5 := Try.underlying5
  a5 := Try.isAgg5
  z5 := Try.sizeOf5
  v5 := Try.zeroValue5
  infoByte := by kernel_rfl
  cellsByte := by kernel_rfl
  sizeByte := by kernel_rfl
  neB5 := by decide

section
variable {P : Program} {ρ : Ren}
set_option maxHeartbeats 2000000
set_option maxRecDepth 100000
/-- String of a builder that holds nothing. -/
theorem string_none (L : Lays.n169 P ρ) (X : Builder.Extra P ρ) (b : Nat) (p : Value) (w : World) (hbk : w.heap[b]? = some (.cells #[p, .slice none 0 0] (ρ.t 72) (0, 0))) :
    Calls P (ρ.f 169) #[.pointer (some ⟨b, 0, none⟩)] w fun e w' => e = .returned (.string ⟨#[]⟩) ∧ w' = w.drew := by
  have hUS := Any.unsafeString_none L X
  have c1 : w.drew.cell? ⟨b, 1, none⟩ = some (.slice none 0 0) := by
    have : w.drew.heap[b]? = some (.cells #[p, .slice none 0 0] (ρ.t 72) (0, 0)) := hbk
    rw [Lib.cell_of_heap this]; rfl
  have hSD : (Builtin.unsafeSliceData_ #[(ρ.t 37)] (ρ.t 127) #[.slice none 0 0]).run P w.drew = .ok (.pointer none) w.drew := rfl
  have mixed := L.mixed
  have t72 := L.t72; have a72 := L.a72; have z72 := L.z72; have v72 := L.v72; have u72 := run_underlying L.t72
  have t70 := L.t70; have a70 := L.a70; have z70 := L.z70; have v70 := L.v70; have u70 := run_underlying L.t70
  have t37 := L.t37; have a37 := L.a37; have z37 := L.z37; have v37 := L.v37; have u37 := run_underlying L.t37
  have t127 := L.t127; have a127 := L.a127; have z127 := L.z127; have v127 := L.v127; have u127 := run_underlying L.t127
  have t3 := L.t3; have a3 := L.a3; have z3 := L.z3; have v3 := L.v3; have u3 := run_underlying L.t3
  have t9 := L.t9; have a9 := L.a9; have z9 := L.z9; have v9 := L.v9; have u9 := run_underlying L.t9
  have t5 := X.t5; have a5 := X.a5; have z5 := X.z5; have v5 := X.v5; have u5 := run_underlying X.t5
  go_enter L.f169, Body.n169_ntmps ρ
  go_wp2
  go_region_o
  all_goals (go_wp2; go_ret; exact ⟨rfl, rfl⟩)
/-- String of a builder whose bytes begin a block. -/
theorem string_some (L : Lays.n169 P ρ) (X : Builder.Extra P ρ) (b g cap : Nat) (p : Value) (cur : Array Value) (l : List UInt8) (w : World) (hbk : w.heap[b]? = some (.cells #[p, .slice (some ⟨g, 0, none⟩) l.length cap] (ρ.t 72) (0, 0))) (h0 : l ≠ [])
    (hg : w.heap[g]? = some (.cells cur (ρ.t 5) (0, 0))) (hnc : l.length ≤ cap) (hcm : cap ≤ maxLen) (hcs : l.length ≤ cur.size) (hcell : ∀ j (x : UInt8), l[j]? = some x → w.cell? ⟨g, j, none⟩ = some (.int .u8 x.toNat)) :
    Calls P (ρ.f 169) #[.pointer (some ⟨b, 0, none⟩)] w fun e w' => e = .returned (.string ⟨l.toArray⟩) ∧ w' = w.drew.freeze ⟨g, 0, none⟩ l.length := by
  have hl0 : l.length ≠ 0 := by simpa using h0
  have c1 : w.drew.cell? ⟨b, 1, none⟩ = some (.slice (some ⟨g, 0, none⟩) l.length cap) := by
    have : w.drew.heap[b]? = some (.cells #[p, .slice (some ⟨g, 0, none⟩) l.length cap] (ρ.t 72) (0, 0)) := hbk
    rw [Lib.cell_of_heap this]; rfl
  have hSD : (Builtin.unsafeSliceData_ #[(ρ.t 37)] (ρ.t 127) #[.slice (some ⟨g, 0, none⟩) l.length cap]).run P w.drew = .ok (.pointer (some ⟨g, 0, none⟩)) w.drew :=
    Lib.run_unsafeSliceData_row _ _ _ _ _ _ (by omega)
  have hUS : (Builtin.unsafeString_ #[(ρ.t 127), (ρ.t 3)] (ρ.t 9) #[.pointer (some ⟨g, 0, none⟩), .int .i64 l.length]).run P w.drew = .ok (.string ⟨l.toArray⟩) (w.drew.freeze ⟨g, 0, none⟩ l.length) := by
    refine Lib.run_unsafeString_row w.drew (ρ.t 127) (ρ.t 3) (ρ.t 9) (ρ.t 5) L.t127 X.cellsByte g cur.size (by have hg' : w.drew.heap[g]? = some (.cells cur (ρ.t 5) (0, 0)) := hg; simp [World.shape?, hg']) l h0 (by omega) (by unfold maxLen at hcm; omega) ?_
    intro j x hx
    rw [Addr.add_lit, Nat.zero_add]
    exact hcell j x hx
  have mixed := L.mixed
  have t72 := L.t72; have a72 := L.a72; have z72 := L.z72; have v72 := L.v72; have u72 := run_underlying L.t72
  have t70 := L.t70; have a70 := L.a70; have z70 := L.z70; have v70 := L.v70; have u70 := run_underlying L.t70
  have t37 := L.t37; have a37 := L.a37; have z37 := L.z37; have v37 := L.v37; have u37 := run_underlying L.t37
  have t127 := L.t127; have a127 := L.a127; have z127 := L.z127; have v127 := L.v127; have u127 := run_underlying L.t127
  have t3 := L.t3; have a3 := L.a3; have z3 := L.z3; have v3 := L.v3; have u3 := run_underlying L.t3
  have t9 := L.t9; have a9 := L.a9; have z9 := L.z9; have v9 := L.v9; have u9 := run_underlying L.t9
  have t5 := X.t5; have a5 := X.a5; have z5 := X.z5; have v5 := X.v5; have u5 := run_underlying X.t5
  go_enter L.f169, Body.n169_ntmps ρ
  go_wp2
  go_region_o
  all_goals (go_wp2; go_ret; exact ⟨rfl, rfl⟩)
end

/-! ### Bytes that become a text's -/
theorem heap_freeze_other (w : World) (a : Addr) (n k : Nat) (h : k ≠ a.block) : (w.freeze a n).heap[k]? = w.heap[k]? := by
  unfold World.freeze
  split
  · rfl
  · simp only [Array.getElem?_modify]
    rw [if_neg (fun e => h e.symm)]
theorem heap_freeze_same (w : World) (b n : Nat) {c : Array Value} {t : TypeId} {fr : Nat × Nat} (h : w.heap[b]? = some (.cells c t fr)) : ∃ fr', (w.freeze ⟨b, 0, none⟩ n).heap[b]? = some (.cells c t fr') := by
  unfold World.freeze
  split
  · exact ⟨fr, h⟩
  · simp only [Array.getElem?_modify, if_pos, h, Option.map_some]
    exact ⟨_, rfl⟩
theorem freeze_cell (w : World) (b n : Nat) {c : Array Value} {t : TypeId} {fr : Nat × Nat} (h : w.heap[b]? = some (.cells c t fr)) (k o : Nat) : (w.freeze ⟨b, 0, none⟩ n).cell? ⟨k, o, none⟩ = w.cell? ⟨k, o, none⟩ := by
  by_cases e : k = b
  · subst e
    obtain ⟨fr', h'⟩ := heap_freeze_same w k n h
    simp [World.cell?, h, h']
  · exact cell?_heap (heap_freeze_other w ⟨b, 0, none⟩ n k e) o
theorem freeze_size (w : World) (a : Addr) (n : Nat) : (w.freeze a n).heap.size = w.heap.size := by
  unfold World.freeze; split <;> simp
theorem Rel.freeze {base : Nat} {w0 : World} {g : Gh} {σ : St} {w : World} (h : Rel base w0 g σ w) {t : Nat} (ht : tokLive σ.toks t = true) {c : Array Value} {e : TypeId} (hb : w.heap[g.tk t]? = some (.cells c e (0, 0))) (n : Nat) :
    Ext g σ.toks w g (killTok σ.toks t) (w.freeze ⟨g.tk t, 0, none⟩ n) ∧ Rel base w0 g ⟨σ.objs, killTok σ.toks t⟩ (w.freeze ⟨g.tk t, 0, none⟩ n) := by
  have hE : Ext g σ.toks w g (killTok σ.toks t) (w.freeze ⟨g.tk t, 0, none⟩ n) := {
    n := Nat.le_refl _
    ρ := fun _ _ => rfl
    ob := fun _ _ => rfl
    L := fun _ => Nat.le_refl _
    cells := fun b o _ => freeze_cell w _ n hb b o
    shape := fun b c' ty fr hbb => by
      by_cases eb : b = g.tk t
      · subst eb
        obtain ⟨fr', h'⟩ := heap_freeze_same w _ n hbb
        refine ⟨c', fr', h', rfl, .inr fun u hu hl he => ?_⟩
        obtain ⟨l1, l2⟩ := tokLive_kill hl
        exact l2 (h.tinj u t l1 ht he)
      · exact ⟨c', fr, by rw [heap_freeze_other w _ n b eb]; exact hbb, rfl, .inl rfl⟩
    nt := by rw [length_kill]; exact Nat.le_refl _
    tok := fun u hu hl => ⟨(tokLive_kill hl).1, rfl, rfl⟩ }
  refine ⟨hE, ?_⟩
  have htok := h.tok t ht
  exact {
    below := Lib.below_freeze h.below htok.1 n
    bs := by rw [freeze_size]; exact h.bs
    n := h.n
    obj := fun r o hr => by
      by_cases hd : o = .dead
      · subst hd; trivial
      · have hal : aliveAt σ.objs r := ⟨o, hr, hd⟩
        have hne := htok.2.2 r hal
        exact (h.obj r o hr).ext hE (by rw [h.n]; exact alive_lt hal) (heap_freeze_other w ⟨g.tk t, 0, none⟩ n _ hne) rfl
    inj := h.inj
    tok := fun u hu => by
      obtain ⟨h1, h2, h3⟩ := h.tok u (tokLive_kill hu).1
      exact ⟨h1, by rw [freeze_size]; exact h2, h3⟩
    tinj := fun u u' hu hu' => h.tinj u u' (tokLive_kill hu).1 (tokLive_kill hu').1
    lim := fun b hb' => h.lim b (by rw [freeze_size] at hb'; exact hb') }

/-! ### The functions told by hand -/
def self? (p : Nat) : V → Bool
  | .nilp => true
  | .optr q 0 => decide (q = p)
  | _ => false
/-- A builder's text; its bytes are written no more. -/
def sbText (σ : St) : V → Option (V × St)
  | .nils => some (.str [], σ)
  | .slice (.tok t e) 1 cs len => match bytesOf' cs with
    | some l => if e = 5 ∧ l.length = len ∧ vbeqs cs (l.map byteV) = true ∧ l ≠ [] ∧ tokLive σ.toks t = true then some (.str l, ⟨σ.objs, killTok σ.toks t⟩) else none
    | none => none
  | _ => none
def prims : Prim := ⟨fun f => f == 30 || (f == 36 || f == 32), fun f vs σ => match vs with
  | [.str a, .int .u8 c] => if f = 30 then some (.int .i64 (Lib.indexByte a c.toNat.toUInt8), σ) else none
  | [.optr p 0] => match σ.objs[p]? with
    | some (.tcells t [a, v]) => if t = 54 ∧ self? p a = true then
        if f = 36 then some (.tuple [], ⟨σ.objs.set p (.tcells t [.optr p 0, v]), σ.toks⟩)
        else if f = 32 then sbText σ v else none
      else none
    | _ => none
  | _ => none⟩

theorem prims_ok (base : Nat) (w0 : World) : PrimOk Try.prog prims base w0 := by
  intro f vs σ v σ' hf h
  simp only [prims] at h
  split at h
  · rename_i a c
    split at h
    · rename_i hf'
      subst hf'
      injection h with h
      injection h with h1 h2
      subst h1 h2
      refine ⟨fun g w us hR hV => ?_, ⟨_, Try.func30, by kernel_rfl, by kernel_rfl⟩⟩
      simp only [VRs, VR] at hV
      obtain ⟨u, us', rfl, rfl, u2, us2, rfl, rfl, rfl⟩ := hV
      refine (Any.stringslite_IndexByte lays217 ⟨a.toArray⟩ c w).mono fun e w' => ?_
      rintro ⟨rfl, rfl⟩
      exact ⟨g, Ext.refl _ _ _, hR, _, rfl, by simp [VR]⟩
    · cases h
  · rename_i p
    split at h
    · rename_i t a y ho
      split at h
      · rename_i hc
        obtain ⟨ht, hs⟩ := hc
        subst ht
        split at h
        · rename_i hf'
          subst hf'
          injection h with h
          injection h with h1 h2
          subst h1 h2
          refine ⟨fun g w us hR hV => ?_, ⟨_, Try.func36, by kernel_rfl, by kernel_rfl⟩⟩
          simp only [VRs, VR] at hV
          obtain ⟨u, us', rfl, ⟨hpn, rfl⟩, rfl⟩ := hV
          obtain ⟨hb, hL, h0, us, hh, hus⟩ := hR.obj p _ ho
          have hus0 := hus
          simp only [VRs] at hus
          obtain ⟨u1, us1, rfl, hu1, u2, us2, rfl, hu2, rfl⟩ := hus
          have hvp : VR g σ.toks w (.optr p 0) (.pointer (some ⟨g.ρ p, 0, none⟩)) := by simp only [VR]; exact ⟨hpn, by rw [h0]⟩
          rw [h0]
          have done : ∀ {e : Ending} {w' : World}, e = .returned (.tuple #[]) ∧ w' = w.setCell ⟨g.ρ p, 0, none⟩ (.pointer (some ⟨g.ρ p, 0, none⟩)) → ∃ g', Ext g σ.toks w g' σ.toks w' ∧ Rel base w0 g' ⟨σ.objs.set p (.tcells 54 [.optr p 0, y]), σ.toks⟩ w' ∧ EOk g' σ.toks w' (.ret (.tuple [])) e := by
            rintro e w' ⟨rfl, rfl⟩
            have hr := hR.setT ho 0 hvp
            rw [h0] at hr
            exact ⟨g, Ext.setCell σ.toks _ _ _ hL, hr, _, rfl, by simp only [VR]; exact ⟨[], rfl, rfl⟩⟩
          have hcell : w.cell? ⟨g.ρ p, 0, none⟩ = some u1 := by simp [World.cell?, hh]
          cases a <;> simp only [self?, Bool.false_eq_true] at hs
          case nilp =>
            simp only [VR] at hu1
            subst hu1
            exact (Any.Builder_copyCheck_fresh lays240 x72 (g.ρ p) w hcell (by simp [World.shape?, hh]; rfl) (by simp [World.frozen?, hh])).mono fun e w' he => done he
          case optr q o =>
            cases o with
            | succ o => cases hs
            | zero =>
              simp only [decide_eq_true_eq] at hs
              subst hs
              simp only [VR] at hu1
              obtain ⟨_, rfl⟩ := hu1
              rw [h0] at hcell
              refine (Any.Builder_copyCheck_used lays240 x72 (g.ρ q) w hcell).mono fun e w' he => ?_
              obtain ⟨rfl, rfl⟩ := he
              have hsame : σ.objs.set q (.tcells 54 [.optr q 0, y]) = σ.objs := by
                apply List.ext_getElem?
                intro i
                rw [List.getElem?_set]
                split
                · rename_i e; subst e; rw [if_pos (List.getElem?_eq_some_iff.1 ho).1]; exact ho.symm
                · rfl
              rw [hsame]
              exact ⟨g, Ext.refl _ _ _, hR, _, rfl, by simp only [VR]; exact ⟨[], rfl, rfl⟩⟩
        · split at h
          · rename_i hf'
            subst hf'
            refine ⟨fun g w us hR hV => ?_, ⟨_, Try.func32, by kernel_rfl, by kernel_rfl⟩⟩
            simp only [VRs, VR] at hV
            obtain ⟨u, us', rfl, ⟨hpn, rfl⟩, rfl⟩ := hV
            obtain ⟨hb, hL, h0, us, hh, hus⟩ := hR.obj p _ ho
            simp only [VRs] at hus
            obtain ⟨u1, us1, rfl, hu1, u2, us2, rfl, hu2, rfl⟩ := hus
            rw [h0]
            unfold sbText at h
            split at h
            · injection h with h
              injection h with h1 h2
              subst h1 h2
              simp only [VR] at hu2
              subst hu2
              refine (string_none lays169 xsb (g.ρ p) u1 w hh).mono fun e w' he => ?_
              obtain ⟨rfl, rfl⟩ := he
              exact ⟨g, Ext.drew _ _ _, hR.drew, _, rfl, by simp [VR]⟩
            · rename_i t ty cs len
              split at h
              · rename_i l hl
                split at h
                · rename_i hc
                  obtain ⟨hte, hll, hcs, hne, hlive⟩ := hc
                  subst hte hll
                  have hcs := vbeqs_ok _ _ hcs
                  subst hcs
                  injection h with h
                  injection h with h1 h2
                  subst h1 h2
                  simp only [VR] at hu2
                  obtain ⟨ad, cap, vs, rfl, hlen, hle, hmx, hrow, hvs, hperm⟩ := hu2
                  obtain ⟨hpt, hpl⟩ := hperm
                  obtain ⟨rfl, hL2, cur, hcur, hsz⟩ := hpl hlive
                  have hcell : ∀ j (x : UInt8), l[j]? = some x → w.cell? ⟨g.tk t, j, none⟩ = some (.int .u8 x.toNat) := by
                    intro j x hx
                    obtain ⟨u, hu, hru⟩ := hvs.get j (v := byteV x) (by rw [List.getElem?_map, hx]; rfl)
                    simp only [byteV, VR] at hru
                    have := hrow.cell j u hu
                    rw [Addr.add_lit, Nat.zero_add] at this
                    rw [this, hru]
                  refine (string_some lays169 xsb (g.ρ p) (g.tk t) cap u1 cur l w hh hne hcur hle hmx (by omega) hcell).mono fun e w' he => ?_
                  obtain ⟨rfl, rfl⟩ := he
                  obtain ⟨hE2, hR2⟩ := Rel.freeze hR.drew hlive (w := w.drew) hcur l.length
                  exact ⟨g, (Ext.drew _ _ _).trans hE2, hR2, _, rfl, by simp [VR]⟩
                · cases h
              · cases h
            · cases h
          · cases h
      · cases h
    · cases h
  · cases h
theorem Does_copyCheck {σ : St} {p : Nat} {a v : V} (h : σ.objs[p]? = some (.tcells 54 [a, v])) (hs : self? p a = true) : Does Try.prog prims 36 [.optr p 0] σ (.ret (.tuple [])) ⟨σ.objs.set p (.tcells 54 [.optr p 0, v]), σ.toks⟩ := ⟨1, by simp [vcall, prims, h, hs]⟩
theorem Does_String {σ σ' : St} {p : Nat} {a v r : V} (h : σ.objs[p]? = some (.tcells 54 [a, v])) (hs : self? p a = true) (ht : sbText σ v = some (r, σ')) : Does Try.prog prims 32 [.optr p 0] σ (.ret r) σ' := ⟨1, by simp [vcall, prims, h, hs, ht]⟩
theorem Does_indexByte (a : List UInt8) (c : Int) (σ : St) : Does Try.prog prims 30 [.str a, .int .u8 c] σ (.ret (.int .i64 (Lib.indexByte a c.toNat.toUInt8))) σ := ⟨1, by simp [vcall, prims]⟩
end Go.Proofs.Ytodcajpeilgfgaa.Q
