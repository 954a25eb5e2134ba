/- The library's functions that are told by the shelf. -/
import Derived.Test.YtlimedbanpfkgaaQp
import Derived.Test.YtlimedbanpfkgaaChecked
import Derived.Shelf.Small.Strs
import Derived.Shelf.Strings.Search1
set_option linter.unusedVariables false
namespace Go.Proofs.Ytlimedbanpfkgaa.Q
open Go Go.RowKit Go.Proofs Go.Shelf

def ren106 : Ren where
  f := fun x => match x with
    | 106 => 58
    | 213 => 79
    | 265 => 93
    | n => n
  t := fun x => match x with
    | 9 => 9
    | 3 => 3
    | n => n
  g := fun x => x
theorem lays106 : Lays.n106 Try.prog ren106 where
  mixed := by kernel_rfl
  f106 := by kernel_rfl
  f213 := by kernel_rfl
  f265 := by kernel_rfl
  t3 := Try.underlying3
  a3 := Try.isAgg3
  z3 := Try.sizeOf3
  v3 := Try.zeroValue3
  t9 := Try.underlying9
  a9 := Try.isAgg9
  z9 := Try.sizeOf9
  v9 := Try.zeroValue9

def ren217 : Ren where
  f := fun x => match x with
    | 217 => 98
    | 266 => 104
    | n => n
  t := fun x => match x with
    | 9 => 9
    | 5 => 5
    | 3 => 3
    | n => n
  g := fun x => x
theorem lays217 : Lays.n217 Try.prog ren217 where
  mixed := by kernel_rfl
  f217 := by kernel_rfl
  f266 := by kernel_rfl
  t3 := Try.underlying3
  a3 := Try.isAgg3
  z3 := Try.sizeOf3
  v3 := Try.zeroValue3
  t5 := Try.underlying5
  a5 := Try.isAgg5
  z5 := Try.sizeOf5
  v5 := Try.zeroValue5
  t9 := Try.underlying9
  a9 := Try.isAgg9
  z9 := Try.sizeOf9
  v9 := Try.zeroValue9

def prims : Prim := ⟨fun f => f == 58 || f == 98, fun f vs σ => match vs with
  | [.str a, .str b] => if f = 58 then some (.int .i64 (Lib.compareBytes a b), σ) else none
  | [.str a, .int .u8 c] => if f = 98 then some (.int .i64 (Lib.indexByte a c.toNat.toUInt8), σ) else none
  | _ => none⟩

theorem prims_ok (base : Nat) (w0 : World) : PrimOk Try.prog prims base w0 := by
  intro f vs σ v σ' hf h
  simp only [prims] at h
  split at h
  · rename_i a b
    split at h
    · rename_i hf'
      subst hf'
      injection h with h
      injection h with h1 h2
      subst h1 h2
      refine ⟨fun g w us hR hV => ?_, ⟨_, Try.func58, by kernel_rfl, by kernel_rfl⟩⟩
      simp only [VRs, VR] at hV
      obtain ⟨u, us', rfl, rfl, u2, us2, rfl, rfl, rfl⟩ := hV
      refine (Any.strings_Compare lays106 ⟨a.toArray⟩ ⟨b.toArray⟩ w).mono fun e w' => ?_
      rintro ⟨rfl, rfl⟩
      exact ⟨g, Ext.refl _ _ _, hR, _, rfl, by simp [VR]⟩
    · cases h
  · rename_i a c
    split at h
    · rename_i hf'
      subst hf'
      injection h with h
      injection h with h1 h2
      subst h1 h2
      refine ⟨fun g w us hR hV => ?_, ⟨_, Try.func98, by kernel_rfl, by kernel_rfl⟩⟩
      simp only [VRs, VR] at hV
      obtain ⟨u, us', rfl, rfl, u2, us2, rfl, rfl, rfl⟩ := hV
      refine (Any.stringslite_IndexByte lays217 ⟨a.toArray⟩ c w).mono fun e w' => ?_
      rintro ⟨rfl, rfl⟩
      exact ⟨g, Ext.refl _ _ _, hR, _, rfl, by simp [VR]⟩
    · cases h
  · cases h
theorem Does_compare (a b : List UInt8) (σ : St) : Does Try.prog prims 58 [.str a, .str b] σ (.ret (.int .i64 (Lib.compareBytes a b))) σ := ⟨1, by simp [vcall, prims]⟩
theorem Does_indexByte (a : List UInt8) (c : Int) (σ : St) : Does Try.prog prims 98 [.str a, .int .u8 c] σ (.ret (.int .i64 (Lib.indexByte a c.toNat.toUInt8))) σ := ⟨1, by simp [vcall, prims]⟩
end Go.Proofs.Ytlimedbanpfkgaa.Q
