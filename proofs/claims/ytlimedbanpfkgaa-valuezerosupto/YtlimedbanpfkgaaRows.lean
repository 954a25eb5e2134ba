/-
  NARROWER THAN 'FOR EVERY INPUT', by the rows' own cells (each row's printed sentence says how): ValueTypes: loops · ValueOrders: loops · ValueBytes: loops · ValueBack: loops · ValueZeros: loops · ValueKeeps: loops · ValueHolds: loops · ValueDoes: loops.
  DERIVED. THE GIVEN ROWS OF THIS SEAT. 8 by the template 'for every input the law returns true; each argument reads behind the call as it read before'; 0 by the template 'total and deterministic' (their statements: YtlimedbanpfkgaaTotals.lean).
  GIVEN WITH THE SEED: the statements are not yours to turn. If you find one false, say at which input.
  Laid BY PROGRAM, IN A SANDBOX (cutbox-rows.mjs): the forced cells as the released guide's own fill.sh prints them over the translation 9a02a322e63f18b7… (all of the seat's roots in one cut). By AI agents, Wed Nov 11 2026. No macro, syntax, notation, axiom, sorry.
-/
import Derived.Test.YtlimedbanpfkgaaChecked
import GoSem.Claim
import GoSem.ClaimJoined
import GoSem.ClaimMapViews
import Derived.JoinedTies
import Derived.KernelRfl
namespace Go.Proofs.Ytlimedbanpfkgaa
/- THE CELL 'sum', in the pinned program and in every row, IS THE sha256 OF THE DUMP (.gsa) THAT YtlimedbanpfkgaaProg.lean LOADS. Nothing in Lean hashes anything: it is a label: what it is worth is what the hold of that sum in a sandbox is worth. -/
noncomputable def Try.pinned : Pinned := { name := "ytlimedbanpfkgaa", sum := "9a02a322e63f18b7ba722065a039d823b664cfa5a25bd958dc1f5ac66043a05c", checked := Try.checked }
namespace Rows
def none {H : Type} : Left H := { results := [], args := [] }

/-- 'quernlaw09.ValueTypes': WHATEVER THE INPUT: true; the input reads as it did. -/
def valueTypesSpec : ChangeSpec := { name := "valueTypes", fn := fun _ => fun
  | [d1, d2] => { results := [.lit (.bool true)], args := [d1, d2] }
  | _ => none }
def valueTypesRow : OpenClaim := { program := "ytlimedbanpfkgaa", sum := "9a02a322e63f18b7ba722065a039d823b664cfa5a25bd958dc1f5ac66043a05c", func := "quern/quernlaw09.ValueTypes", spec := "valueTypes", inPlace := ["internal/bytealg.IndexByteString", "internal/bytealg.IndexString", "internal/bytealg.abigen_runtime_cmpstring"], unfollowed := true, recurses := true, named := ["internal/bytealg.MaxLen"], loops := true, apart := false }
def ValueTypesSaid : Prop := valueTypesRow.holds Try.pinned (OpenSpec.ofChange valueTypesSpec)

/-- ITS FALSE NEIGHBOUR: 'it returns false'. Refute it at one input. -/
def valueTypesWrong : ChangeSpec := { name := "valueTypes", fn := fun _ => fun
  | [d1, d2] => { results := [.lit (.bool false)], args := [d1, d2] }
  | _ => none }
def ValueTypesWrongFalsely : Prop := valueTypesRow.holds Try.pinned (OpenSpec.ofChange valueTypesWrong)

/-- 'quernlaw09.ValueOrders': WHATEVER THE INPUT: true; the input reads as it did. -/
def valueOrdersSpec : ChangeSpec := { name := "valueOrders", fn := fun _ => fun
  | [d1, d2, d3] => { results := [.lit (.bool true)], args := [d1, d2, d3] }
  | _ => none }
def valueOrdersRow : OpenClaim := { program := "ytlimedbanpfkgaa", sum := "9a02a322e63f18b7ba722065a039d823b664cfa5a25bd958dc1f5ac66043a05c", func := "quern/quernlaw09.ValueOrders", spec := "valueOrders", inPlace := ["internal/bytealg.IndexByteString", "internal/bytealg.IndexString", "internal/bytealg.abigen_runtime_cmpstring"], unfollowed := true, recurses := true, named := ["internal/bytealg.MaxLen"], loops := true, apart := false }
def ValueOrdersSaid : Prop := valueOrdersRow.holds Try.pinned (OpenSpec.ofChange valueOrdersSpec)

/-- ITS FALSE NEIGHBOUR: 'it returns false'. Refute it at one input. -/
def valueOrdersWrong : ChangeSpec := { name := "valueOrders", fn := fun _ => fun
  | [d1, d2, d3] => { results := [.lit (.bool false)], args := [d1, d2, d3] }
  | _ => none }
def ValueOrdersWrongFalsely : Prop := valueOrdersRow.holds Try.pinned (OpenSpec.ofChange valueOrdersWrong)

/-- 'quernlaw09.ValueBytes': WHATEVER THE INPUT: true; the input reads as it did. -/
def valueBytesSpec : ChangeSpec := { name := "valueBytes", fn := fun _ => fun
  | [d1, d2, d3] => { results := [.lit (.bool true)], args := [d1, d2, d3] }
  | _ => none }
def valueBytesRow : OpenClaim := { program := "ytlimedbanpfkgaa", sum := "9a02a322e63f18b7ba722065a039d823b664cfa5a25bd958dc1f5ac66043a05c", func := "quern/quernlaw09.ValueBytes", spec := "valueBytes", inPlace := ["internal/bytealg.IndexByteString", "internal/bytealg.IndexString", "internal/bytealg.abigen_runtime_cmpstring"], unfollowed := true, recurses := true, named := ["internal/bytealg.MaxLen"], loops := true, apart := false }
def ValueBytesSaid : Prop := valueBytesRow.holds Try.pinned (OpenSpec.ofChange valueBytesSpec)

/-- ITS FALSE NEIGHBOUR: 'it returns false'. Refute it at one input. -/
def valueBytesWrong : ChangeSpec := { name := "valueBytes", fn := fun _ => fun
  | [d1, d2, d3] => { results := [.lit (.bool false)], args := [d1, d2, d3] }
  | _ => none }
def ValueBytesWrongFalsely : Prop := valueBytesRow.holds Try.pinned (OpenSpec.ofChange valueBytesWrong)

/-- 'quernlaw09.ValueBack': WHATEVER THE INPUT: true; the input reads as it did. -/
def valueBackSpec : ChangeSpec := { name := "valueBack", fn := fun _ => fun
  | [d1, d2, d3] => { results := [.lit (.bool true)], args := [d1, d2, d3] }
  | _ => none }
def valueBackRow : OpenClaim := { program := "ytlimedbanpfkgaa", sum := "9a02a322e63f18b7ba722065a039d823b664cfa5a25bd958dc1f5ac66043a05c", func := "quern/quernlaw09.ValueBack", spec := "valueBack", inPlace := ["internal/bytealg.IndexByteString", "internal/bytealg.IndexString", "internal/bytealg.abigen_runtime_cmpstring"], unfollowed := true, recurses := true, named := ["internal/bytealg.MaxLen"], loops := true, apart := false }
def ValueBackSaid : Prop := valueBackRow.holds Try.pinned (OpenSpec.ofChange valueBackSpec)

/-- ITS FALSE NEIGHBOUR: 'it returns false'. Refute it at one input. -/
def valueBackWrong : ChangeSpec := { name := "valueBack", fn := fun _ => fun
  | [d1, d2, d3] => { results := [.lit (.bool false)], args := [d1, d2, d3] }
  | _ => none }
def ValueBackWrongFalsely : Prop := valueBackRow.holds Try.pinned (OpenSpec.ofChange valueBackWrong)

/-- 'quernlaw09.ValueZeros': WHATEVER THE INPUT: true; the input reads as it did. -/
def valueZerosSpec : ChangeSpec := { name := "valueZeros", fn := fun _ => fun
  | [d1, d2] => { results := [.lit (.bool true)], args := [d1, d2] }
  | _ => none }
def valueZerosRow : OpenClaim := { program := "ytlimedbanpfkgaa", sum := "9a02a322e63f18b7ba722065a039d823b664cfa5a25bd958dc1f5ac66043a05c", func := "quern/quernlaw09.ValueZeros", spec := "valueZeros", inPlace := ["internal/bytealg.IndexByteString", "internal/bytealg.IndexString", "internal/bytealg.abigen_runtime_cmpstring"], unfollowed := true, recurses := true, named := ["internal/bytealg.MaxLen"], loops := true, apart := false }
def ValueZerosSaid : Prop := valueZerosRow.holds Try.pinned (OpenSpec.ofChange valueZerosSpec)

/-- ITS FALSE NEIGHBOUR: 'it returns false'. Refute it at one input. -/
def valueZerosWrong : ChangeSpec := { name := "valueZeros", fn := fun _ => fun
  | [d1, d2] => { results := [.lit (.bool false)], args := [d1, d2] }
  | _ => none }
def ValueZerosWrongFalsely : Prop := valueZerosRow.holds Try.pinned (OpenSpec.ofChange valueZerosWrong)

/-- 'quernlaw09.ValueKeeps': WHATEVER THE INPUT: true; the input reads as it did. -/
def valueKeepsSpec : ChangeSpec := { name := "valueKeeps", fn := fun _ => fun
  | [d1, d2, d3] => { results := [.lit (.bool true)], args := [d1, d2, d3] }
  | _ => none }
def valueKeepsRow : OpenClaim := { program := "ytlimedbanpfkgaa", sum := "9a02a322e63f18b7ba722065a039d823b664cfa5a25bd958dc1f5ac66043a05c", func := "quern/quernlaw09.ValueKeeps", spec := "valueKeeps", inPlace := ["internal/bytealg.IndexByteString", "internal/bytealg.IndexString", "internal/bytealg.abigen_runtime_cmpstring", "slices.overlaps[quern/api.Value]"], unfollowed := true, recurses := true, named := ["internal/bytealg.MaxLen"], loops := true, apart := false }
def ValueKeepsSaid : Prop := valueKeepsRow.holds Try.pinned (OpenSpec.ofChange valueKeepsSpec)

/-- ITS FALSE NEIGHBOUR: 'it returns false'. Refute it at one input. -/
def valueKeepsWrong : ChangeSpec := { name := "valueKeeps", fn := fun _ => fun
  | [d1, d2, d3] => { results := [.lit (.bool false)], args := [d1, d2, d3] }
  | _ => none }
def ValueKeepsWrongFalsely : Prop := valueKeepsRow.holds Try.pinned (OpenSpec.ofChange valueKeepsWrong)

/-- 'quernlaw09.ValueHolds': WHATEVER THE INPUT: true; the input reads as it did. -/
def valueHoldsSpec : ChangeSpec := { name := "valueHolds", fn := fun _ => fun
  | [d1, d2, d3] => { results := [.lit (.bool true)], args := [d1, d2, d3] }
  | _ => none }
def valueHoldsRow : OpenClaim := { program := "ytlimedbanpfkgaa", sum := "9a02a322e63f18b7ba722065a039d823b664cfa5a25bd958dc1f5ac66043a05c", func := "quern/quernlaw09.ValueHolds", spec := "valueHolds", inPlace := ["internal/bytealg.IndexByteString", "internal/bytealg.IndexString", "internal/bytealg.abigen_runtime_cmpstring", "slices.overlaps[quern/api.Value]"], unfollowed := true, recurses := true, named := ["internal/bytealg.MaxLen"], loops := true, apart := false }
def ValueHoldsSaid : Prop := valueHoldsRow.holds Try.pinned (OpenSpec.ofChange valueHoldsSpec)

/-- ITS FALSE NEIGHBOUR: 'it returns false'. Refute it at one input. -/
def valueHoldsWrong : ChangeSpec := { name := "valueHolds", fn := fun _ => fun
  | [d1, d2, d3] => { results := [.lit (.bool false)], args := [d1, d2, d3] }
  | _ => none }
def ValueHoldsWrongFalsely : Prop := valueHoldsRow.holds Try.pinned (OpenSpec.ofChange valueHoldsWrong)

/-- 'quernlaw09.ValueDoes': WHATEVER THE INPUT: true; the input reads as it did. -/
def valueDoesSpec : ChangeSpec := { name := "valueDoes", fn := fun _ => fun
  | [d1, d2, d3] => { results := [.lit (.bool true)], args := [d1, d2, d3] }
  | _ => none }
def valueDoesRow : OpenClaim := { program := "ytlimedbanpfkgaa", sum := "9a02a322e63f18b7ba722065a039d823b664cfa5a25bd958dc1f5ac66043a05c", func := "quern/quernlaw09.ValueDoes", spec := "valueDoes", inPlace := ["internal/bytealg.IndexByteString", "internal/bytealg.IndexString", "internal/bytealg.abigen_runtime_cmpstring", "slices.overlaps[quern/api.Value]"], unfollowed := true, recurses := true, named := ["internal/bytealg.MaxLen"], loops := true, apart := false }
def ValueDoesSaid : Prop := valueDoesRow.holds Try.pinned (OpenSpec.ofChange valueDoesSpec)

/-- ITS FALSE NEIGHBOUR: 'it returns false'. Refute it at one input. -/
def valueDoesWrong : ChangeSpec := { name := "valueDoes", fn := fun _ => fun
  | [d1, d2, d3] => { results := [.lit (.bool false)], args := [d1, d2, d3] }
  | _ => none }
def ValueDoesWrongFalsely : Prop := valueDoesRow.holds Try.pinned (OpenSpec.ofChange valueDoesWrong)

/- THE SECOND FORM. 'bulk': how many values and letters a reading holds, each counted each time it is reached (what is shared counts as often as it is met; a slice's spare places count too). A statement '..UptoSaid' is the law's where the arguments, and the package variables that the reading takes, are together of bulk at most 1048576: NARROWER than '..Said'. Prove '..Said' where nothing that the law and all that it calls make is longer than what came in: it says more and counts as full. Else prove '..UptoSaid'. A law counts once. -/
mutual
def uptoBulk {H : Type} : DataW H → Nat
  | .lit (.string bytes) => bytes.length + 1
  | .lit _ => 1
  | .nil => 1
  | .ptr d => uptoBulk d + 1
  | .slice elems spare => uptoBulkAll elems + uptoBulkAll spare + 1
  | .agg parts => uptoBulkAll parts + 1
  | .iface _ d => uptoBulk d + 1
  | .map entries => uptoBulkEntries entries + 1
  | .held _ => 1
def uptoBulkAll {H : Type} : List (DataW H) → Nat
  | [] => 0
  | d :: r => uptoBulk d + uptoBulkAll r
def uptoBulkEntries {H : Type} : List (Lit × DataW H) → Nat
  | [] => 0
  | x :: r => uptoBulkEntry x + uptoBulkEntries r
def uptoBulkEntry {H : Type} : Lit × DataW H → Nat
  | (.string bytes, d) => bytes.length + uptoBulk d + 1
  | (_, d) => uptoBulk d + 1
 end
def uptoSmall : (H : Type) → List (DataW H) → Bool := fun _ ds => decide (uptoBulkAll ds ≤ 1048576)
def OpenSpec.upto (s : _root_.Go.ChangeSpec) : _root_.Go.OpenSpec := { _root_.Go.OpenSpec.ofChange s with cond := some uptoSmall }

/-- 'quernlaw09.ValueTypes', WHERE WHAT IT READS IS OF BULK AT MOST 1048576: true; the input reads as it did. -/
def valueTypesUptoRow : OpenClaim := { program := "ytlimedbanpfkgaa", sum := "9a02a322e63f18b7ba722065a039d823b664cfa5a25bd958dc1f5ac66043a05c", func := "quern/quernlaw09.ValueTypes", spec := "valueTypes", inPlace := ["internal/bytealg.IndexByteString", "internal/bytealg.IndexString", "internal/bytealg.abigen_runtime_cmpstring"], unfollowed := true, recurses := true, named := ["internal/bytealg.MaxLen"], loops := true, apart := false, narrowed := true }
def ValueTypesUptoSaid : Prop := valueTypesUptoRow.holds Try.pinned (OpenSpec.upto valueTypesSpec)

/-- 'quernlaw09.ValueOrders', WHERE WHAT IT READS IS OF BULK AT MOST 1048576: true; the input reads as it did. -/
def valueOrdersUptoRow : OpenClaim := { program := "ytlimedbanpfkgaa", sum := "9a02a322e63f18b7ba722065a039d823b664cfa5a25bd958dc1f5ac66043a05c", func := "quern/quernlaw09.ValueOrders", spec := "valueOrders", inPlace := ["internal/bytealg.IndexByteString", "internal/bytealg.IndexString", "internal/bytealg.abigen_runtime_cmpstring"], unfollowed := true, recurses := true, named := ["internal/bytealg.MaxLen"], loops := true, apart := false, narrowed := true }
def ValueOrdersUptoSaid : Prop := valueOrdersUptoRow.holds Try.pinned (OpenSpec.upto valueOrdersSpec)

/-- 'quernlaw09.ValueBytes', WHERE WHAT IT READS IS OF BULK AT MOST 1048576: true; the input reads as it did. -/
def valueBytesUptoRow : OpenClaim := { program := "ytlimedbanpfkgaa", sum := "9a02a322e63f18b7ba722065a039d823b664cfa5a25bd958dc1f5ac66043a05c", func := "quern/quernlaw09.ValueBytes", spec := "valueBytes", inPlace := ["internal/bytealg.IndexByteString", "internal/bytealg.IndexString", "internal/bytealg.abigen_runtime_cmpstring"], unfollowed := true, recurses := true, named := ["internal/bytealg.MaxLen"], loops := true, apart := false, narrowed := true }
def ValueBytesUptoSaid : Prop := valueBytesUptoRow.holds Try.pinned (OpenSpec.upto valueBytesSpec)

/-- 'quernlaw09.ValueBack', WHERE WHAT IT READS IS OF BULK AT MOST 1048576: true; the input reads as it did. -/
def valueBackUptoRow : OpenClaim := { program := "ytlimedbanpfkgaa", sum := "9a02a322e63f18b7ba722065a039d823b664cfa5a25bd958dc1f5ac66043a05c", func := "quern/quernlaw09.ValueBack", spec := "valueBack", inPlace := ["internal/bytealg.IndexByteString", "internal/bytealg.IndexString", "internal/bytealg.abigen_runtime_cmpstring"], unfollowed := true, recurses := true, named := ["internal/bytealg.MaxLen"], loops := true, apart := false, narrowed := true }
def ValueBackUptoSaid : Prop := valueBackUptoRow.holds Try.pinned (OpenSpec.upto valueBackSpec)

/-- 'quernlaw09.ValueZeros', WHERE WHAT IT READS IS OF BULK AT MOST 1048576: true; the input reads as it did. -/
def valueZerosUptoRow : OpenClaim := { program := "ytlimedbanpfkgaa", sum := "9a02a322e63f18b7ba722065a039d823b664cfa5a25bd958dc1f5ac66043a05c", func := "quern/quernlaw09.ValueZeros", spec := "valueZeros", inPlace := ["internal/bytealg.IndexByteString", "internal/bytealg.IndexString", "internal/bytealg.abigen_runtime_cmpstring"], unfollowed := true, recurses := true, named := ["internal/bytealg.MaxLen"], loops := true, apart := false, narrowed := true }
def ValueZerosUptoSaid : Prop := valueZerosUptoRow.holds Try.pinned (OpenSpec.upto valueZerosSpec)

/-- 'quernlaw09.ValueKeeps', WHERE WHAT IT READS IS OF BULK AT MOST 1048576: true; the input reads as it did. -/
def valueKeepsUptoRow : OpenClaim := { program := "ytlimedbanpfkgaa", sum := "9a02a322e63f18b7ba722065a039d823b664cfa5a25bd958dc1f5ac66043a05c", func := "quern/quernlaw09.ValueKeeps", spec := "valueKeeps", inPlace := ["internal/bytealg.IndexByteString", "internal/bytealg.IndexString", "internal/bytealg.abigen_runtime_cmpstring", "slices.overlaps[quern/api.Value]"], unfollowed := true, recurses := true, named := ["internal/bytealg.MaxLen"], loops := true, apart := false, narrowed := true }
def ValueKeepsUptoSaid : Prop := valueKeepsUptoRow.holds Try.pinned (OpenSpec.upto valueKeepsSpec)

/-- 'quernlaw09.ValueHolds', WHERE WHAT IT READS IS OF BULK AT MOST 1048576: true; the input reads as it did. -/
def valueHoldsUptoRow : OpenClaim := { program := "ytlimedbanpfkgaa", sum := "9a02a322e63f18b7ba722065a039d823b664cfa5a25bd958dc1f5ac66043a05c", func := "quern/quernlaw09.ValueHolds", spec := "valueHolds", inPlace := ["internal/bytealg.IndexByteString", "internal/bytealg.IndexString", "internal/bytealg.abigen_runtime_cmpstring", "slices.overlaps[quern/api.Value]"], unfollowed := true, recurses := true, named := ["internal/bytealg.MaxLen"], loops := true, apart := false, narrowed := true }
def ValueHoldsUptoSaid : Prop := valueHoldsUptoRow.holds Try.pinned (OpenSpec.upto valueHoldsSpec)

/-- 'quernlaw09.ValueDoes', WHERE WHAT IT READS IS OF BULK AT MOST 1048576: true; the input reads as it did. -/
def valueDoesUptoRow : OpenClaim := { program := "ytlimedbanpfkgaa", sum := "9a02a322e63f18b7ba722065a039d823b664cfa5a25bd958dc1f5ac66043a05c", func := "quern/quernlaw09.ValueDoes", spec := "valueDoes", inPlace := ["internal/bytealg.IndexByteString", "internal/bytealg.IndexString", "internal/bytealg.abigen_runtime_cmpstring", "slices.overlaps[quern/api.Value]"], unfollowed := true, recurses := true, named := ["internal/bytealg.MaxLen"], loops := true, apart := false, narrowed := true }
def ValueDoesUptoSaid : Prop := valueDoesUptoRow.holds Try.pinned (OpenSpec.upto valueDoesSpec)

end Rows
end Go.Proofs.Ytlimedbanpfkgaa
