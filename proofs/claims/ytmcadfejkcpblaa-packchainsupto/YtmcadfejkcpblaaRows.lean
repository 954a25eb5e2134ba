/-
  No cell of these rows narrows 'for every input' (looked for: loops, veiled, ifaces, maps, wideKeys, modest, calm, conditions, laid).
  DERIVED. THE GIVEN ROWS OF THIS SEAT. 8 by the template 'for every input the law returns true; each argument reads behind the call as it read before'; 0 by the template 'total and deterministic' (their statements: YtmcadfejkcpblaaTotals.lean).
  GIVEN WITH THE SEED: the statements are not yours to turn. If you find one false, say at which input.
  Laid BY PROGRAM, IN A SANDBOX (cutbox-rows.mjs): the forced cells as the released guide's own fill.sh prints them over the translation 5bd3d3b82272bcea… (all of the seat's roots in one cut). By AI agents, Wed Nov 11 2026. No macro, syntax, notation, axiom, sorry.
-/
import Derived.Test.YtmcadfejkcpblaaChecked
import GoSem.Claim
import GoSem.ClaimJoined
import GoSem.ClaimMapViews
import Derived.JoinedTies
import Derived.KernelRfl
namespace Go.Proofs.Ytmcadfejkcpblaa
/- THE CELL 'sum', in the pinned program and in every row, IS THE sha256 OF THE DUMP (.gsa) THAT YtmcadfejkcpblaaProg.lean LOADS. Nothing in Lean hashes anything: it is a label: what it is worth is what the hold of that sum in a sandbox is worth. -/
noncomputable def Try.pinned : Pinned := { name := "ytmcadfejkcpblaa", sum := "5bd3d3b82272bceaf9c9467c0daa64af58a9cf38a7083e1303951d83979643c7", checked := Try.checked }
namespace Rows
def none {H : Type} : Left H := { results := [], args := [] }

/-- 'quernlaw01.PackTakes': WHATEVER THE INPUT: true; the input reads as it did. -/
def packTakesSpec : ChangeSpec := { name := "packTakes", fn := fun _ => fun
  | [d] => { results := [.lit (.bool true)], args := [d] }
  | _ => none }
def packTakesRow : OpenClaim := { program := "ytmcadfejkcpblaa", sum := "5bd3d3b82272bceaf9c9467c0daa64af58a9cf38a7083e1303951d83979643c7", func := "quern/quernlaw01.PackTakes", spec := "packTakes", apart := false }
def PackTakesSaid : Prop := packTakesRow.holds Try.pinned (OpenSpec.ofChange packTakesSpec)

/-- ITS FALSE NEIGHBOUR: 'it returns false'. Refute it at one input. -/
def packTakesWrong : ChangeSpec := { name := "packTakes", fn := fun _ => fun
  | [d] => { results := [.lit (.bool false)], args := [d] }
  | _ => none }
def PackTakesWrongFalsely : Prop := packTakesRow.holds Try.pinned (OpenSpec.ofChange packTakesWrong)

/-- 'quernlaw01.PackRises': WHATEVER THE INPUT: true; the input reads as it did. -/
def packRisesSpec : ChangeSpec := { name := "packRises", fn := fun _ => fun
  | [d1, d2] => { results := [.lit (.bool true)], args := [d1, d2] }
  | _ => none }
def packRisesRow : OpenClaim := { program := "ytmcadfejkcpblaa", sum := "5bd3d3b82272bceaf9c9467c0daa64af58a9cf38a7083e1303951d83979643c7", func := "quern/quernlaw01.PackRises", spec := "packRises", apart := false }
def PackRisesSaid : Prop := packRisesRow.holds Try.pinned (OpenSpec.ofChange packRisesSpec)

/-- ITS FALSE NEIGHBOUR: 'it returns false'. Refute it at one input. -/
def packRisesWrong : ChangeSpec := { name := "packRises", fn := fun _ => fun
  | [d1, d2] => { results := [.lit (.bool false)], args := [d1, d2] }
  | _ => none }
def PackRisesWrongFalsely : Prop := packRisesRow.holds Try.pinned (OpenSpec.ofChange packRisesWrong)

/-- 'quernlaw01.PackPuts': WHATEVER THE INPUT: true; the input reads as it did. -/
def packPutsSpec : ChangeSpec := { name := "packPuts", fn := fun _ => fun
  | [d1, d2] => { results := [.lit (.bool true)], args := [d1, d2] }
  | _ => none }
def packPutsRow : OpenClaim := { program := "ytmcadfejkcpblaa", sum := "5bd3d3b82272bceaf9c9467c0daa64af58a9cf38a7083e1303951d83979643c7", func := "quern/quernlaw01.PackPuts", spec := "packPuts", apart := false }
def PackPutsSaid : Prop := packPutsRow.holds Try.pinned (OpenSpec.ofChange packPutsSpec)

/-- ITS FALSE NEIGHBOUR: 'it returns false'. Refute it at one input. -/
def packPutsWrong : ChangeSpec := { name := "packPuts", fn := fun _ => fun
  | [d1, d2] => { results := [.lit (.bool false)], args := [d1, d2] }
  | _ => none }
def PackPutsWrongFalsely : Prop := packPutsRow.holds Try.pinned (OpenSpec.ofChange packPutsWrong)

/-- 'quernlaw01.PackBack': WHATEVER THE INPUT: true; the input reads as it did. -/
def packBackSpec : ChangeSpec := { name := "packBack", fn := fun _ => fun
  | [d1, d2] => { results := [.lit (.bool true)], args := [d1, d2] }
  | _ => none }
def packBackRow : OpenClaim := { program := "ytmcadfejkcpblaa", sum := "5bd3d3b82272bceaf9c9467c0daa64af58a9cf38a7083e1303951d83979643c7", func := "quern/quernlaw01.PackBack", spec := "packBack", apart := false }
def PackBackSaid : Prop := packBackRow.holds Try.pinned (OpenSpec.ofChange packBackSpec)

/-- ITS FALSE NEIGHBOUR: 'it returns false'. Refute it at one input. -/
def packBackWrong : ChangeSpec := { name := "packBack", fn := fun _ => fun
  | [d1, d2] => { results := [.lit (.bool false)], args := [d1, d2] }
  | _ => none }
def PackBackWrongFalsely : Prop := packBackRow.holds Try.pinned (OpenSpec.ofChange packBackWrong)

/-- 'quernlaw01.PackNumbers': WHATEVER THE INPUT: true; the input reads as it did. -/
def packNumbersSpec : ChangeSpec := { name := "packNumbers", fn := fun _ => fun
  | [d1, d2] => { results := [.lit (.bool true)], args := [d1, d2] }
  | _ => none }
def packNumbersRow : OpenClaim := { program := "ytmcadfejkcpblaa", sum := "5bd3d3b82272bceaf9c9467c0daa64af58a9cf38a7083e1303951d83979643c7", func := "quern/quernlaw01.PackNumbers", spec := "packNumbers", unfollowed := true, recurses := true, apart := false }
def PackNumbersSaid : Prop := packNumbersRow.holds Try.pinned (OpenSpec.ofChange packNumbersSpec)

/-- ITS FALSE NEIGHBOUR: 'it returns false'. Refute it at one input. -/
def packNumbersWrong : ChangeSpec := { name := "packNumbers", fn := fun _ => fun
  | [d1, d2] => { results := [.lit (.bool false)], args := [d1, d2] }
  | _ => none }
def PackNumbersWrongFalsely : Prop := packNumbersRow.holds Try.pinned (OpenSpec.ofChange packNumbersWrong)

/-- 'quernlaw01.PackChains': WHATEVER THE INPUT: true; the input reads as it did. -/
def packChainsSpec : ChangeSpec := { name := "packChains", fn := fun _ => fun
  | [d1, d2] => { results := [.lit (.bool true)], args := [d1, d2] }
  | _ => none }
def packChainsRow : OpenClaim := { program := "ytmcadfejkcpblaa", sum := "5bd3d3b82272bceaf9c9467c0daa64af58a9cf38a7083e1303951d83979643c7", func := "quern/quernlaw01.PackChains", spec := "packChains", unfollowed := true, recurses := true, apart := false }
def PackChainsSaid : Prop := packChainsRow.holds Try.pinned (OpenSpec.ofChange packChainsSpec)

/-- ITS FALSE NEIGHBOUR: 'it returns false'. Refute it at one input. -/
def packChainsWrong : ChangeSpec := { name := "packChains", fn := fun _ => fun
  | [d1, d2] => { results := [.lit (.bool false)], args := [d1, d2] }
  | _ => none }
def PackChainsWrongFalsely : Prop := packChainsRow.holds Try.pinned (OpenSpec.ofChange packChainsWrong)

/-- 'quernlaw01.PackMemory': WHATEVER THE INPUT: true; the input reads as it did. -/
def packMemorySpec : ChangeSpec := { name := "packMemory", fn := fun _ => fun
  | [d1, d2] => { results := [.lit (.bool true)], args := [d1, d2] }
  | _ => none }
def packMemoryRow : OpenClaim := { program := "ytmcadfejkcpblaa", sum := "5bd3d3b82272bceaf9c9467c0daa64af58a9cf38a7083e1303951d83979643c7", func := "quern/quernlaw01.PackMemory", spec := "packMemory", apart := false }
def PackMemorySaid : Prop := packMemoryRow.holds Try.pinned (OpenSpec.ofChange packMemorySpec)

/-- ITS FALSE NEIGHBOUR: 'it returns false'. Refute it at one input. -/
def packMemoryWrong : ChangeSpec := { name := "packMemory", fn := fun _ => fun
  | [d1, d2] => { results := [.lit (.bool false)], args := [d1, d2] }
  | _ => none }
def PackMemoryWrongFalsely : Prop := packMemoryRow.holds Try.pinned (OpenSpec.ofChange packMemoryWrong)

/-- 'quernlaw01.PackReads': WHATEVER THE INPUT: true; the input reads as it did. -/
def packReadsSpec : ChangeSpec := { name := "packReads", fn := fun _ => fun
  | [d1, d2] => { results := [.lit (.bool true)], args := [d1, d2] }
  | _ => none }
def packReadsRow : OpenClaim := { program := "ytmcadfejkcpblaa", sum := "5bd3d3b82272bceaf9c9467c0daa64af58a9cf38a7083e1303951d83979643c7", func := "quern/quernlaw01.PackReads", spec := "packReads", apart := false }
def PackReadsSaid : Prop := packReadsRow.holds Try.pinned (OpenSpec.ofChange packReadsSpec)

/-- ITS FALSE NEIGHBOUR: 'it returns false'. Refute it at one input. -/
def packReadsWrong : ChangeSpec := { name := "packReads", fn := fun _ => fun
  | [d1, d2] => { results := [.lit (.bool false)], args := [d1, d2] }
  | _ => none }
def PackReadsWrongFalsely : Prop := packReadsRow.holds Try.pinned (OpenSpec.ofChange packReadsWrong)

/- THE SECOND FORM. 'bulk': how many values and letters a reading holds, each counted each time it is reached (what is shared counts as often as it is met; a slice's spare places count too). A statement '..UptoSaid' is the law's where the arguments, and the package variables that the reading takes, are together of bulk at most 1048576: NARROWER than '..Said'. Prove '..Said' where nothing that the law and all that it calls make is longer than what came in: it says more and counts as full. Else prove '..UptoSaid'. A law counts once. -/
mutual
def uptoBulk {H : Type} : DataW H → Nat
  | .lit (.string bytes) => bytes.length + 1
  | .lit _ => 1
  | .nil => 1
  | .ptr d => uptoBulk d + 1
  | .slice elems spare => uptoBulkAll elems + uptoBulkAll spare + 1
  | .agg parts => uptoBulkAll parts + 1
  | .iface _ d => uptoBulk d + 1
  | .map entries => uptoBulkEntries entries + 1
  | .held _ => 1
def uptoBulkAll {H : Type} : List (DataW H) → Nat
  | [] => 0
  | d :: r => uptoBulk d + uptoBulkAll r
def uptoBulkEntries {H : Type} : List (Lit × DataW H) → Nat
  | [] => 0
  | x :: r => uptoBulkEntry x + uptoBulkEntries r
def uptoBulkEntry {H : Type} : Lit × DataW H → Nat
  | (.string bytes, d) => bytes.length + uptoBulk d + 1
  | (_, d) => uptoBulk d + 1
 end
def uptoSmall : (H : Type) → List (DataW H) → Bool := fun _ ds => decide (uptoBulkAll ds ≤ 1048576)
def OpenSpec.upto (s : _root_.Go.ChangeSpec) : _root_.Go.OpenSpec := { _root_.Go.OpenSpec.ofChange s with cond := some uptoSmall }

/-- 'quernlaw01.PackTakes', WHERE WHAT IT READS IS OF BULK AT MOST 1048576: true; the input reads as it did. -/
def packTakesUptoRow : OpenClaim := { program := "ytmcadfejkcpblaa", sum := "5bd3d3b82272bceaf9c9467c0daa64af58a9cf38a7083e1303951d83979643c7", func := "quern/quernlaw01.PackTakes", spec := "packTakes", apart := false, narrowed := true }
def PackTakesUptoSaid : Prop := packTakesUptoRow.holds Try.pinned (OpenSpec.upto packTakesSpec)

/-- 'quernlaw01.PackRises', WHERE WHAT IT READS IS OF BULK AT MOST 1048576: true; the input reads as it did. -/
def packRisesUptoRow : OpenClaim := { program := "ytmcadfejkcpblaa", sum := "5bd3d3b82272bceaf9c9467c0daa64af58a9cf38a7083e1303951d83979643c7", func := "quern/quernlaw01.PackRises", spec := "packRises", apart := false, narrowed := true }
def PackRisesUptoSaid : Prop := packRisesUptoRow.holds Try.pinned (OpenSpec.upto packRisesSpec)

/-- 'quernlaw01.PackPuts', WHERE WHAT IT READS IS OF BULK AT MOST 1048576: true; the input reads as it did. -/
def packPutsUptoRow : OpenClaim := { program := "ytmcadfejkcpblaa", sum := "5bd3d3b82272bceaf9c9467c0daa64af58a9cf38a7083e1303951d83979643c7", func := "quern/quernlaw01.PackPuts", spec := "packPuts", apart := false, narrowed := true }
def PackPutsUptoSaid : Prop := packPutsUptoRow.holds Try.pinned (OpenSpec.upto packPutsSpec)

/-- 'quernlaw01.PackBack', WHERE WHAT IT READS IS OF BULK AT MOST 1048576: true; the input reads as it did. -/
def packBackUptoRow : OpenClaim := { program := "ytmcadfejkcpblaa", sum := "5bd3d3b82272bceaf9c9467c0daa64af58a9cf38a7083e1303951d83979643c7", func := "quern/quernlaw01.PackBack", spec := "packBack", apart := false, narrowed := true }
def PackBackUptoSaid : Prop := packBackUptoRow.holds Try.pinned (OpenSpec.upto packBackSpec)

/-- 'quernlaw01.PackNumbers', WHERE WHAT IT READS IS OF BULK AT MOST 1048576: true; the input reads as it did. -/
def packNumbersUptoRow : OpenClaim := { program := "ytmcadfejkcpblaa", sum := "5bd3d3b82272bceaf9c9467c0daa64af58a9cf38a7083e1303951d83979643c7", func := "quern/quernlaw01.PackNumbers", spec := "packNumbers", unfollowed := true, recurses := true, apart := false, narrowed := true }
def PackNumbersUptoSaid : Prop := packNumbersUptoRow.holds Try.pinned (OpenSpec.upto packNumbersSpec)

/-- 'quernlaw01.PackChains', WHERE WHAT IT READS IS OF BULK AT MOST 1048576: true; the input reads as it did. -/
def packChainsUptoRow : OpenClaim := { program := "ytmcadfejkcpblaa", sum := "5bd3d3b82272bceaf9c9467c0daa64af58a9cf38a7083e1303951d83979643c7", func := "quern/quernlaw01.PackChains", spec := "packChains", unfollowed := true, recurses := true, apart := false, narrowed := true }
def PackChainsUptoSaid : Prop := packChainsUptoRow.holds Try.pinned (OpenSpec.upto packChainsSpec)

/-- 'quernlaw01.PackMemory', WHERE WHAT IT READS IS OF BULK AT MOST 1048576: true; the input reads as it did. -/
def packMemoryUptoRow : OpenClaim := { program := "ytmcadfejkcpblaa", sum := "5bd3d3b82272bceaf9c9467c0daa64af58a9cf38a7083e1303951d83979643c7", func := "quern/quernlaw01.PackMemory", spec := "packMemory", apart := false, narrowed := true }
def PackMemoryUptoSaid : Prop := packMemoryUptoRow.holds Try.pinned (OpenSpec.upto packMemorySpec)

/-- 'quernlaw01.PackReads', WHERE WHAT IT READS IS OF BULK AT MOST 1048576: true; the input reads as it did. -/
def packReadsUptoRow : OpenClaim := { program := "ytmcadfejkcpblaa", sum := "5bd3d3b82272bceaf9c9467c0daa64af58a9cf38a7083e1303951d83979643c7", func := "quern/quernlaw01.PackReads", spec := "packReads", apart := false, narrowed := true }
def PackReadsUptoSaid : Prop := packReadsUptoRow.holds Try.pinned (OpenSpec.upto packReadsSpec)

end Rows
end Go.Proofs.Ytmcadfejkcpblaa
