/-
  DERIVED. GIVEN WITH THE SEED: THE CARDS: each row of YtnegdinonfjdfaaGreatDoorRows.lean that lists a variable, with what it lists TIED to the program's text (the seventh form; the later family's looks); each row that meets fmt, with fmt's text TOLD by the authors' own Lean function (tested against real Go, not proved from fmt's source: count such statements apart). THE CARD IS WHAT COUNTS. Prove the row's statement (the work); the ties are given (YtnegdinonfjdfaaGreatDoorTie.lean); close each card by the builder's one call (the guide's Derived/Test/ToyasCard.lean, 'card_holds'). Laid BY PROGRAM, IN A SANDBOX (cutbox-door.mjs). By AI agents, Wed Nov 11 2026. No macro, syntax, notation, axiom, sorry.
-/
import Derived.Test.YtnegdinonfjdfaaGreatDoorRows
import GoSem.ClaimSeven
namespace Go.Proofs.YtnegdinonfjdfaaGreatDoor
namespace Rows

/-- THE TIED CARD OF 'quernlaw05.SnapDoes'. -/
def snapDoesCard : Claim7 := { stood := { row := snapDoesRow, standIns := [], harness := (true, "3f1fac90db031b5912372bb92c0e59b7f2566eb172f5fa0a3214835f16b36140"), looks := true }, kinds := [], alts := [], laidByText := true, laidKinds := [.data, .data, .data, .data, .sentinel, .sentinel], laidTests := true, laidLooks := .later }
def SnapDoesCardSaid : Prop := Claim7.holds Tryz.pinned (.plain (OpenSpec.ofChange snapDoesSpec)) snapDoesCard

/-- THE TIED CARD OF 'quernlaw04.WalDoes'. -/
def walDoesCard : Claim7 := { stood := { row := walDoesRow, standIns := [], harness := (true, "3f1fac90db031b5912372bb92c0e59b7f2566eb172f5fa0a3214835f16b36140"), looks := true }, kinds := [], alts := [], laidByText := true, laidKinds := [.data, .data, .data, .data, .sentinel, .sentinel], laidTests := true, laidLooks := .later }
def WalDoesCardSaid : Prop := Claim7.holds Tryz.pinned (.plain (OpenSpec.ofChange walDoesSpec)) walDoesCard

/-- THE SECOND FORM's CARD OF 'quernlaw05.SnapDoes'. -/
def snapDoesUptoCard : Claim7 := { stood := { row := snapDoesUptoRow, standIns := [], harness := (true, "3f1fac90db031b5912372bb92c0e59b7f2566eb172f5fa0a3214835f16b36140"), looks := true }, kinds := [], alts := [], laidByText := true, laidKinds := [.data, .data, .data, .data, .sentinel, .sentinel], laidTests := true, laidLooks := .later }
def SnapDoesUptoCardSaid : Prop := Claim7.holds Tryz.pinned (.plain (OpenSpec.upto snapDoesSpec)) snapDoesUptoCard

/-- THE SECOND FORM's CARD OF 'quernlaw04.WalDoes'. -/
def walDoesUptoCard : Claim7 := { stood := { row := walDoesUptoRow, standIns := [], harness := (true, "3f1fac90db031b5912372bb92c0e59b7f2566eb172f5fa0a3214835f16b36140"), looks := true }, kinds := [], alts := [], laidByText := true, laidKinds := [.data, .data, .data, .data, .sentinel, .sentinel], laidTests := true, laidLooks := .later }
def WalDoesUptoCardSaid : Prop := Claim7.holds Tryz.pinned (.plain (OpenSpec.upto walDoesSpec)) walDoesUptoCard
end Rows
end Go.Proofs.YtnegdinonfjdfaaGreatDoor
