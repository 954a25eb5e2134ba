/-
  DERIVED. GIVEN WITH THE SEED: THE CARDS: each row of YtnegdinonfjdfaaDoorRows.lean that lists a variable, with what it lists TIED to the program's text (the seventh form; the later family's looks); each row that meets fmt, with fmt's text TOLD by the authors' own Lean function (tested against real Go, not proved from fmt's source: count such statements apart). THE CARD IS WHAT COUNTS. Prove the row's statement (the work); the ties are given (YtnegdinonfjdfaaDoorTie.lean); close each card by the builder's one call (the guide's Derived/Test/ToyasCard.lean, 'card_holds'). Laid BY PROGRAM, IN A SANDBOX (cutbox-door.mjs). By AI agents, Wed Nov 11 2026. No macro, syntax, notation, axiom, sorry.
-/
import Derived.Test.YtnegdinonfjdfaaDoorRows
import GoSem.ClaimSeven
namespace Go.Proofs.YtnegdinonfjdfaaDoor
namespace Rows

/-- THE TIED CARD OF 'quernlaw05.SnapBytes'. -/
def snapBytesCard : Claim7 := { stood := { row := snapBytesRow, standIns := [], harness := (true, "e7a3832cbd4e8ec4b1fa8f5c364ee58fe241c9080d8dea89f5916362ddac42fe"), looks := true }, kinds := [], alts := [], laidByText := true, laidKinds := [.data, .data, .data, .data, .sentinel, .sentinel], laidTests := true, laidLooks := .later }
def SnapBytesCardSaid : Prop := Claim7.holds Tryd.pinned (.plain (OpenSpec.ofChange snapBytesSpec)) snapBytesCard

/-- THE TIED CARD OF 'quernlaw05.SnapBack'. -/
def snapBackCard : Claim7 := { stood := { row := snapBackRow, standIns := [], harness := (true, "e7a3832cbd4e8ec4b1fa8f5c364ee58fe241c9080d8dea89f5916362ddac42fe"), looks := true }, kinds := [], alts := [], laidByText := true, laidKinds := [.data, .data, .data, .data, .sentinel, .sentinel], laidTests := true, laidLooks := .later }
def SnapBackCardSaid : Prop := Claim7.holds Tryd.pinned (.plain (OpenSpec.ofChange snapBackSpec)) snapBackCard

/-- THE TIED CARD OF 'quernlaw05.SnapKeeps'. -/
def snapKeepsCard : Claim7 := { stood := { row := snapKeepsRow, standIns := [], harness := (true, "e7a3832cbd4e8ec4b1fa8f5c364ee58fe241c9080d8dea89f5916362ddac42fe"), looks := true }, kinds := [], alts := [], laidByText := true, laidKinds := [.data, .data, .data, .data, .sentinel, .sentinel], laidTests := true, laidLooks := .later }
def SnapKeepsCardSaid : Prop := Claim7.holds Tryd.pinned (.plain (OpenSpec.ofChange snapKeepsSpec)) snapKeepsCard

/-- THE TIED CARD OF 'quernlaw05.SnapLoses'. -/
def snapLosesCard : Claim7 := { stood := { row := snapLosesRow, standIns := [], harness := (true, "e7a3832cbd4e8ec4b1fa8f5c364ee58fe241c9080d8dea89f5916362ddac42fe"), looks := true }, kinds := [], alts := [], laidByText := true, laidKinds := [.data, .data, .data, .data, .sentinel, .sentinel], laidTests := true, laidLooks := .later }
def SnapLosesCardSaid : Prop := Claim7.holds Tryd.pinned (.plain (OpenSpec.ofChange snapLosesSpec)) snapLosesCard

/-- THE TIED CARD OF 'quernlaw04.WalFrames'. -/
def walFramesCard : Claim7 := { stood := { row := walFramesRow, standIns := [], harness := (true, "e7a3832cbd4e8ec4b1fa8f5c364ee58fe241c9080d8dea89f5916362ddac42fe"), looks := true }, kinds := [], alts := [], laidByText := true, laidKinds := [.data, .data, .data, .data, .sentinel, .sentinel], laidTests := true, laidLooks := .later }
def WalFramesCardSaid : Prop := Claim7.holds Tryd.pinned (.plain (OpenSpec.ofChange walFramesSpec)) walFramesCard

/-- THE TIED CARD OF 'quernlaw04.WalFull'. -/
def walFullCard : Claim7 := { stood := { row := walFullRow, standIns := [], harness := (true, "e7a3832cbd4e8ec4b1fa8f5c364ee58fe241c9080d8dea89f5916362ddac42fe"), looks := true }, kinds := [], alts := [], laidByText := true, laidKinds := [.data, .data, .data, .data, .sentinel, .sentinel], laidTests := true, laidLooks := .later }
def WalFullCardSaid : Prop := Claim7.holds Tryd.pinned (.plain (OpenSpec.ofChange walFullSpec)) walFullCard

/-- THE TIED CARD OF 'quernlaw04.WalLoses'. -/
def walLosesCard : Claim7 := { stood := { row := walLosesRow, standIns := [], harness := (true, "e7a3832cbd4e8ec4b1fa8f5c364ee58fe241c9080d8dea89f5916362ddac42fe"), looks := true }, kinds := [], alts := [], laidByText := true, laidKinds := [.data, .data, .data, .data, .sentinel, .sentinel], laidTests := true, laidLooks := .later }
def WalLosesCardSaid : Prop := Claim7.holds Tryd.pinned (.plain (OpenSpec.ofChange walLosesSpec)) walLosesCard

/-- THE TIED CARD OF 'quernlaw04.WalSegments'. -/
def walSegmentsCard : Claim7 := { stood := { row := walSegmentsRow, standIns := [], harness := (true, "e7a3832cbd4e8ec4b1fa8f5c364ee58fe241c9080d8dea89f5916362ddac42fe"), looks := true }, kinds := [], alts := [], laidByText := true, laidKinds := [.data, .data, .data, .data, .sentinel, .sentinel], laidTests := true, laidLooks := .later }
def WalSegmentsCardSaid : Prop := Claim7.holds Tryd.pinned (.plain (OpenSpec.ofChange walSegmentsSpec)) walSegmentsCard

/-- THE SECOND FORM's CARD OF 'quernlaw05.SnapBytes'. -/
def snapBytesUptoCard : Claim7 := { stood := { row := snapBytesUptoRow, standIns := [], harness := (true, "e7a3832cbd4e8ec4b1fa8f5c364ee58fe241c9080d8dea89f5916362ddac42fe"), looks := true }, kinds := [], alts := [], laidByText := true, laidKinds := [.data, .data, .data, .data, .sentinel, .sentinel], laidTests := true, laidLooks := .later }
def SnapBytesUptoCardSaid : Prop := Claim7.holds Tryd.pinned (.plain (OpenSpec.upto snapBytesSpec)) snapBytesUptoCard

/-- THE SECOND FORM's CARD OF 'quernlaw05.SnapBack'. -/
def snapBackUptoCard : Claim7 := { stood := { row := snapBackUptoRow, standIns := [], harness := (true, "e7a3832cbd4e8ec4b1fa8f5c364ee58fe241c9080d8dea89f5916362ddac42fe"), looks := true }, kinds := [], alts := [], laidByText := true, laidKinds := [.data, .data, .data, .data, .sentinel, .sentinel], laidTests := true, laidLooks := .later }
def SnapBackUptoCardSaid : Prop := Claim7.holds Tryd.pinned (.plain (OpenSpec.upto snapBackSpec)) snapBackUptoCard

/-- THE SECOND FORM's CARD OF 'quernlaw05.SnapKeeps'. -/
def snapKeepsUptoCard : Claim7 := { stood := { row := snapKeepsUptoRow, standIns := [], harness := (true, "e7a3832cbd4e8ec4b1fa8f5c364ee58fe241c9080d8dea89f5916362ddac42fe"), looks := true }, kinds := [], alts := [], laidByText := true, laidKinds := [.data, .data, .data, .data, .sentinel, .sentinel], laidTests := true, laidLooks := .later }
def SnapKeepsUptoCardSaid : Prop := Claim7.holds Tryd.pinned (.plain (OpenSpec.upto snapKeepsSpec)) snapKeepsUptoCard

/-- THE SECOND FORM's CARD OF 'quernlaw05.SnapLoses'. -/
def snapLosesUptoCard : Claim7 := { stood := { row := snapLosesUptoRow, standIns := [], harness := (true, "e7a3832cbd4e8ec4b1fa8f5c364ee58fe241c9080d8dea89f5916362ddac42fe"), looks := true }, kinds := [], alts := [], laidByText := true, laidKinds := [.data, .data, .data, .data, .sentinel, .sentinel], laidTests := true, laidLooks := .later }
def SnapLosesUptoCardSaid : Prop := Claim7.holds Tryd.pinned (.plain (OpenSpec.upto snapLosesSpec)) snapLosesUptoCard

/-- THE SECOND FORM's CARD OF 'quernlaw04.WalFrames'. -/
def walFramesUptoCard : Claim7 := { stood := { row := walFramesUptoRow, standIns := [], harness := (true, "e7a3832cbd4e8ec4b1fa8f5c364ee58fe241c9080d8dea89f5916362ddac42fe"), looks := true }, kinds := [], alts := [], laidByText := true, laidKinds := [.data, .data, .data, .data, .sentinel, .sentinel], laidTests := true, laidLooks := .later }
def WalFramesUptoCardSaid : Prop := Claim7.holds Tryd.pinned (.plain (OpenSpec.upto walFramesSpec)) walFramesUptoCard

/-- THE SECOND FORM's CARD OF 'quernlaw04.WalFull'. -/
def walFullUptoCard : Claim7 := { stood := { row := walFullUptoRow, standIns := [], harness := (true, "e7a3832cbd4e8ec4b1fa8f5c364ee58fe241c9080d8dea89f5916362ddac42fe"), looks := true }, kinds := [], alts := [], laidByText := true, laidKinds := [.data, .data, .data, .data, .sentinel, .sentinel], laidTests := true, laidLooks := .later }
def WalFullUptoCardSaid : Prop := Claim7.holds Tryd.pinned (.plain (OpenSpec.upto walFullSpec)) walFullUptoCard

/-- THE SECOND FORM's CARD OF 'quernlaw04.WalLoses'. -/
def walLosesUptoCard : Claim7 := { stood := { row := walLosesUptoRow, standIns := [], harness := (true, "e7a3832cbd4e8ec4b1fa8f5c364ee58fe241c9080d8dea89f5916362ddac42fe"), looks := true }, kinds := [], alts := [], laidByText := true, laidKinds := [.data, .data, .data, .data, .sentinel, .sentinel], laidTests := true, laidLooks := .later }
def WalLosesUptoCardSaid : Prop := Claim7.holds Tryd.pinned (.plain (OpenSpec.upto walLosesSpec)) walLosesUptoCard

/-- THE SECOND FORM's CARD OF 'quernlaw04.WalSegments'. -/
def walSegmentsUptoCard : Claim7 := { stood := { row := walSegmentsUptoRow, standIns := [], harness := (true, "e7a3832cbd4e8ec4b1fa8f5c364ee58fe241c9080d8dea89f5916362ddac42fe"), looks := true }, kinds := [], alts := [], laidByText := true, laidKinds := [.data, .data, .data, .data, .sentinel, .sentinel], laidTests := true, laidLooks := .later }
def WalSegmentsUptoCardSaid : Prop := Claim7.holds Tryd.pinned (.plain (OpenSpec.upto walSegmentsSpec)) walSegmentsUptoCard
end Rows
end Go.Proofs.YtnegdinonfjdfaaDoor
