/-
  DERIVED. GIVEN WITH THE SEED: THE CARDS: each row of YtmkbjdoifjcogaaDoorRows.lean that lists a variable, with what it lists TIED to the program's text (the seventh form; the later family's looks); each row that meets fmt, with fmt's text TOLD by the authors' own Lean function (tested against real Go, not proved from fmt's source: count such statements apart). THE CARD IS WHAT COUNTS. Prove the row's statement (the work); the ties are given (YtmkbjdoifjcogaaDoorTie.lean); close each card by the builder's one call (the guide's Derived/Test/ToyasCard.lean, 'card_holds'). Laid BY PROGRAM, IN A SANDBOX (cutbox-door.mjs). By AI agents, Wed Nov 11 2026. No macro, syntax, notation, axiom, sorry.
-/
import Derived.Test.YtmkbjdoifjcogaaDoorRows
import GoSem.ClaimSeven
namespace Go.Proofs.YtmkbjdoifjcogaaDoor
namespace Rows

/-- THE TIED CARD OF 'cubitlaw05.DimMakes'. -/
def dimMakesCard : Claim7 := { stood := { row := dimMakesRow, standIns := [], harness := (true, "01df7e017393c974520ea7783eb7d4370a0feb470ee8353cc22ce82a2a2ee087"), looks := false }, kinds := [], alts := [], laidByText := true, laidKinds := [.data, .data, .data], laidTests := true, laidLooks := .later }
def DimMakesCardSaid : Prop := Claim7.holds Tryd.pinned (.plain (OpenSpec.ofChange dimMakesSpec)) dimMakesCard

/-- THE TIED CARD OF 'cubitlaw05.DimGroup'. -/
def dimGroupCard : Claim7 := { stood := { row := dimGroupRow, standIns := [], harness := (true, "01df7e017393c974520ea7783eb7d4370a0feb470ee8353cc22ce82a2a2ee087"), looks := false }, kinds := [], alts := [], laidByText := true, laidKinds := [.data, .data, .data], laidTests := true, laidLooks := .later }
def DimGroupCardSaid : Prop := Claim7.holds Tryd.pinned (.plain (OpenSpec.ofChange dimGroupSpec)) dimGroupCard

/-- THE TIED CARD OF 'cubitlaw05.DimKinds'. -/
def dimKindsCard : Claim7 := { stood := { row := dimKindsRow, standIns := [], harness := (true, "01df7e017393c974520ea7783eb7d4370a0feb470ee8353cc22ce82a2a2ee087"), looks := false }, kinds := [], alts := [], laidByText := true, laidKinds := [.data, .data, .data], laidTests := true, laidLooks := .later }
def DimKindsCardSaid : Prop := Claim7.holds Tryd.pinned (.plain (OpenSpec.ofChange dimKindsSpec)) dimKindsCard

/-- THE TIED CARD OF 'cubitlaw05.DimBack'. -/
def dimBackCard : Claim7 := { stood := { row := dimBackRow, standIns := [], harness := (true, "01df7e017393c974520ea7783eb7d4370a0feb470ee8353cc22ce82a2a2ee087"), looks := false }, kinds := [], alts := [], laidByText := true, laidKinds := [.data, .data, .data], laidTests := true, laidLooks := .later }
def DimBackCardSaid : Prop := Claim7.holds Tryd.pinned (.plain (OpenSpec.ofChange dimBackSpec)) dimBackCard

/-- THE TIED CARD OF 'cubitlaw05.DimTexts'. -/
def dimTextsCard : Claim7 := { stood := { row := dimTextsRow, standIns := [], harness := (true, "01df7e017393c974520ea7783eb7d4370a0feb470ee8353cc22ce82a2a2ee087"), looks := false }, kinds := [], alts := [], laidByText := true, laidKinds := [.data, .data, .data], laidTests := true, laidLooks := .later }
def DimTextsCardSaid : Prop := Claim7.holds Tryd.pinned (.plain (OpenSpec.ofChange dimTextsSpec)) dimTextsCard

/-- THE SECOND FORM's CARD OF 'cubitlaw05.DimMakes'. -/
def dimMakesUptoCard : Claim7 := { stood := { row := dimMakesUptoRow, standIns := [], harness := (true, "01df7e017393c974520ea7783eb7d4370a0feb470ee8353cc22ce82a2a2ee087"), looks := false }, kinds := [], alts := [], laidByText := true, laidKinds := [.data, .data, .data], laidTests := true, laidLooks := .later }
def DimMakesUptoCardSaid : Prop := Claim7.holds Tryd.pinned (.plain (OpenSpec.upto dimMakesSpec)) dimMakesUptoCard

/-- THE SECOND FORM's CARD OF 'cubitlaw05.DimGroup'. -/
def dimGroupUptoCard : Claim7 := { stood := { row := dimGroupUptoRow, standIns := [], harness := (true, "01df7e017393c974520ea7783eb7d4370a0feb470ee8353cc22ce82a2a2ee087"), looks := false }, kinds := [], alts := [], laidByText := true, laidKinds := [.data, .data, .data], laidTests := true, laidLooks := .later }
def DimGroupUptoCardSaid : Prop := Claim7.holds Tryd.pinned (.plain (OpenSpec.upto dimGroupSpec)) dimGroupUptoCard

/-- THE SECOND FORM's CARD OF 'cubitlaw05.DimKinds'. -/
def dimKindsUptoCard : Claim7 := { stood := { row := dimKindsUptoRow, standIns := [], harness := (true, "01df7e017393c974520ea7783eb7d4370a0feb470ee8353cc22ce82a2a2ee087"), looks := false }, kinds := [], alts := [], laidByText := true, laidKinds := [.data, .data, .data], laidTests := true, laidLooks := .later }
def DimKindsUptoCardSaid : Prop := Claim7.holds Tryd.pinned (.plain (OpenSpec.upto dimKindsSpec)) dimKindsUptoCard

/-- THE SECOND FORM's CARD OF 'cubitlaw05.DimBack'. -/
def dimBackUptoCard : Claim7 := { stood := { row := dimBackUptoRow, standIns := [], harness := (true, "01df7e017393c974520ea7783eb7d4370a0feb470ee8353cc22ce82a2a2ee087"), looks := false }, kinds := [], alts := [], laidByText := true, laidKinds := [.data, .data, .data], laidTests := true, laidLooks := .later }
def DimBackUptoCardSaid : Prop := Claim7.holds Tryd.pinned (.plain (OpenSpec.upto dimBackSpec)) dimBackUptoCard

/-- THE SECOND FORM's CARD OF 'cubitlaw05.DimTexts'. -/
def dimTextsUptoCard : Claim7 := { stood := { row := dimTextsUptoRow, standIns := [], harness := (true, "01df7e017393c974520ea7783eb7d4370a0feb470ee8353cc22ce82a2a2ee087"), looks := false }, kinds := [], alts := [], laidByText := true, laidKinds := [.data, .data, .data], laidTests := true, laidLooks := .later }
def DimTextsUptoCardSaid : Prop := Claim7.holds Tryd.pinned (.plain (OpenSpec.upto dimTextsSpec)) dimTextsUptoCard
end Rows
end Go.Proofs.YtmkbjdoifjcogaaDoor
