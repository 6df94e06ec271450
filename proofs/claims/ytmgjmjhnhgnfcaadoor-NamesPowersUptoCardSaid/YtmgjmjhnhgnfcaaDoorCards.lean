/-
  DERIVED. GIVEN WITH THE SEED: THE CARDS: each row of YtmgjmjhnhgnfcaaDoorRows.lean that lists a variable, with what it lists TIED to the program's text (the seventh form; the later family's looks); each row that meets fmt, with fmt's text TOLD by the authors' own Lean function (tested against real Go, not proved from fmt's source: count such statements apart). THE CARD IS WHAT COUNTS. Prove the row's statement (the work); the ties are given (YtmgjmjhnhgnfcaaDoorTie.lean); close each card by the builder's one call (the guide's Derived/Test/ToyasCard.lean, 'card_holds'). Laid BY PROGRAM, IN A SANDBOX (cutbox-door.mjs). By AI agents, Wed Nov 11 2026. No macro, syntax, notation, axiom, sorry.
-/
import Derived.Test.YtmgjmjhnhgnfcaaDoorRows
import GoSem.ClaimSeven
namespace Go.Proofs.YtmgjmjhnhgnfcaaDoor
namespace Rows

/-- THE TIED CARD OF 'cubitlaw06.NamesFar'. -/
def namesFarCard : Claim7 := { stood := { row := namesFarRow, standIns := [], harness := (true, "948420162449c4e753b3f6e7deda80e09df240fbdf63685b384e4af65e967c64"), looks := false }, kinds := [], alts := [], laidByText := true, laidKinds := [.data, .pinned], laidTests := true, laidLooks := .later }
def NamesFarCardSaid : Prop := Claim7.holds Tryd.pinned (.plain (OpenSpec.ofChange namesFarSpec)) namesFarCard

/-- THE TIED CARD OF 'cubitlaw06.NamesDistance'. -/
def namesDistanceCard : Claim7 := { stood := { row := namesDistanceRow, standIns := [], harness := (true, "948420162449c4e753b3f6e7deda80e09df240fbdf63685b384e4af65e967c64"), looks := false }, kinds := [], alts := [], laidByText := true, laidKinds := [.data, .pinned], laidTests := true, laidLooks := .later }
def NamesDistanceCardSaid : Prop := Claim7.holds Tryd.pinned (.plain (OpenSpec.ofChange namesDistanceSpec)) namesDistanceCard

/-- THE TIED CARD OF 'cubitlaw06.NamesFolds'. -/
def namesFoldsCard : Claim7 := { stood := { row := namesFoldsRow, standIns := [], harness := (true, "948420162449c4e753b3f6e7deda80e09df240fbdf63685b384e4af65e967c64"), looks := false }, kinds := [], alts := [], laidByText := true, laidKinds := [.data, .pinned], laidTests := true, laidLooks := .later }
def NamesFoldsCardSaid : Prop := Claim7.holds Tryd.pinned (.plain (OpenSpec.ofChange namesFoldsSpec)) namesFoldsCard

/-- THE TIED CARD OF 'cubitlaw06.NamesCuts'. -/
def namesCutsCard : Claim7 := { stood := { row := namesCutsRow, standIns := [], harness := (true, "948420162449c4e753b3f6e7deda80e09df240fbdf63685b384e4af65e967c64"), looks := false }, kinds := [], alts := [], laidByText := true, laidKinds := [.data, .pinned], laidTests := true, laidLooks := .later }
def NamesCutsCardSaid : Prop := Claim7.holds Tryd.pinned (.plain (OpenSpec.ofChange namesCutsSpec)) namesCutsCard

/-- THE TIED CARD OF 'cubitlaw06.NamesWords'. -/
def namesWordsCard : Claim7 := { stood := { row := namesWordsRow, standIns := [], harness := (true, "948420162449c4e753b3f6e7deda80e09df240fbdf63685b384e4af65e967c64"), looks := false }, kinds := [], alts := [], laidByText := true, laidKinds := [.data, .pinned], laidTests := true, laidLooks := .later }
def NamesWordsCardSaid : Prop := Claim7.holds Tryd.pinned (.plain (OpenSpec.ofChange namesWordsSpec)) namesWordsCard

/-- THE TIED CARD OF 'cubitlaw06.NamesRaised'. -/
def namesRaisedCard : Claim7 := { stood := { row := namesRaisedRow, standIns := [], harness := (true, "948420162449c4e753b3f6e7deda80e09df240fbdf63685b384e4af65e967c64"), looks := false }, kinds := [], alts := [], laidByText := true, laidKinds := [.data, .pinned], laidTests := true, laidLooks := .later }
def NamesRaisedCardSaid : Prop := Claim7.holds Tryd.pinned (.plain (OpenSpec.ofChange namesRaisedSpec)) namesRaisedCard

/-- THE TIED CARD OF 'cubitlaw06.NamesSorts'. -/
def namesSortsCard : Claim7 := { stood := { row := namesSortsRow, standIns := [], harness := (true, "948420162449c4e753b3f6e7deda80e09df240fbdf63685b384e4af65e967c64"), looks := false }, kinds := [], alts := [], laidByText := true, laidKinds := [.data, .pinned], laidTests := true, laidLooks := .later }
def NamesSortsCardSaid : Prop := Claim7.holds Tryd.pinned (.plain (OpenSpec.ofChange namesSortsSpec)) namesSortsCard

/-- THE TIED CARD OF 'cubitlaw06.NamesOrder'. -/
def namesOrderCard : Claim7 := { stood := { row := namesOrderRow, standIns := [], harness := (true, "948420162449c4e753b3f6e7deda80e09df240fbdf63685b384e4af65e967c64"), looks := false }, kinds := [], alts := [], laidByText := true, laidKinds := [.data, .pinned], laidTests := true, laidLooks := .later }
def NamesOrderCardSaid : Prop := Claim7.holds Tryd.pinned (.plain (OpenSpec.ofChange namesOrderSpec)) namesOrderCard

/-- THE TIED CARD OF 'cubitlaw06.NamesPowers'. -/
def namesPowersCard : Claim7 := { stood := { row := namesPowersRow, standIns := [], harness := (true, "948420162449c4e753b3f6e7deda80e09df240fbdf63685b384e4af65e967c64"), looks := false }, kinds := [], alts := [], laidByText := true, laidKinds := [.data, .data, .data, .data, .pinned], laidTests := true, laidLooks := .later }
def NamesPowersCardSaid : Prop := Claim7.holds Tryd.pinned (.plain (OpenSpec.ofChange namesPowersSpec)) namesPowersCard

/-- THE TIED CARD OF 'cubitlaw06.NamesNear'. -/
def namesNearCard : Claim7 := { stood := { row := namesNearRow, standIns := [], harness := (true, "948420162449c4e753b3f6e7deda80e09df240fbdf63685b384e4af65e967c64"), looks := false }, kinds := [], alts := [], laidByText := true, laidKinds := [.data, .pinned], laidTests := true, laidLooks := .later }
def NamesNearCardSaid : Prop := Claim7.holds Tryd.pinned (.plain (OpenSpec.ofChange namesNearSpec)) namesNearCard

/-- THE SECOND FORM's CARD OF 'cubitlaw06.NamesFar'. -/
def namesFarUptoCard : Claim7 := { stood := { row := namesFarUptoRow, standIns := [], harness := (true, "948420162449c4e753b3f6e7deda80e09df240fbdf63685b384e4af65e967c64"), looks := false }, kinds := [], alts := [], laidByText := true, laidKinds := [.data, .pinned], laidTests := true, laidLooks := .later }
def NamesFarUptoCardSaid : Prop := Claim7.holds Tryd.pinned (.plain (OpenSpec.upto namesFarSpec)) namesFarUptoCard

/-- THE SECOND FORM's CARD OF 'cubitlaw06.NamesDistance'. -/
def namesDistanceUptoCard : Claim7 := { stood := { row := namesDistanceUptoRow, standIns := [], harness := (true, "948420162449c4e753b3f6e7deda80e09df240fbdf63685b384e4af65e967c64"), looks := false }, kinds := [], alts := [], laidByText := true, laidKinds := [.data, .pinned], laidTests := true, laidLooks := .later }
def NamesDistanceUptoCardSaid : Prop := Claim7.holds Tryd.pinned (.plain (OpenSpec.upto namesDistanceSpec)) namesDistanceUptoCard

/-- THE SECOND FORM's CARD OF 'cubitlaw06.NamesFolds'. -/
def namesFoldsUptoCard : Claim7 := { stood := { row := namesFoldsUptoRow, standIns := [], harness := (true, "948420162449c4e753b3f6e7deda80e09df240fbdf63685b384e4af65e967c64"), looks := false }, kinds := [], alts := [], laidByText := true, laidKinds := [.data, .pinned], laidTests := true, laidLooks := .later }
def NamesFoldsUptoCardSaid : Prop := Claim7.holds Tryd.pinned (.plain (OpenSpec.upto namesFoldsSpec)) namesFoldsUptoCard

/-- THE SECOND FORM's CARD OF 'cubitlaw06.NamesCuts'. -/
def namesCutsUptoCard : Claim7 := { stood := { row := namesCutsUptoRow, standIns := [], harness := (true, "948420162449c4e753b3f6e7deda80e09df240fbdf63685b384e4af65e967c64"), looks := false }, kinds := [], alts := [], laidByText := true, laidKinds := [.data, .pinned], laidTests := true, laidLooks := .later }
def NamesCutsUptoCardSaid : Prop := Claim7.holds Tryd.pinned (.plain (OpenSpec.upto namesCutsSpec)) namesCutsUptoCard

/-- THE SECOND FORM's CARD OF 'cubitlaw06.NamesWords'. -/
def namesWordsUptoCard : Claim7 := { stood := { row := namesWordsUptoRow, standIns := [], harness := (true, "948420162449c4e753b3f6e7deda80e09df240fbdf63685b384e4af65e967c64"), looks := false }, kinds := [], alts := [], laidByText := true, laidKinds := [.data, .pinned], laidTests := true, laidLooks := .later }
def NamesWordsUptoCardSaid : Prop := Claim7.holds Tryd.pinned (.plain (OpenSpec.upto namesWordsSpec)) namesWordsUptoCard

/-- THE SECOND FORM's CARD OF 'cubitlaw06.NamesRaised'. -/
def namesRaisedUptoCard : Claim7 := { stood := { row := namesRaisedUptoRow, standIns := [], harness := (true, "948420162449c4e753b3f6e7deda80e09df240fbdf63685b384e4af65e967c64"), looks := false }, kinds := [], alts := [], laidByText := true, laidKinds := [.data, .pinned], laidTests := true, laidLooks := .later }
def NamesRaisedUptoCardSaid : Prop := Claim7.holds Tryd.pinned (.plain (OpenSpec.upto namesRaisedSpec)) namesRaisedUptoCard

/-- THE SECOND FORM's CARD OF 'cubitlaw06.NamesSorts'. -/
def namesSortsUptoCard : Claim7 := { stood := { row := namesSortsUptoRow, standIns := [], harness := (true, "948420162449c4e753b3f6e7deda80e09df240fbdf63685b384e4af65e967c64"), looks := false }, kinds := [], alts := [], laidByText := true, laidKinds := [.data, .pinned], laidTests := true, laidLooks := .later }
def NamesSortsUptoCardSaid : Prop := Claim7.holds Tryd.pinned (.plain (OpenSpec.upto namesSortsSpec)) namesSortsUptoCard

/-- THE SECOND FORM's CARD OF 'cubitlaw06.NamesOrder'. -/
def namesOrderUptoCard : Claim7 := { stood := { row := namesOrderUptoRow, standIns := [], harness := (true, "948420162449c4e753b3f6e7deda80e09df240fbdf63685b384e4af65e967c64"), looks := false }, kinds := [], alts := [], laidByText := true, laidKinds := [.data, .pinned], laidTests := true, laidLooks := .later }
def NamesOrderUptoCardSaid : Prop := Claim7.holds Tryd.pinned (.plain (OpenSpec.upto namesOrderSpec)) namesOrderUptoCard

/-- THE SECOND FORM's CARD OF 'cubitlaw06.NamesPowers'. -/
def namesPowersUptoCard : Claim7 := { stood := { row := namesPowersUptoRow, standIns := [], harness := (true, "948420162449c4e753b3f6e7deda80e09df240fbdf63685b384e4af65e967c64"), looks := false }, kinds := [], alts := [], laidByText := true, laidKinds := [.data, .data, .data, .data, .pinned], laidTests := true, laidLooks := .later }
def NamesPowersUptoCardSaid : Prop := Claim7.holds Tryd.pinned (.plain (OpenSpec.upto namesPowersSpec)) namesPowersUptoCard

/-- THE SECOND FORM's CARD OF 'cubitlaw06.NamesNear'. -/
def namesNearUptoCard : Claim7 := { stood := { row := namesNearUptoRow, standIns := [], harness := (true, "948420162449c4e753b3f6e7deda80e09df240fbdf63685b384e4af65e967c64"), looks := false }, kinds := [], alts := [], laidByText := true, laidKinds := [.data, .pinned], laidTests := true, laidLooks := .later }
def NamesNearUptoCardSaid : Prop := Claim7.holds Tryd.pinned (.plain (OpenSpec.upto namesNearSpec)) namesNearUptoCard
end Rows
end Go.Proofs.YtmgjmjhnhgnfcaaDoor
