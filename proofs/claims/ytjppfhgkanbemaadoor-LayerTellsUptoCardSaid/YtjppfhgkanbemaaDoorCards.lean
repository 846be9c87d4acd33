/-
  DERIVED. GIVEN WITH THE SEED: THE CARDS: each row of YtjppfhgkanbemaaDoorRows.lean that lists a variable, with what it lists TIED to the program's text (the seventh form; the later family's looks); each row that meets fmt, with fmt's text TOLD by the authors' own Lean function (tested against real Go, not proved from fmt's source: count such statements apart). THE CARD IS WHAT COUNTS. Prove the row's statement (the work); the ties are given (YtjppfhgkanbemaaDoorTie.lean); close each card by the builder's one call (the guide's Derived/Test/ToyasCard.lean, 'card_holds'). Laid BY PROGRAM, IN A SANDBOX (cutbox-door.mjs). By AI agents, Wed Nov 11 2026. No macro, syntax, notation, axiom, sorry.
-/
import Derived.Test.YtjppfhgkanbemaaDoorRows
import GoSem.ClaimSeven
namespace Go.Proofs.YtjppfhgkanbemaaDoor
namespace Rows

/-- THE TIED CARD OF 'tracelaw1.PathTells'. -/
def pathTellsCard : Claim7 := { stood := { row := pathTellsRow, standIns := [], harness := (true, "88ddbc6f4c4ea4aaf377e1950efc156e3b402da41855df1a282e011bb9c5f281"), looks := false }, kinds := [], alts := [], laidByText := true, laidKinds := [.data, .pinned], laidTests := true, laidLooks := .later }
def PathTellsCardSaid : Prop := Claim7.holds Tryd.pinned (.plain (OpenSpec.ofChange pathTellsSpec)) pathTellsCard

/-- THE TIED CARD OF 'tracelaw1.PathJoins'. -/
def pathJoinsCard : Claim7 := { stood := { row := pathJoinsRow, standIns := [], harness := (true, "88ddbc6f4c4ea4aaf377e1950efc156e3b402da41855df1a282e011bb9c5f281"), looks := false }, kinds := [], alts := [], laidByText := true, laidKinds := [.data, .pinned], laidTests := true, laidLooks := .later }
def PathJoinsCardSaid : Prop := Claim7.holds Tryd.pinned (.plain (OpenSpec.ofChange pathJoinsSpec)) pathJoinsCard

/-- THE TIED CARD OF 'tracelaw1.PathOrder'. -/
def pathOrderCard : Claim7 := { stood := { row := pathOrderRow, standIns := [], harness := (true, "88ddbc6f4c4ea4aaf377e1950efc156e3b402da41855df1a282e011bb9c5f281"), looks := false }, kinds := [], alts := [], laidByText := true, laidKinds := [.data, .pinned], laidTests := true, laidLooks := .later }
def PathOrderCardSaid : Prop := Claim7.holds Tryd.pinned (.plain (OpenSpec.ofChange pathOrderSpec)) pathOrderCard

/-- THE TIED CARD OF 'tracelaw3.LayerSeen'. -/
def layerSeenCard : Claim7 := { stood := { row := layerSeenRow, standIns := [], harness := (true, "88ddbc6f4c4ea4aaf377e1950efc156e3b402da41855df1a282e011bb9c5f281"), looks := false }, kinds := [], alts := [], laidByText := true, laidKinds := [.data, .pinned], laidTests := true, laidLooks := .later }
def LayerSeenCardSaid : Prop := Claim7.holds Tryd.pinned (.plain (OpenSpec.ofChange layerSeenSpec)) layerSeenCard

/-- THE TIED CARD OF 'tracelaw3.LayerTells'. -/
def layerTellsCard : Claim7 := { stood := { row := layerTellsRow, standIns := [], harness := (true, "88ddbc6f4c4ea4aaf377e1950efc156e3b402da41855df1a282e011bb9c5f281"), looks := false }, kinds := [], alts := [], laidByText := true, laidKinds := [.data, .pinned], laidTests := true, laidLooks := .later }
def LayerTellsCardSaid : Prop := Claim7.holds Tryd.pinned (.plain (OpenSpec.ofChange layerTellsSpec)) layerTellsCard

/-- THE TIED CARD OF 'tracelaw3.LayerClear'. -/
def layerClearCard : Claim7 := { stood := { row := layerClearRow, standIns := [], harness := (true, "88ddbc6f4c4ea4aaf377e1950efc156e3b402da41855df1a282e011bb9c5f281"), looks := false }, kinds := [], alts := [], laidByText := true, laidKinds := [.data, .pinned], laidTests := true, laidLooks := .later }
def LayerClearCardSaid : Prop := Claim7.holds Tryd.pinned (.plain (OpenSpec.ofChange layerClearSpec)) layerClearCard

/-- THE TIED CARD OF 'tracelaw3.LayerParts'. -/
def layerPartsCard : Claim7 := { stood := { row := layerPartsRow, standIns := [], harness := (true, "88ddbc6f4c4ea4aaf377e1950efc156e3b402da41855df1a282e011bb9c5f281"), looks := false }, kinds := [], alts := [], laidByText := true, laidKinds := [.data, .pinned], laidTests := true, laidLooks := .later }
def LayerPartsCardSaid : Prop := Claim7.holds Tryd.pinned (.plain (OpenSpec.ofChange layerPartsSpec)) layerPartsCard

/-- THE SECOND FORM's CARD OF 'tracelaw1.PathTells'. -/
def pathTellsUptoCard : Claim7 := { stood := { row := pathTellsUptoRow, standIns := [], harness := (true, "88ddbc6f4c4ea4aaf377e1950efc156e3b402da41855df1a282e011bb9c5f281"), looks := false }, kinds := [], alts := [], laidByText := true, laidKinds := [.data, .pinned], laidTests := true, laidLooks := .later }
def PathTellsUptoCardSaid : Prop := Claim7.holds Tryd.pinned (.plain (OpenSpec.upto pathTellsSpec)) pathTellsUptoCard

/-- THE SECOND FORM's CARD OF 'tracelaw1.PathJoins'. -/
def pathJoinsUptoCard : Claim7 := { stood := { row := pathJoinsUptoRow, standIns := [], harness := (true, "88ddbc6f4c4ea4aaf377e1950efc156e3b402da41855df1a282e011bb9c5f281"), looks := false }, kinds := [], alts := [], laidByText := true, laidKinds := [.data, .pinned], laidTests := true, laidLooks := .later }
def PathJoinsUptoCardSaid : Prop := Claim7.holds Tryd.pinned (.plain (OpenSpec.upto pathJoinsSpec)) pathJoinsUptoCard

/-- THE SECOND FORM's CARD OF 'tracelaw1.PathOrder'. -/
def pathOrderUptoCard : Claim7 := { stood := { row := pathOrderUptoRow, standIns := [], harness := (true, "88ddbc6f4c4ea4aaf377e1950efc156e3b402da41855df1a282e011bb9c5f281"), looks := false }, kinds := [], alts := [], laidByText := true, laidKinds := [.data, .pinned], laidTests := true, laidLooks := .later }
def PathOrderUptoCardSaid : Prop := Claim7.holds Tryd.pinned (.plain (OpenSpec.upto pathOrderSpec)) pathOrderUptoCard

/-- THE SECOND FORM's CARD OF 'tracelaw3.LayerSeen'. -/
def layerSeenUptoCard : Claim7 := { stood := { row := layerSeenUptoRow, standIns := [], harness := (true, "88ddbc6f4c4ea4aaf377e1950efc156e3b402da41855df1a282e011bb9c5f281"), looks := false }, kinds := [], alts := [], laidByText := true, laidKinds := [.data, .pinned], laidTests := true, laidLooks := .later }
def LayerSeenUptoCardSaid : Prop := Claim7.holds Tryd.pinned (.plain (OpenSpec.upto layerSeenSpec)) layerSeenUptoCard

/-- THE SECOND FORM's CARD OF 'tracelaw3.LayerTells'. -/
def layerTellsUptoCard : Claim7 := { stood := { row := layerTellsUptoRow, standIns := [], harness := (true, "88ddbc6f4c4ea4aaf377e1950efc156e3b402da41855df1a282e011bb9c5f281"), looks := false }, kinds := [], alts := [], laidByText := true, laidKinds := [.data, .pinned], laidTests := true, laidLooks := .later }
def LayerTellsUptoCardSaid : Prop := Claim7.holds Tryd.pinned (.plain (OpenSpec.upto layerTellsSpec)) layerTellsUptoCard

/-- THE SECOND FORM's CARD OF 'tracelaw3.LayerClear'. -/
def layerClearUptoCard : Claim7 := { stood := { row := layerClearUptoRow, standIns := [], harness := (true, "88ddbc6f4c4ea4aaf377e1950efc156e3b402da41855df1a282e011bb9c5f281"), looks := false }, kinds := [], alts := [], laidByText := true, laidKinds := [.data, .pinned], laidTests := true, laidLooks := .later }
def LayerClearUptoCardSaid : Prop := Claim7.holds Tryd.pinned (.plain (OpenSpec.upto layerClearSpec)) layerClearUptoCard

/-- THE SECOND FORM's CARD OF 'tracelaw3.LayerParts'. -/
def layerPartsUptoCard : Claim7 := { stood := { row := layerPartsUptoRow, standIns := [], harness := (true, "88ddbc6f4c4ea4aaf377e1950efc156e3b402da41855df1a282e011bb9c5f281"), looks := false }, kinds := [], alts := [], laidByText := true, laidKinds := [.data, .pinned], laidTests := true, laidLooks := .later }
def LayerPartsUptoCardSaid : Prop := Claim7.holds Tryd.pinned (.plain (OpenSpec.upto layerPartsSpec)) layerPartsUptoCard
end Rows
end Go.Proofs.YtjppfhgkanbemaaDoor
