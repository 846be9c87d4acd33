/-
  DERIVED. GIVEN WITH THE SEED: THE CARDS: each row of YtjppfhgkanbemabDoorRows.lean that lists a variable, with what it lists TIED to the program's text (the seventh form; the later family's looks); each row that meets fmt, with fmt's text TOLD by the authors' own Lean function (tested against real Go, not proved from fmt's source: count such statements apart). THE CARD IS WHAT COUNTS. Prove the row's statement (the work); the ties are given (YtjppfhgkanbemabDoorTie.lean); close each card by the builder's one call (the guide's Derived/Test/ToyasCard.lean, 'card_holds'). Laid BY PROGRAM, IN A SANDBOX (cutbox-door.mjs). By AI agents, Wed Nov 11 2026. No macro, syntax, notation, axiom, sorry.
-/
import Derived.Test.YtjppfhgkanbemabDoorRows
import GoSem.ClaimSeven
namespace Go.Proofs.YtjppfhgkanbemabDoor
namespace Rows

/-- THE TIED CARD OF 'tracelaw2.TreeMoves'. -/
def treeMovesCard : Claim7 := { stood := { row := treeMovesRow, standIns := [], harness := (true, "36a570e71eccaf95effb2ba3943fb8cad3aa2832a759611274ba217896c87436"), looks := false }, kinds := [], alts := [], laidByText := true, laidKinds := [.data, .pinned], laidTests := true, laidLooks := .later }
def TreeMovesCardSaid : Prop := Claim7.holds Tryd.pinned (.plain (OpenSpec.ofChange treeMovesSpec)) treeMovesCard

/-- THE TIED CARD OF 'tracelaw2.TreeTells'. -/
def treeTellsCard : Claim7 := { stood := { row := treeTellsRow, standIns := [], harness := (true, "36a570e71eccaf95effb2ba3943fb8cad3aa2832a759611274ba217896c87436"), looks := false }, kinds := [], alts := [], laidByText := true, laidKinds := [.data, .pinned], laidTests := true, laidLooks := .later }
def TreeTellsCardSaid : Prop := Claim7.holds Tryd.pinned (.plain (OpenSpec.ofChange treeTellsSpec)) treeTellsCard

/-- THE TIED CARD OF 'tracelaw2.TreeRight'. -/
def treeRightCard : Claim7 := { stood := { row := treeRightRow, standIns := [], harness := (true, "36a570e71eccaf95effb2ba3943fb8cad3aa2832a759611274ba217896c87436"), looks := false }, kinds := [], alts := [], laidByText := true, laidKinds := [.data, .pinned], laidTests := true, laidLooks := .later }
def TreeRightCardSaid : Prop := Claim7.holds Tryd.pinned (.plain (OpenSpec.ofChange treeRightSpec)) treeRightCard

/-- THE TIED CARD OF 'tracelaw2.TreeBack'. -/
def treeBackCard : Claim7 := { stood := { row := treeBackRow, standIns := [], harness := (true, "36a570e71eccaf95effb2ba3943fb8cad3aa2832a759611274ba217896c87436"), looks := false }, kinds := [], alts := [], laidByText := true, laidKinds := [.data, .pinned], laidTests := true, laidLooks := .later }
def TreeBackCardSaid : Prop := Claim7.holds Tryd.pinned (.plain (OpenSpec.ofChange treeBackSpec)) treeBackCard

/-- THE TIED CARD OF 'tracelaw4.UnionLook'. -/
def unionLookCard : Claim7 := { stood := { row := unionLookRow, standIns := [], harness := (true, "36a570e71eccaf95effb2ba3943fb8cad3aa2832a759611274ba217896c87436"), looks := false }, kinds := [], alts := [], laidByText := true, laidKinds := [.data, .pinned], laidTests := true, laidLooks := .later }
def UnionLookCardSaid : Prop := Claim7.holds Tryd.pinned (.plain (OpenSpec.ofChange unionLookSpec)) unionLookCard

/-- THE TIED CARD OF 'tracelaw4.UnionSeen'. -/
def unionSeenCard : Claim7 := { stood := { row := unionSeenRow, standIns := [], harness := (true, "36a570e71eccaf95effb2ba3943fb8cad3aa2832a759611274ba217896c87436"), looks := false }, kinds := [], alts := [], laidByText := true, laidKinds := [.data, .pinned], laidTests := true, laidLooks := .later }
def UnionSeenCardSaid : Prop := Claim7.holds Tryd.pinned (.plain (OpenSpec.ofChange unionSeenSpec)) unionSeenCard

/-- THE TIED CARD OF 'tracelaw4.UnionLower'. -/
def unionLowerCard : Claim7 := { stood := { row := unionLowerRow, standIns := [], harness := (true, "36a570e71eccaf95effb2ba3943fb8cad3aa2832a759611274ba217896c87436"), looks := false }, kinds := [], alts := [], laidByText := true, laidKinds := [.data, .pinned], laidTests := true, laidLooks := .later }
def UnionLowerCardSaid : Prop := Claim7.holds Tryd.pinned (.plain (OpenSpec.ofChange unionLowerSpec)) unionLowerCard

/-- THE TIED CARD OF 'tracelaw4.UnionFlat'. -/
def unionFlatCard : Claim7 := { stood := { row := unionFlatRow, standIns := [], harness := (true, "36a570e71eccaf95effb2ba3943fb8cad3aa2832a759611274ba217896c87436"), looks := false }, kinds := [], alts := [], laidByText := true, laidKinds := [.data, .pinned], laidTests := true, laidLooks := .later }
def UnionFlatCardSaid : Prop := Claim7.holds Tryd.pinned (.plain (OpenSpec.ofChange unionFlatSpec)) unionFlatCard

/-- THE SECOND FORM's CARD OF 'tracelaw2.TreeMoves'. -/
def treeMovesUptoCard : Claim7 := { stood := { row := treeMovesUptoRow, standIns := [], harness := (true, "36a570e71eccaf95effb2ba3943fb8cad3aa2832a759611274ba217896c87436"), looks := false }, kinds := [], alts := [], laidByText := true, laidKinds := [.data, .pinned], laidTests := true, laidLooks := .later }
def TreeMovesUptoCardSaid : Prop := Claim7.holds Tryd.pinned (.plain (OpenSpec.upto treeMovesSpec)) treeMovesUptoCard

/-- THE SECOND FORM's CARD OF 'tracelaw2.TreeTells'. -/
def treeTellsUptoCard : Claim7 := { stood := { row := treeTellsUptoRow, standIns := [], harness := (true, "36a570e71eccaf95effb2ba3943fb8cad3aa2832a759611274ba217896c87436"), looks := false }, kinds := [], alts := [], laidByText := true, laidKinds := [.data, .pinned], laidTests := true, laidLooks := .later }
def TreeTellsUptoCardSaid : Prop := Claim7.holds Tryd.pinned (.plain (OpenSpec.upto treeTellsSpec)) treeTellsUptoCard

/-- THE SECOND FORM's CARD OF 'tracelaw2.TreeRight'. -/
def treeRightUptoCard : Claim7 := { stood := { row := treeRightUptoRow, standIns := [], harness := (true, "36a570e71eccaf95effb2ba3943fb8cad3aa2832a759611274ba217896c87436"), looks := false }, kinds := [], alts := [], laidByText := true, laidKinds := [.data, .pinned], laidTests := true, laidLooks := .later }
def TreeRightUptoCardSaid : Prop := Claim7.holds Tryd.pinned (.plain (OpenSpec.upto treeRightSpec)) treeRightUptoCard

/-- THE SECOND FORM's CARD OF 'tracelaw2.TreeBack'. -/
def treeBackUptoCard : Claim7 := { stood := { row := treeBackUptoRow, standIns := [], harness := (true, "36a570e71eccaf95effb2ba3943fb8cad3aa2832a759611274ba217896c87436"), looks := false }, kinds := [], alts := [], laidByText := true, laidKinds := [.data, .pinned], laidTests := true, laidLooks := .later }
def TreeBackUptoCardSaid : Prop := Claim7.holds Tryd.pinned (.plain (OpenSpec.upto treeBackSpec)) treeBackUptoCard

/-- THE SECOND FORM's CARD OF 'tracelaw4.UnionLook'. -/
def unionLookUptoCard : Claim7 := { stood := { row := unionLookUptoRow, standIns := [], harness := (true, "36a570e71eccaf95effb2ba3943fb8cad3aa2832a759611274ba217896c87436"), looks := false }, kinds := [], alts := [], laidByText := true, laidKinds := [.data, .pinned], laidTests := true, laidLooks := .later }
def UnionLookUptoCardSaid : Prop := Claim7.holds Tryd.pinned (.plain (OpenSpec.upto unionLookSpec)) unionLookUptoCard

/-- THE SECOND FORM's CARD OF 'tracelaw4.UnionSeen'. -/
def unionSeenUptoCard : Claim7 := { stood := { row := unionSeenUptoRow, standIns := [], harness := (true, "36a570e71eccaf95effb2ba3943fb8cad3aa2832a759611274ba217896c87436"), looks := false }, kinds := [], alts := [], laidByText := true, laidKinds := [.data, .pinned], laidTests := true, laidLooks := .later }
def UnionSeenUptoCardSaid : Prop := Claim7.holds Tryd.pinned (.plain (OpenSpec.upto unionSeenSpec)) unionSeenUptoCard

/-- THE SECOND FORM's CARD OF 'tracelaw4.UnionLower'. -/
def unionLowerUptoCard : Claim7 := { stood := { row := unionLowerUptoRow, standIns := [], harness := (true, "36a570e71eccaf95effb2ba3943fb8cad3aa2832a759611274ba217896c87436"), looks := false }, kinds := [], alts := [], laidByText := true, laidKinds := [.data, .pinned], laidTests := true, laidLooks := .later }
def UnionLowerUptoCardSaid : Prop := Claim7.holds Tryd.pinned (.plain (OpenSpec.upto unionLowerSpec)) unionLowerUptoCard

/-- THE SECOND FORM's CARD OF 'tracelaw4.UnionFlat'. -/
def unionFlatUptoCard : Claim7 := { stood := { row := unionFlatUptoRow, standIns := [], harness := (true, "36a570e71eccaf95effb2ba3943fb8cad3aa2832a759611274ba217896c87436"), looks := false }, kinds := [], alts := [], laidByText := true, laidKinds := [.data, .pinned], laidTests := true, laidLooks := .later }
def UnionFlatUptoCardSaid : Prop := Claim7.holds Tryd.pinned (.plain (OpenSpec.upto unionFlatSpec)) unionFlatUptoCard
end Rows
end Go.Proofs.YtjppfhgkanbemabDoor
