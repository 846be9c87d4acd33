/-
  DERIVED. GIVEN WITH THE SEED: THE CARDS: each row of YtjppfhgkanbemabGreatDoorRows.lean that lists a variable, with what it lists TIED to the program's text (the seventh form; the later family's looks); each row that meets fmt, with fmt's text TOLD by the authors' own Lean function (tested against real Go, not proved from fmt's source: count such statements apart). THE CARD IS WHAT COUNTS. Prove the row's statement (the work); the ties are given (YtjppfhgkanbemabGreatDoorTie.lean); close each card by the builder's one call (the guide's Derived/Test/ToyasCard.lean, 'card_holds'). Laid BY PROGRAM, IN A SANDBOX (cutbox-door.mjs). By AI agents, Wed Nov 11 2026. No macro, syntax, notation, axiom, sorry.
-/
import Derived.Test.YtjppfhgkanbemabGreatDoorRows
import GoSem.ClaimSeven
namespace Go.Proofs.YtjppfhgkanbemabGreatDoor
namespace Rows

/-- THE TIED CARD OF 'tracetop.TopCopy'. -/
def topCopyCard : Claim7 := { stood := { row := topCopyRow, standIns := [], harness := (true, "d48cb5013d09dc962e3ef3c99fbc8381fc334fe579c6021df345a6d8acc66c4e"), looks := false }, kinds := [], alts := [], laidByText := true, laidKinds := [.data, .pinned], laidTests := true, laidLooks := .later }
def TopCopyCardSaid : Prop := Claim7.holds Tryz.pinned (.plain (OpenSpec.ofChange topCopySpec)) topCopyCard

/-- THE TIED CARD OF 'tracetop.TopFollows'. -/
def topFollowsCard : Claim7 := { stood := { row := topFollowsRow, standIns := [], harness := (true, "d48cb5013d09dc962e3ef3c99fbc8381fc334fe579c6021df345a6d8acc66c4e"), looks := false }, kinds := [], alts := [], laidByText := true, laidKinds := [.data, .pinned], laidTests := true, laidLooks := .later }
def TopFollowsCardSaid : Prop := Claim7.holds Tryz.pinned (.plain (OpenSpec.ofChange topFollowsSpec)) topFollowsCard

/-- THE TIED CARD OF 'tracelaw4.UnionTells'. -/
def unionTellsCard : Claim7 := { stood := { row := unionTellsRow, standIns := [], harness := (true, "d48cb5013d09dc962e3ef3c99fbc8381fc334fe579c6021df345a6d8acc66c4e"), looks := false }, kinds := [], alts := [], laidByText := true, laidKinds := [.data, .pinned], laidTests := true, laidLooks := .later }
def UnionTellsCardSaid : Prop := Claim7.holds Tryz.pinned (.plain (OpenSpec.ofChange unionTellsSpec)) unionTellsCard

/-- THE TIED CARD OF 'tracelaw6.SysTells'. -/
def sysTellsCard : Claim7 := { stood := { row := sysTellsRow, standIns := [], harness := (true, "d48cb5013d09dc962e3ef3c99fbc8381fc334fe579c6021df345a6d8acc66c4e"), looks := false }, kinds := [], alts := [], laidByText := true, laidKinds := [.data, .pinned], laidTests := true, laidLooks := .later }
def SysTellsCardSaid : Prop := Claim7.holds Tryz.pinned (.plain (OpenSpec.ofChange sysTellsSpec)) sysTellsCard

/-- THE SECOND FORM's CARD OF 'tracetop.TopCopy'. -/
def topCopyUptoCard : Claim7 := { stood := { row := topCopyUptoRow, standIns := [], harness := (true, "d48cb5013d09dc962e3ef3c99fbc8381fc334fe579c6021df345a6d8acc66c4e"), looks := false }, kinds := [], alts := [], laidByText := true, laidKinds := [.data, .pinned], laidTests := true, laidLooks := .later }
def TopCopyUptoCardSaid : Prop := Claim7.holds Tryz.pinned (.plain (OpenSpec.upto topCopySpec)) topCopyUptoCard

/-- THE SECOND FORM's CARD OF 'tracetop.TopFollows'. -/
def topFollowsUptoCard : Claim7 := { stood := { row := topFollowsUptoRow, standIns := [], harness := (true, "d48cb5013d09dc962e3ef3c99fbc8381fc334fe579c6021df345a6d8acc66c4e"), looks := false }, kinds := [], alts := [], laidByText := true, laidKinds := [.data, .pinned], laidTests := true, laidLooks := .later }
def TopFollowsUptoCardSaid : Prop := Claim7.holds Tryz.pinned (.plain (OpenSpec.upto topFollowsSpec)) topFollowsUptoCard

/-- THE SECOND FORM's CARD OF 'tracelaw4.UnionTells'. -/
def unionTellsUptoCard : Claim7 := { stood := { row := unionTellsUptoRow, standIns := [], harness := (true, "d48cb5013d09dc962e3ef3c99fbc8381fc334fe579c6021df345a6d8acc66c4e"), looks := false }, kinds := [], alts := [], laidByText := true, laidKinds := [.data, .pinned], laidTests := true, laidLooks := .later }
def UnionTellsUptoCardSaid : Prop := Claim7.holds Tryz.pinned (.plain (OpenSpec.upto unionTellsSpec)) unionTellsUptoCard

/-- THE SECOND FORM's CARD OF 'tracelaw6.SysTells'. -/
def sysTellsUptoCard : Claim7 := { stood := { row := sysTellsUptoRow, standIns := [], harness := (true, "d48cb5013d09dc962e3ef3c99fbc8381fc334fe579c6021df345a6d8acc66c4e"), looks := false }, kinds := [], alts := [], laidByText := true, laidKinds := [.data, .pinned], laidTests := true, laidLooks := .later }
def SysTellsUptoCardSaid : Prop := Claim7.holds Tryz.pinned (.plain (OpenSpec.upto sysTellsSpec)) sysTellsUptoCard
end Rows
end Go.Proofs.YtjppfhgkanbemabGreatDoor
