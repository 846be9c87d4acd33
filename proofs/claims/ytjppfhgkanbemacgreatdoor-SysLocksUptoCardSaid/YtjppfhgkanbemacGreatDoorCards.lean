/-
  DERIVED. GIVEN WITH THE SEED: THE CARDS: each row of YtjppfhgkanbemacGreatDoorRows.lean that lists a variable, with what it lists TIED to the program's text (the seventh form; the later family's looks); each row that meets fmt, with fmt's text TOLD by the authors' own Lean function (tested against real Go, not proved from fmt's source: count such statements apart). THE CARD IS WHAT COUNTS. Prove the row's statement (the work); the ties are given (YtjppfhgkanbemacGreatDoorTie.lean); close each card by the builder's one call (the guide's Derived/Test/ToyasCard.lean, 'card_holds'). Laid BY PROGRAM, IN A SANDBOX (cutbox-door.mjs). By AI agents, Wed Nov 11 2026. No macro, syntax, notation, axiom, sorry.
-/
import Derived.Test.YtjppfhgkanbemacGreatDoorRows
import GoSem.ClaimSeven
namespace Go.Proofs.YtjppfhgkanbemacGreatDoor
namespace Rows

/-- THE TIED CARD OF 'tracelaw6.SysFlat'. -/
def sysFlatCard : Claim7 := { stood := { row := sysFlatRow, standIns := [], harness := (true, "5aeecc0affc029f56fd666f5102238e4db01c9e46b63263f1b983ebe42e09260"), looks := false }, kinds := [], alts := [], laidByText := true, laidKinds := [.data, .pinned], laidTests := true, laidLooks := .later }
def SysFlatCardSaid : Prop := Claim7.holds Tryz.pinned (.plain (OpenSpec.ofChange sysFlatSpec)) sysFlatCard

/-- THE TIED CARD OF 'tracelaw6.SysLower'. -/
def sysLowerCard : Claim7 := { stood := { row := sysLowerRow, standIns := [], harness := (true, "5aeecc0affc029f56fd666f5102238e4db01c9e46b63263f1b983ebe42e09260"), looks := false }, kinds := [], alts := [], laidByText := true, laidKinds := [.data, .pinned], laidTests := true, laidLooks := .later }
def SysLowerCardSaid : Prop := Claim7.holds Tryz.pinned (.plain (OpenSpec.ofChange sysLowerSpec)) sysLowerCard

/-- THE TIED CARD OF 'tracelaw6.SysRefused'. -/
def sysRefusedCard : Claim7 := { stood := { row := sysRefusedRow, standIns := [], harness := (true, "5aeecc0affc029f56fd666f5102238e4db01c9e46b63263f1b983ebe42e09260"), looks := false }, kinds := [], alts := [], laidByText := true, laidKinds := [.data, .pinned], laidTests := true, laidLooks := .later }
def SysRefusedCardSaid : Prop := Claim7.holds Tryz.pinned (.plain (OpenSpec.ofChange sysRefusedSpec)) sysRefusedCard

/-- THE TIED CARD OF 'tracelaw6.SysAsked'. -/
def sysAskedCard : Claim7 := { stood := { row := sysAskedRow, standIns := [], harness := (true, "5aeecc0affc029f56fd666f5102238e4db01c9e46b63263f1b983ebe42e09260"), looks := false }, kinds := [], alts := [], laidByText := true, laidKinds := [.data, .pinned], laidTests := true, laidLooks := .later }
def SysAskedCardSaid : Prop := Claim7.holds Tryz.pinned (.plain (OpenSpec.ofChange sysAskedSpec)) sysAskedCard

/-- THE TIED CARD OF 'tracelaw6.SysOrphan'. -/
def sysOrphanCard : Claim7 := { stood := { row := sysOrphanRow, standIns := [], harness := (true, "5aeecc0affc029f56fd666f5102238e4db01c9e46b63263f1b983ebe42e09260"), looks := false }, kinds := [], alts := [], laidByText := true, laidKinds := [.data, .pinned], laidTests := true, laidLooks := .later }
def SysOrphanCardSaid : Prop := Claim7.holds Tryz.pinned (.plain (OpenSpec.ofChange sysOrphanSpec)) sysOrphanCard

/-- THE TIED CARD OF 'tracelaw6.SysLocks'. -/
def sysLocksCard : Claim7 := { stood := { row := sysLocksRow, standIns := [], harness := (true, "5aeecc0affc029f56fd666f5102238e4db01c9e46b63263f1b983ebe42e09260"), looks := false }, kinds := [], alts := [], laidByText := true, laidKinds := [.data, .pinned], laidTests := true, laidLooks := .later }
def SysLocksCardSaid : Prop := Claim7.holds Tryz.pinned (.plain (OpenSpec.ofChange sysLocksSpec)) sysLocksCard

/-- THE TIED CARD OF 'tracetop.TopAnew'. -/
def topAnewCard : Claim7 := { stood := { row := topAnewRow, standIns := [], harness := (true, "5aeecc0affc029f56fd666f5102238e4db01c9e46b63263f1b983ebe42e09260"), looks := false }, kinds := [], alts := [], laidByText := true, laidKinds := [.data, .pinned], laidTests := true, laidLooks := .later }
def TopAnewCardSaid : Prop := Claim7.holds Tryz.pinned (.plain (OpenSpec.ofChange topAnewSpec)) topAnewCard

/-- THE TIED CARD OF 'tracetop.TopMoved'. -/
def topMovedCard : Claim7 := { stood := { row := topMovedRow, standIns := [], harness := (true, "5aeecc0affc029f56fd666f5102238e4db01c9e46b63263f1b983ebe42e09260"), looks := false }, kinds := [], alts := [], laidByText := true, laidKinds := [.data, .pinned], laidTests := true, laidLooks := .later }
def TopMovedCardSaid : Prop := Claim7.holds Tryz.pinned (.plain (OpenSpec.ofChange topMovedSpec)) topMovedCard

/-- THE TIED CARD OF 'tracetop.TopLinks'. -/
def topLinksCard : Claim7 := { stood := { row := topLinksRow, standIns := [], harness := (true, "5aeecc0affc029f56fd666f5102238e4db01c9e46b63263f1b983ebe42e09260"), looks := false }, kinds := [], alts := [], laidByText := true, laidKinds := [.data, .pinned], laidTests := true, laidLooks := .later }
def TopLinksCardSaid : Prop := Claim7.holds Tryz.pinned (.plain (OpenSpec.ofChange topLinksSpec)) topLinksCard

/-- THE TIED CARD OF 'tracetop.TopDup'. -/
def topDupCard : Claim7 := { stood := { row := topDupRow, standIns := [], harness := (true, "5aeecc0affc029f56fd666f5102238e4db01c9e46b63263f1b983ebe42e09260"), looks := false }, kinds := [], alts := [], laidByText := true, laidKinds := [.data, .pinned], laidTests := true, laidLooks := .later }
def TopDupCardSaid : Prop := Claim7.holds Tryz.pinned (.plain (OpenSpec.ofChange topDupSpec)) topDupCard

/-- THE SECOND FORM's CARD OF 'tracelaw6.SysFlat'. -/
def sysFlatUptoCard : Claim7 := { stood := { row := sysFlatUptoRow, standIns := [], harness := (true, "5aeecc0affc029f56fd666f5102238e4db01c9e46b63263f1b983ebe42e09260"), looks := false }, kinds := [], alts := [], laidByText := true, laidKinds := [.data, .pinned], laidTests := true, laidLooks := .later }
def SysFlatUptoCardSaid : Prop := Claim7.holds Tryz.pinned (.plain (OpenSpec.upto sysFlatSpec)) sysFlatUptoCard

/-- THE SECOND FORM's CARD OF 'tracelaw6.SysLower'. -/
def sysLowerUptoCard : Claim7 := { stood := { row := sysLowerUptoRow, standIns := [], harness := (true, "5aeecc0affc029f56fd666f5102238e4db01c9e46b63263f1b983ebe42e09260"), looks := false }, kinds := [], alts := [], laidByText := true, laidKinds := [.data, .pinned], laidTests := true, laidLooks := .later }
def SysLowerUptoCardSaid : Prop := Claim7.holds Tryz.pinned (.plain (OpenSpec.upto sysLowerSpec)) sysLowerUptoCard

/-- THE SECOND FORM's CARD OF 'tracelaw6.SysRefused'. -/
def sysRefusedUptoCard : Claim7 := { stood := { row := sysRefusedUptoRow, standIns := [], harness := (true, "5aeecc0affc029f56fd666f5102238e4db01c9e46b63263f1b983ebe42e09260"), looks := false }, kinds := [], alts := [], laidByText := true, laidKinds := [.data, .pinned], laidTests := true, laidLooks := .later }
def SysRefusedUptoCardSaid : Prop := Claim7.holds Tryz.pinned (.plain (OpenSpec.upto sysRefusedSpec)) sysRefusedUptoCard

/-- THE SECOND FORM's CARD OF 'tracelaw6.SysAsked'. -/
def sysAskedUptoCard : Claim7 := { stood := { row := sysAskedUptoRow, standIns := [], harness := (true, "5aeecc0affc029f56fd666f5102238e4db01c9e46b63263f1b983ebe42e09260"), looks := false }, kinds := [], alts := [], laidByText := true, laidKinds := [.data, .pinned], laidTests := true, laidLooks := .later }
def SysAskedUptoCardSaid : Prop := Claim7.holds Tryz.pinned (.plain (OpenSpec.upto sysAskedSpec)) sysAskedUptoCard

/-- THE SECOND FORM's CARD OF 'tracelaw6.SysOrphan'. -/
def sysOrphanUptoCard : Claim7 := { stood := { row := sysOrphanUptoRow, standIns := [], harness := (true, "5aeecc0affc029f56fd666f5102238e4db01c9e46b63263f1b983ebe42e09260"), looks := false }, kinds := [], alts := [], laidByText := true, laidKinds := [.data, .pinned], laidTests := true, laidLooks := .later }
def SysOrphanUptoCardSaid : Prop := Claim7.holds Tryz.pinned (.plain (OpenSpec.upto sysOrphanSpec)) sysOrphanUptoCard

/-- THE SECOND FORM's CARD OF 'tracelaw6.SysLocks'. -/
def sysLocksUptoCard : Claim7 := { stood := { row := sysLocksUptoRow, standIns := [], harness := (true, "5aeecc0affc029f56fd666f5102238e4db01c9e46b63263f1b983ebe42e09260"), looks := false }, kinds := [], alts := [], laidByText := true, laidKinds := [.data, .pinned], laidTests := true, laidLooks := .later }
def SysLocksUptoCardSaid : Prop := Claim7.holds Tryz.pinned (.plain (OpenSpec.upto sysLocksSpec)) sysLocksUptoCard

/-- THE SECOND FORM's CARD OF 'tracetop.TopAnew'. -/
def topAnewUptoCard : Claim7 := { stood := { row := topAnewUptoRow, standIns := [], harness := (true, "5aeecc0affc029f56fd666f5102238e4db01c9e46b63263f1b983ebe42e09260"), looks := false }, kinds := [], alts := [], laidByText := true, laidKinds := [.data, .pinned], laidTests := true, laidLooks := .later }
def TopAnewUptoCardSaid : Prop := Claim7.holds Tryz.pinned (.plain (OpenSpec.upto topAnewSpec)) topAnewUptoCard

/-- THE SECOND FORM's CARD OF 'tracetop.TopMoved'. -/
def topMovedUptoCard : Claim7 := { stood := { row := topMovedUptoRow, standIns := [], harness := (true, "5aeecc0affc029f56fd666f5102238e4db01c9e46b63263f1b983ebe42e09260"), looks := false }, kinds := [], alts := [], laidByText := true, laidKinds := [.data, .pinned], laidTests := true, laidLooks := .later }
def TopMovedUptoCardSaid : Prop := Claim7.holds Tryz.pinned (.plain (OpenSpec.upto topMovedSpec)) topMovedUptoCard

/-- THE SECOND FORM's CARD OF 'tracetop.TopLinks'. -/
def topLinksUptoCard : Claim7 := { stood := { row := topLinksUptoRow, standIns := [], harness := (true, "5aeecc0affc029f56fd666f5102238e4db01c9e46b63263f1b983ebe42e09260"), looks := false }, kinds := [], alts := [], laidByText := true, laidKinds := [.data, .pinned], laidTests := true, laidLooks := .later }
def TopLinksUptoCardSaid : Prop := Claim7.holds Tryz.pinned (.plain (OpenSpec.upto topLinksSpec)) topLinksUptoCard

/-- THE SECOND FORM's CARD OF 'tracetop.TopDup'. -/
def topDupUptoCard : Claim7 := { stood := { row := topDupUptoRow, standIns := [], harness := (true, "5aeecc0affc029f56fd666f5102238e4db01c9e46b63263f1b983ebe42e09260"), looks := false }, kinds := [], alts := [], laidByText := true, laidKinds := [.data, .pinned], laidTests := true, laidLooks := .later }
def TopDupUptoCardSaid : Prop := Claim7.holds Tryz.pinned (.plain (OpenSpec.upto topDupSpec)) topDupUptoCard
end Rows
end Go.Proofs.YtjppfhgkanbemacGreatDoor
