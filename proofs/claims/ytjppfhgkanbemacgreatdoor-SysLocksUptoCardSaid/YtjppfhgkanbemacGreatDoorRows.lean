/-
  NARROWER THAN 'FOR EVERY INPUT', by the rows' own cells (each row's printed sentence says how): SysFlat: laid · SysLower: laid · SysRefused: laid · SysAsked: laid · SysOrphan: laid · SysLocks: laid · TopAnew: laid · TopMoved: laid · TopLinks: laid · TopDup: laid.
  DERIVED. THE GIVEN ROWS OF THIS SEAT. 10 by the template 'for every input the law returns true; each argument reads behind the call as it read before'; 0 by the template 'total and deterministic' (their statements: YtjppfhgkanbemacGreatDoorTotals.lean).
  GIVEN WITH THE SEED: the statements are not yours to turn. If you find one false, say at which input.
  Laid BY PROGRAM, IN A SANDBOX (cutbox-rows.mjs): the forced cells as the released guide's own fill.sh prints them over the translation 1cb2f591a217ac98… (all of the seat's roots in one cut). By AI agents, Wed Nov 11 2026. No macro, syntax, notation, axiom, sorry.
-/
import Derived.Test.YtjppfhgkanbemacGreatDoorChecked
import GoSem.PinnedTables
import GoSem.Claim
import GoSem.ClaimJoined
import GoSem.ClaimMapViews
import Derived.JoinedTies
import Derived.KernelRfl
namespace Go.Proofs.YtjppfhgkanbemacGreatDoor
/- THE CELL 'sum', in the pinned program and in every row, IS THE sha256 OF THE DUMP (.gsa) THAT YtjppfhgkanbemacGreatDoorProg.lean LOADS. Nothing in Lean hashes anything: it is a label: what it is worth is what the hold of that sum in a sandbox is worth. -/
noncomputable def Tryz.pinned : Pinned := { name := "ytjppfhgkanbemacgreatdoor", sum := "1cb2f591a217ac98a5071cac68d92dcd15632f7431842e79d9d86e52bd26b604", checked := Tryz.checked }
namespace Rows
def none {H : Type} : Left H := { results := [], args := [] }

/- WHAT THE LISTED PACKAGE-LEVEL VARIABLES READ AS WHEN THE CALL BEGINS. Each datum BY PROGRAM (the guide's laid-datum.mjs) off the statement by which the dump's own 'gosem.cut.vars' lays the variable. In a bare row this is a premise. The card (YtjppfhgkanbemacGreatDoorCards.lean) ties it to the program's text. -/
def laid_unicode_utf8_acceptRanges {H : Type} : DataW H := .agg [.agg [.lit (.int .u8 128), .lit (.int .u8 191)], .agg [.lit (.int .u8 160), .lit (.int .u8 191)], .agg [.lit (.int .u8 128), .lit (.int .u8 159)], .agg [.lit (.int .u8 144), .lit (.int .u8 191)], .agg [.lit (.int .u8 128), .lit (.int .u8 143)], .agg [.lit (.int .u8 0), .lit (.int .u8 0)], .agg [.lit (.int .u8 0), .lit (.int .u8 0)], .agg [.lit (.int .u8 0), .lit (.int .u8 0)], .agg [.lit (.int .u8 0), .lit (.int .u8 0)], .agg [.lit (.int .u8 0), .lit (.int .u8 0)], .agg [.lit (.int .u8 0), .lit (.int .u8 0)], .agg [.lit (.int .u8 0), .lit (.int .u8 0)], .agg [.lit (.int .u8 0), .lit (.int .u8 0)], .agg [.lit (.int .u8 0), .lit (.int .u8 0)], .agg [.lit (.int .u8 0), .lit (.int .u8 0)], .agg [.lit (.int .u8 0), .lit (.int .u8 0)]]
/-- One of Go's own tables, pinned by name: the form's constant. -/
def laid_unicode_utf8_first : DataW Unit := Go.Pinned.utf8First

/-- 'tracelaw6.SysFlat': WHATEVER THE INPUT: true; the input reads as it did. -/
def sysFlatSpec : ChangeSpec := { name := "sysFlat", fn := fun _ => fun
  | [d1, d2] => { results := [.lit (.bool true)], args := [d1, d2] }
  | _ => none }
def sysFlatRow : OpenClaim := { program := "ytjppfhgkanbemacgreatdoor", sum := "1cb2f591a217ac98a5071cac68d92dcd15632f7431842e79d9d86e52bd26b604", func := "tracings/tracelaw6.SysFlat", spec := "sysFlat", inPlace := ["internal/bytealg.IndexByteString", "internal/bytealg.IndexString", "internal/bytealg.CountString", "internal/bytealg.abigen_runtime_cmpstring", "slices.overlaps[tracings/api.Entry]", "internal/abi.NoEscape", "internal/bytealg.MakeNoZero"], unfollowed := true, recurses := true, named := ["unicode/utf8.first", "unicode/utf8.acceptRanges", "internal/bytealg.MaxLen"], apart := false, laid := [("unicode/utf8.acceptRanges", laid_unicode_utf8_acceptRanges), ("unicode/utf8.first", laid_unicode_utf8_first)] }
def SysFlatSaid : Prop := sysFlatRow.holds Tryz.pinned (OpenSpec.ofChange sysFlatSpec)

/-- ITS FALSE NEIGHBOUR: 'it returns false'. Refute it at one input. -/
def sysFlatWrong : ChangeSpec := { name := "sysFlat", fn := fun _ => fun
  | [d1, d2] => { results := [.lit (.bool false)], args := [d1, d2] }
  | _ => none }
def SysFlatWrongFalsely : Prop := sysFlatRow.holds Tryz.pinned (OpenSpec.ofChange sysFlatWrong)

/-- 'tracelaw6.SysLower': WHATEVER THE INPUT: true; the input reads as it did. -/
def sysLowerSpec : ChangeSpec := { name := "sysLower", fn := fun _ => fun
  | [d1, d2] => { results := [.lit (.bool true)], args := [d1, d2] }
  | _ => none }
def sysLowerRow : OpenClaim := { program := "ytjppfhgkanbemacgreatdoor", sum := "1cb2f591a217ac98a5071cac68d92dcd15632f7431842e79d9d86e52bd26b604", func := "tracings/tracelaw6.SysLower", spec := "sysLower", inPlace := ["internal/bytealg.IndexByteString", "internal/bytealg.IndexString", "internal/bytealg.CountString", "internal/bytealg.abigen_runtime_cmpstring", "slices.overlaps[tracings/api.Entry]", "internal/abi.NoEscape", "internal/bytealg.MakeNoZero"], unfollowed := true, recurses := true, named := ["unicode/utf8.first", "unicode/utf8.acceptRanges", "internal/bytealg.MaxLen"], apart := false, laid := [("unicode/utf8.acceptRanges", laid_unicode_utf8_acceptRanges), ("unicode/utf8.first", laid_unicode_utf8_first)] }
def SysLowerSaid : Prop := sysLowerRow.holds Tryz.pinned (OpenSpec.ofChange sysLowerSpec)

/-- ITS FALSE NEIGHBOUR: 'it returns false'. Refute it at one input. -/
def sysLowerWrong : ChangeSpec := { name := "sysLower", fn := fun _ => fun
  | [d1, d2] => { results := [.lit (.bool false)], args := [d1, d2] }
  | _ => none }
def SysLowerWrongFalsely : Prop := sysLowerRow.holds Tryz.pinned (OpenSpec.ofChange sysLowerWrong)

/-- 'tracelaw6.SysRefused': WHATEVER THE INPUT: true; the input reads as it did. -/
def sysRefusedSpec : ChangeSpec := { name := "sysRefused", fn := fun _ => fun
  | [d1, d2] => { results := [.lit (.bool true)], args := [d1, d2] }
  | _ => none }
def sysRefusedRow : OpenClaim := { program := "ytjppfhgkanbemacgreatdoor", sum := "1cb2f591a217ac98a5071cac68d92dcd15632f7431842e79d9d86e52bd26b604", func := "tracings/tracelaw6.SysRefused", spec := "sysRefused", inPlace := ["internal/bytealg.IndexByteString", "internal/bytealg.IndexString", "internal/bytealg.CountString", "internal/bytealg.abigen_runtime_cmpstring", "slices.overlaps[tracings/api.Entry]", "internal/abi.NoEscape", "internal/bytealg.MakeNoZero"], unfollowed := true, recurses := true, named := ["unicode/utf8.first", "unicode/utf8.acceptRanges", "internal/bytealg.MaxLen"], apart := false, laid := [("unicode/utf8.acceptRanges", laid_unicode_utf8_acceptRanges), ("unicode/utf8.first", laid_unicode_utf8_first)] }
def SysRefusedSaid : Prop := sysRefusedRow.holds Tryz.pinned (OpenSpec.ofChange sysRefusedSpec)

/-- ITS FALSE NEIGHBOUR: 'it returns false'. Refute it at one input. -/
def sysRefusedWrong : ChangeSpec := { name := "sysRefused", fn := fun _ => fun
  | [d1, d2] => { results := [.lit (.bool false)], args := [d1, d2] }
  | _ => none }
def SysRefusedWrongFalsely : Prop := sysRefusedRow.holds Tryz.pinned (OpenSpec.ofChange sysRefusedWrong)

/-- 'tracelaw6.SysAsked': WHATEVER THE INPUT: true; the input reads as it did. -/
def sysAskedSpec : ChangeSpec := { name := "sysAsked", fn := fun _ => fun
  | [d1, d2] => { results := [.lit (.bool true)], args := [d1, d2] }
  | _ => none }
def sysAskedRow : OpenClaim := { program := "ytjppfhgkanbemacgreatdoor", sum := "1cb2f591a217ac98a5071cac68d92dcd15632f7431842e79d9d86e52bd26b604", func := "tracings/tracelaw6.SysAsked", spec := "sysAsked", inPlace := ["internal/bytealg.IndexByteString", "internal/bytealg.IndexString", "internal/bytealg.CountString", "internal/bytealg.abigen_runtime_cmpstring", "slices.overlaps[tracings/api.Entry]", "internal/abi.NoEscape", "internal/bytealg.MakeNoZero"], unfollowed := true, recurses := true, named := ["unicode/utf8.first", "unicode/utf8.acceptRanges", "internal/bytealg.MaxLen"], apart := false, laid := [("unicode/utf8.acceptRanges", laid_unicode_utf8_acceptRanges), ("unicode/utf8.first", laid_unicode_utf8_first)] }
def SysAskedSaid : Prop := sysAskedRow.holds Tryz.pinned (OpenSpec.ofChange sysAskedSpec)

/-- ITS FALSE NEIGHBOUR: 'it returns false'. Refute it at one input. -/
def sysAskedWrong : ChangeSpec := { name := "sysAsked", fn := fun _ => fun
  | [d1, d2] => { results := [.lit (.bool false)], args := [d1, d2] }
  | _ => none }
def SysAskedWrongFalsely : Prop := sysAskedRow.holds Tryz.pinned (OpenSpec.ofChange sysAskedWrong)

/-- 'tracelaw6.SysOrphan': WHATEVER THE INPUT: true; the input reads as it did. -/
def sysOrphanSpec : ChangeSpec := { name := "sysOrphan", fn := fun _ => fun
  | [d1, d2, d3] => { results := [.lit (.bool true)], args := [d1, d2, d3] }
  | _ => none }
def sysOrphanRow : OpenClaim := { program := "ytjppfhgkanbemacgreatdoor", sum := "1cb2f591a217ac98a5071cac68d92dcd15632f7431842e79d9d86e52bd26b604", func := "tracings/tracelaw6.SysOrphan", spec := "sysOrphan", inPlace := ["internal/bytealg.IndexByteString", "internal/bytealg.IndexString", "internal/bytealg.CountString", "internal/bytealg.abigen_runtime_cmpstring", "slices.overlaps[tracings/api.Entry]", "internal/abi.NoEscape", "internal/bytealg.MakeNoZero"], unfollowed := true, recurses := true, named := ["unicode/utf8.first", "unicode/utf8.acceptRanges", "internal/bytealg.MaxLen"], apart := false, laid := [("unicode/utf8.acceptRanges", laid_unicode_utf8_acceptRanges), ("unicode/utf8.first", laid_unicode_utf8_first)] }
def SysOrphanSaid : Prop := sysOrphanRow.holds Tryz.pinned (OpenSpec.ofChange sysOrphanSpec)

/-- ITS FALSE NEIGHBOUR: 'it returns false'. Refute it at one input. -/
def sysOrphanWrong : ChangeSpec := { name := "sysOrphan", fn := fun _ => fun
  | [d1, d2, d3] => { results := [.lit (.bool false)], args := [d1, d2, d3] }
  | _ => none }
def SysOrphanWrongFalsely : Prop := sysOrphanRow.holds Tryz.pinned (OpenSpec.ofChange sysOrphanWrong)

/-- 'tracelaw6.SysLocks': WHATEVER THE INPUT: true; the input reads as it did. -/
def sysLocksSpec : ChangeSpec := { name := "sysLocks", fn := fun _ => fun
  | [d1, d2, d3, d4] => { results := [.lit (.bool true)], args := [d1, d2, d3, d4] }
  | _ => none }
def sysLocksRow : OpenClaim := { program := "ytjppfhgkanbemacgreatdoor", sum := "1cb2f591a217ac98a5071cac68d92dcd15632f7431842e79d9d86e52bd26b604", func := "tracings/tracelaw6.SysLocks", spec := "sysLocks", inPlace := ["internal/bytealg.IndexByteString", "internal/bytealg.IndexString", "internal/bytealg.CountString", "internal/bytealg.abigen_runtime_cmpstring", "slices.overlaps[tracings/api.Entry]", "internal/abi.NoEscape", "internal/bytealg.MakeNoZero"], unfollowed := true, recurses := true, named := ["unicode/utf8.first", "unicode/utf8.acceptRanges", "internal/bytealg.MaxLen"], apart := false, laid := [("unicode/utf8.acceptRanges", laid_unicode_utf8_acceptRanges), ("unicode/utf8.first", laid_unicode_utf8_first)] }
def SysLocksSaid : Prop := sysLocksRow.holds Tryz.pinned (OpenSpec.ofChange sysLocksSpec)

/-- ITS FALSE NEIGHBOUR: 'it returns false'. Refute it at one input. -/
def sysLocksWrong : ChangeSpec := { name := "sysLocks", fn := fun _ => fun
  | [d1, d2, d3, d4] => { results := [.lit (.bool false)], args := [d1, d2, d3, d4] }
  | _ => none }
def SysLocksWrongFalsely : Prop := sysLocksRow.holds Tryz.pinned (OpenSpec.ofChange sysLocksWrong)

/-- 'tracetop.TopAnew': WHATEVER THE INPUT: true; the input reads as it did. -/
def topAnewSpec : ChangeSpec := { name := "topAnew", fn := fun _ => fun
  | [d] => { results := [.lit (.bool true)], args := [d] }
  | _ => none }
def topAnewRow : OpenClaim := { program := "ytjppfhgkanbemacgreatdoor", sum := "1cb2f591a217ac98a5071cac68d92dcd15632f7431842e79d9d86e52bd26b604", func := "tracings/tracetop.TopAnew", spec := "topAnew", inPlace := ["internal/bytealg.IndexByteString", "internal/bytealg.IndexString", "internal/bytealg.CountString", "internal/bytealg.abigen_runtime_cmpstring", "slices.overlaps[tracings/api.Entry]", "internal/abi.NoEscape", "internal/bytealg.MakeNoZero"], unfollowed := true, recurses := true, named := ["unicode/utf8.first", "unicode/utf8.acceptRanges", "internal/bytealg.MaxLen"], apart := false, laid := [("unicode/utf8.acceptRanges", laid_unicode_utf8_acceptRanges), ("unicode/utf8.first", laid_unicode_utf8_first)] }
def TopAnewSaid : Prop := topAnewRow.holds Tryz.pinned (OpenSpec.ofChange topAnewSpec)

/-- ITS FALSE NEIGHBOUR: 'it returns false'. Refute it at one input. -/
def topAnewWrong : ChangeSpec := { name := "topAnew", fn := fun _ => fun
  | [d] => { results := [.lit (.bool false)], args := [d] }
  | _ => none }
def TopAnewWrongFalsely : Prop := topAnewRow.holds Tryz.pinned (OpenSpec.ofChange topAnewWrong)

/-- 'tracetop.TopMoved': WHATEVER THE INPUT: true; the input reads as it did. -/
def topMovedSpec : ChangeSpec := { name := "topMoved", fn := fun _ => fun
  | [d1, d2] => { results := [.lit (.bool true)], args := [d1, d2] }
  | _ => none }
def topMovedRow : OpenClaim := { program := "ytjppfhgkanbemacgreatdoor", sum := "1cb2f591a217ac98a5071cac68d92dcd15632f7431842e79d9d86e52bd26b604", func := "tracings/tracetop.TopMoved", spec := "topMoved", inPlace := ["internal/bytealg.IndexByteString", "internal/bytealg.IndexString", "internal/bytealg.CountString", "internal/bytealg.abigen_runtime_cmpstring", "slices.overlaps[tracings/api.Entry]", "internal/abi.NoEscape", "internal/bytealg.MakeNoZero"], unfollowed := true, recurses := true, named := ["unicode/utf8.first", "unicode/utf8.acceptRanges", "internal/bytealg.MaxLen"], apart := false, laid := [("unicode/utf8.acceptRanges", laid_unicode_utf8_acceptRanges), ("unicode/utf8.first", laid_unicode_utf8_first)] }
def TopMovedSaid : Prop := topMovedRow.holds Tryz.pinned (OpenSpec.ofChange topMovedSpec)

/-- ITS FALSE NEIGHBOUR: 'it returns false'. Refute it at one input. -/
def topMovedWrong : ChangeSpec := { name := "topMoved", fn := fun _ => fun
  | [d1, d2] => { results := [.lit (.bool false)], args := [d1, d2] }
  | _ => none }
def TopMovedWrongFalsely : Prop := topMovedRow.holds Tryz.pinned (OpenSpec.ofChange topMovedWrong)

/-- 'tracetop.TopLinks': WHATEVER THE INPUT: true; the input reads as it did. -/
def topLinksSpec : ChangeSpec := { name := "topLinks", fn := fun _ => fun
  | [d] => { results := [.lit (.bool true)], args := [d] }
  | _ => none }
def topLinksRow : OpenClaim := { program := "ytjppfhgkanbemacgreatdoor", sum := "1cb2f591a217ac98a5071cac68d92dcd15632f7431842e79d9d86e52bd26b604", func := "tracings/tracetop.TopLinks", spec := "topLinks", inPlace := ["internal/bytealg.IndexByteString", "internal/bytealg.IndexString", "internal/bytealg.CountString", "internal/bytealg.abigen_runtime_cmpstring", "slices.overlaps[tracings/api.Entry]", "internal/abi.NoEscape", "internal/bytealg.MakeNoZero"], unfollowed := true, recurses := true, named := ["unicode/utf8.first", "unicode/utf8.acceptRanges", "internal/bytealg.MaxLen"], apart := false, laid := [("unicode/utf8.acceptRanges", laid_unicode_utf8_acceptRanges), ("unicode/utf8.first", laid_unicode_utf8_first)] }
def TopLinksSaid : Prop := topLinksRow.holds Tryz.pinned (OpenSpec.ofChange topLinksSpec)

/-- ITS FALSE NEIGHBOUR: 'it returns false'. Refute it at one input. -/
def topLinksWrong : ChangeSpec := { name := "topLinks", fn := fun _ => fun
  | [d] => { results := [.lit (.bool false)], args := [d] }
  | _ => none }
def TopLinksWrongFalsely : Prop := topLinksRow.holds Tryz.pinned (OpenSpec.ofChange topLinksWrong)

/-- 'tracetop.TopDup': WHATEVER THE INPUT: true; the input reads as it did. -/
def topDupSpec : ChangeSpec := { name := "topDup", fn := fun _ => fun
  | [d1, d2] => { results := [.lit (.bool true)], args := [d1, d2] }
  | _ => none }
def topDupRow : OpenClaim := { program := "ytjppfhgkanbemacgreatdoor", sum := "1cb2f591a217ac98a5071cac68d92dcd15632f7431842e79d9d86e52bd26b604", func := "tracings/tracetop.TopDup", spec := "topDup", inPlace := ["internal/bytealg.IndexByteString", "internal/bytealg.IndexString", "internal/bytealg.CountString", "internal/bytealg.abigen_runtime_cmpstring", "slices.overlaps[tracings/api.Entry]", "internal/abi.NoEscape", "internal/bytealg.MakeNoZero"], unfollowed := true, recurses := true, named := ["unicode/utf8.first", "unicode/utf8.acceptRanges", "internal/bytealg.MaxLen"], apart := false, laid := [("unicode/utf8.acceptRanges", laid_unicode_utf8_acceptRanges), ("unicode/utf8.first", laid_unicode_utf8_first)] }
def TopDupSaid : Prop := topDupRow.holds Tryz.pinned (OpenSpec.ofChange topDupSpec)

/-- ITS FALSE NEIGHBOUR: 'it returns false'. Refute it at one input. -/
def topDupWrong : ChangeSpec := { name := "topDup", fn := fun _ => fun
  | [d1, d2] => { results := [.lit (.bool false)], args := [d1, d2] }
  | _ => none }
def TopDupWrongFalsely : Prop := topDupRow.holds Tryz.pinned (OpenSpec.ofChange topDupWrong)

/- THE SECOND FORM. 'bulk': how many values and letters a reading holds, each counted each time it is reached (what is shared counts as often as it is met; a slice's spare places count too). A statement '..UptoSaid' is the law's where the arguments, and the package variables that the reading takes, are together of bulk at most 1048576: NARROWER than '..Said'. Prove '..Said' where nothing that the law and all that it calls make is longer than what came in: it says more and counts as full. Else prove '..UptoSaid'. A law counts once. -/
mutual
def uptoBulk {H : Type} : DataW H → Nat
  | .lit (.string bytes) => bytes.length + 1
  | .lit _ => 1
  | .nil => 1
  | .ptr d => uptoBulk d + 1
  | .slice elems spare => uptoBulkAll elems + uptoBulkAll spare + 1
  | .agg parts => uptoBulkAll parts + 1
  | .iface _ d => uptoBulk d + 1
  | .map entries => uptoBulkEntries entries + 1
  | .held _ => 1
def uptoBulkAll {H : Type} : List (DataW H) → Nat
  | [] => 0
  | d :: r => uptoBulk d + uptoBulkAll r
def uptoBulkEntries {H : Type} : List (Lit × DataW H) → Nat
  | [] => 0
  | x :: r => uptoBulkEntry x + uptoBulkEntries r
def uptoBulkEntry {H : Type} : Lit × DataW H → Nat
  | (.string bytes, d) => bytes.length + uptoBulk d + 1
  | (_, d) => uptoBulk d + 1
 end
def uptoSmall : (H : Type) → List (DataW H) → Bool := fun _ ds => decide (uptoBulkAll ds ≤ 1048576)
def OpenSpec.upto (s : _root_.Go.ChangeSpec) : _root_.Go.OpenSpec := { _root_.Go.OpenSpec.ofChange s with cond := some uptoSmall }

/-- 'tracelaw6.SysFlat', WHERE WHAT IT READS IS OF BULK AT MOST 1048576: true; the input reads as it did. -/
def sysFlatUptoRow : OpenClaim := { program := "ytjppfhgkanbemacgreatdoor", sum := "1cb2f591a217ac98a5071cac68d92dcd15632f7431842e79d9d86e52bd26b604", func := "tracings/tracelaw6.SysFlat", spec := "sysFlat", inPlace := ["internal/bytealg.IndexByteString", "internal/bytealg.IndexString", "internal/bytealg.CountString", "internal/bytealg.abigen_runtime_cmpstring", "slices.overlaps[tracings/api.Entry]", "internal/abi.NoEscape", "internal/bytealg.MakeNoZero"], unfollowed := true, recurses := true, named := ["unicode/utf8.first", "unicode/utf8.acceptRanges", "internal/bytealg.MaxLen"], apart := false, laid := [("unicode/utf8.acceptRanges", laid_unicode_utf8_acceptRanges), ("unicode/utf8.first", laid_unicode_utf8_first)], narrowed := true }
def SysFlatUptoSaid : Prop := sysFlatUptoRow.holds Tryz.pinned (OpenSpec.upto sysFlatSpec)

/-- 'tracelaw6.SysLower', WHERE WHAT IT READS IS OF BULK AT MOST 1048576: true; the input reads as it did. -/
def sysLowerUptoRow : OpenClaim := { program := "ytjppfhgkanbemacgreatdoor", sum := "1cb2f591a217ac98a5071cac68d92dcd15632f7431842e79d9d86e52bd26b604", func := "tracings/tracelaw6.SysLower", spec := "sysLower", inPlace := ["internal/bytealg.IndexByteString", "internal/bytealg.IndexString", "internal/bytealg.CountString", "internal/bytealg.abigen_runtime_cmpstring", "slices.overlaps[tracings/api.Entry]", "internal/abi.NoEscape", "internal/bytealg.MakeNoZero"], unfollowed := true, recurses := true, named := ["unicode/utf8.first", "unicode/utf8.acceptRanges", "internal/bytealg.MaxLen"], apart := false, laid := [("unicode/utf8.acceptRanges", laid_unicode_utf8_acceptRanges), ("unicode/utf8.first", laid_unicode_utf8_first)], narrowed := true }
def SysLowerUptoSaid : Prop := sysLowerUptoRow.holds Tryz.pinned (OpenSpec.upto sysLowerSpec)

/-- 'tracelaw6.SysRefused', WHERE WHAT IT READS IS OF BULK AT MOST 1048576: true; the input reads as it did. -/
def sysRefusedUptoRow : OpenClaim := { program := "ytjppfhgkanbemacgreatdoor", sum := "1cb2f591a217ac98a5071cac68d92dcd15632f7431842e79d9d86e52bd26b604", func := "tracings/tracelaw6.SysRefused", spec := "sysRefused", inPlace := ["internal/bytealg.IndexByteString", "internal/bytealg.IndexString", "internal/bytealg.CountString", "internal/bytealg.abigen_runtime_cmpstring", "slices.overlaps[tracings/api.Entry]", "internal/abi.NoEscape", "internal/bytealg.MakeNoZero"], unfollowed := true, recurses := true, named := ["unicode/utf8.first", "unicode/utf8.acceptRanges", "internal/bytealg.MaxLen"], apart := false, laid := [("unicode/utf8.acceptRanges", laid_unicode_utf8_acceptRanges), ("unicode/utf8.first", laid_unicode_utf8_first)], narrowed := true }
def SysRefusedUptoSaid : Prop := sysRefusedUptoRow.holds Tryz.pinned (OpenSpec.upto sysRefusedSpec)

/-- 'tracelaw6.SysAsked', WHERE WHAT IT READS IS OF BULK AT MOST 1048576: true; the input reads as it did. -/
def sysAskedUptoRow : OpenClaim := { program := "ytjppfhgkanbemacgreatdoor", sum := "1cb2f591a217ac98a5071cac68d92dcd15632f7431842e79d9d86e52bd26b604", func := "tracings/tracelaw6.SysAsked", spec := "sysAsked", inPlace := ["internal/bytealg.IndexByteString", "internal/bytealg.IndexString", "internal/bytealg.CountString", "internal/bytealg.abigen_runtime_cmpstring", "slices.overlaps[tracings/api.Entry]", "internal/abi.NoEscape", "internal/bytealg.MakeNoZero"], unfollowed := true, recurses := true, named := ["unicode/utf8.first", "unicode/utf8.acceptRanges", "internal/bytealg.MaxLen"], apart := false, laid := [("unicode/utf8.acceptRanges", laid_unicode_utf8_acceptRanges), ("unicode/utf8.first", laid_unicode_utf8_first)], narrowed := true }
def SysAskedUptoSaid : Prop := sysAskedUptoRow.holds Tryz.pinned (OpenSpec.upto sysAskedSpec)

/-- 'tracelaw6.SysOrphan', WHERE WHAT IT READS IS OF BULK AT MOST 1048576: true; the input reads as it did. -/
def sysOrphanUptoRow : OpenClaim := { program := "ytjppfhgkanbemacgreatdoor", sum := "1cb2f591a217ac98a5071cac68d92dcd15632f7431842e79d9d86e52bd26b604", func := "tracings/tracelaw6.SysOrphan", spec := "sysOrphan", inPlace := ["internal/bytealg.IndexByteString", "internal/bytealg.IndexString", "internal/bytealg.CountString", "internal/bytealg.abigen_runtime_cmpstring", "slices.overlaps[tracings/api.Entry]", "internal/abi.NoEscape", "internal/bytealg.MakeNoZero"], unfollowed := true, recurses := true, named := ["unicode/utf8.first", "unicode/utf8.acceptRanges", "internal/bytealg.MaxLen"], apart := false, laid := [("unicode/utf8.acceptRanges", laid_unicode_utf8_acceptRanges), ("unicode/utf8.first", laid_unicode_utf8_first)], narrowed := true }
def SysOrphanUptoSaid : Prop := sysOrphanUptoRow.holds Tryz.pinned (OpenSpec.upto sysOrphanSpec)

/-- 'tracelaw6.SysLocks', WHERE WHAT IT READS IS OF BULK AT MOST 1048576: true; the input reads as it did. -/
def sysLocksUptoRow : OpenClaim := { program := "ytjppfhgkanbemacgreatdoor", sum := "1cb2f591a217ac98a5071cac68d92dcd15632f7431842e79d9d86e52bd26b604", func := "tracings/tracelaw6.SysLocks", spec := "sysLocks", inPlace := ["internal/bytealg.IndexByteString", "internal/bytealg.IndexString", "internal/bytealg.CountString", "internal/bytealg.abigen_runtime_cmpstring", "slices.overlaps[tracings/api.Entry]", "internal/abi.NoEscape", "internal/bytealg.MakeNoZero"], unfollowed := true, recurses := true, named := ["unicode/utf8.first", "unicode/utf8.acceptRanges", "internal/bytealg.MaxLen"], apart := false, laid := [("unicode/utf8.acceptRanges", laid_unicode_utf8_acceptRanges), ("unicode/utf8.first", laid_unicode_utf8_first)], narrowed := true }
def SysLocksUptoSaid : Prop := sysLocksUptoRow.holds Tryz.pinned (OpenSpec.upto sysLocksSpec)

/-- 'tracetop.TopAnew', WHERE WHAT IT READS IS OF BULK AT MOST 1048576: true; the input reads as it did. -/
def topAnewUptoRow : OpenClaim := { program := "ytjppfhgkanbemacgreatdoor", sum := "1cb2f591a217ac98a5071cac68d92dcd15632f7431842e79d9d86e52bd26b604", func := "tracings/tracetop.TopAnew", spec := "topAnew", inPlace := ["internal/bytealg.IndexByteString", "internal/bytealg.IndexString", "internal/bytealg.CountString", "internal/bytealg.abigen_runtime_cmpstring", "slices.overlaps[tracings/api.Entry]", "internal/abi.NoEscape", "internal/bytealg.MakeNoZero"], unfollowed := true, recurses := true, named := ["unicode/utf8.first", "unicode/utf8.acceptRanges", "internal/bytealg.MaxLen"], apart := false, laid := [("unicode/utf8.acceptRanges", laid_unicode_utf8_acceptRanges), ("unicode/utf8.first", laid_unicode_utf8_first)], narrowed := true }
def TopAnewUptoSaid : Prop := topAnewUptoRow.holds Tryz.pinned (OpenSpec.upto topAnewSpec)

/-- 'tracetop.TopMoved', WHERE WHAT IT READS IS OF BULK AT MOST 1048576: true; the input reads as it did. -/
def topMovedUptoRow : OpenClaim := { program := "ytjppfhgkanbemacgreatdoor", sum := "1cb2f591a217ac98a5071cac68d92dcd15632f7431842e79d9d86e52bd26b604", func := "tracings/tracetop.TopMoved", spec := "topMoved", inPlace := ["internal/bytealg.IndexByteString", "internal/bytealg.IndexString", "internal/bytealg.CountString", "internal/bytealg.abigen_runtime_cmpstring", "slices.overlaps[tracings/api.Entry]", "internal/abi.NoEscape", "internal/bytealg.MakeNoZero"], unfollowed := true, recurses := true, named := ["unicode/utf8.first", "unicode/utf8.acceptRanges", "internal/bytealg.MaxLen"], apart := false, laid := [("unicode/utf8.acceptRanges", laid_unicode_utf8_acceptRanges), ("unicode/utf8.first", laid_unicode_utf8_first)], narrowed := true }
def TopMovedUptoSaid : Prop := topMovedUptoRow.holds Tryz.pinned (OpenSpec.upto topMovedSpec)

/-- 'tracetop.TopLinks', WHERE WHAT IT READS IS OF BULK AT MOST 1048576: true; the input reads as it did. -/
def topLinksUptoRow : OpenClaim := { program := "ytjppfhgkanbemacgreatdoor", sum := "1cb2f591a217ac98a5071cac68d92dcd15632f7431842e79d9d86e52bd26b604", func := "tracings/tracetop.TopLinks", spec := "topLinks", inPlace := ["internal/bytealg.IndexByteString", "internal/bytealg.IndexString", "internal/bytealg.CountString", "internal/bytealg.abigen_runtime_cmpstring", "slices.overlaps[tracings/api.Entry]", "internal/abi.NoEscape", "internal/bytealg.MakeNoZero"], unfollowed := true, recurses := true, named := ["unicode/utf8.first", "unicode/utf8.acceptRanges", "internal/bytealg.MaxLen"], apart := false, laid := [("unicode/utf8.acceptRanges", laid_unicode_utf8_acceptRanges), ("unicode/utf8.first", laid_unicode_utf8_first)], narrowed := true }
def TopLinksUptoSaid : Prop := topLinksUptoRow.holds Tryz.pinned (OpenSpec.upto topLinksSpec)

/-- 'tracetop.TopDup', WHERE WHAT IT READS IS OF BULK AT MOST 1048576: true; the input reads as it did. -/
def topDupUptoRow : OpenClaim := { program := "ytjppfhgkanbemacgreatdoor", sum := "1cb2f591a217ac98a5071cac68d92dcd15632f7431842e79d9d86e52bd26b604", func := "tracings/tracetop.TopDup", spec := "topDup", inPlace := ["internal/bytealg.IndexByteString", "internal/bytealg.IndexString", "internal/bytealg.CountString", "internal/bytealg.abigen_runtime_cmpstring", "slices.overlaps[tracings/api.Entry]", "internal/abi.NoEscape", "internal/bytealg.MakeNoZero"], unfollowed := true, recurses := true, named := ["unicode/utf8.first", "unicode/utf8.acceptRanges", "internal/bytealg.MaxLen"], apart := false, laid := [("unicode/utf8.acceptRanges", laid_unicode_utf8_acceptRanges), ("unicode/utf8.first", laid_unicode_utf8_first)], narrowed := true }
def TopDupUptoSaid : Prop := topDupUptoRow.holds Tryz.pinned (OpenSpec.upto topDupSpec)

end Rows
end Go.Proofs.YtjppfhgkanbemacGreatDoor
