/-
  No cell of these rows narrows 'for every input' (looked for: loops, veiled, ifaces, maps, wideKeys, modest, calm, conditions, laid).
  DERIVED. THE GIVEN ROWS OF THIS SEAT. 5 by the template 'for every input the law returns true; each argument reads behind the call as it read before'; 0 by the template 'total and deterministic' (their statements: YtjppfhgkanbemaaTotals.lean).
  GIVEN WITH THE SEED: the statements are not yours to turn. If you find one false, say at which input.
  Laid BY PROGRAM, IN A SANDBOX (cutbox-rows.mjs): the forced cells as the released guide's own fill.sh prints them over the translation f08d5da8efb50ba3… (all of the seat's roots in one cut). By AI agents, Wed Nov 11 2026. No macro, syntax, notation, axiom, sorry.
-/
import Derived.Test.YtjppfhgkanbemaaChecked
import GoSem.Claim
import GoSem.ClaimJoined
import GoSem.ClaimMapViews
import Derived.JoinedTies
import Derived.KernelRfl
namespace Go.Proofs.Ytjppfhgkanbemaa
/- THE CELL 'sum', in the pinned program and in every row, IS THE sha256 OF THE DUMP (.gsa) THAT YtjppfhgkanbemaaProg.lean LOADS. Nothing in Lean hashes anything: it is a label: what it is worth is what the hold of that sum in a sandbox is worth. -/
noncomputable def Try.pinned : Pinned := { name := "ytjppfhgkanbemaa", sum := "f08d5da8efb50ba3f93e7d3d7b378fc1ed1bae5914cc549783292cdba343b8c5", checked := Try.checked }
namespace Rows
def none {H : Type} : Left H := { results := [], args := [] }

/-- 'tracelaw5.LockTells': WHATEVER THE INPUT: true; the input reads as it did. -/
def lockTellsSpec : ChangeSpec := { name := "lockTells", fn := fun _ => fun
  | [d1, d2] => { results := [.lit (.bool true)], args := [d1, d2] }
  | _ => none }
def lockTellsRow : OpenClaim := { program := "ytjppfhgkanbemaa", sum := "f08d5da8efb50ba3f93e7d3d7b378fc1ed1bae5914cc549783292cdba343b8c5", func := "tracings/tracelaw5.LockTells", spec := "lockTells", unfollowed := true, recurses := true, apart := false }
def LockTellsSaid : Prop := lockTellsRow.holds Try.pinned (OpenSpec.ofChange lockTellsSpec)

/-- ITS FALSE NEIGHBOUR: 'it returns false'. Refute it at one input. -/
def lockTellsWrong : ChangeSpec := { name := "lockTells", fn := fun _ => fun
  | [d1, d2] => { results := [.lit (.bool false)], args := [d1, d2] }
  | _ => none }
def LockTellsWrongFalsely : Prop := lockTellsRow.holds Try.pinned (OpenSpec.ofChange lockTellsWrong)

/-- 'tracelaw5.LockRight': WHATEVER THE INPUT: true; the input reads as it did. -/
def lockRightSpec : ChangeSpec := { name := "lockRight", fn := fun _ => fun
  | [d1, d2] => { results := [.lit (.bool true)], args := [d1, d2] }
  | _ => none }
def lockRightRow : OpenClaim := { program := "ytjppfhgkanbemaa", sum := "f08d5da8efb50ba3f93e7d3d7b378fc1ed1bae5914cc549783292cdba343b8c5", func := "tracings/tracelaw5.LockRight", spec := "lockRight", unfollowed := true, recurses := true, apart := false }
def LockRightSaid : Prop := lockRightRow.holds Try.pinned (OpenSpec.ofChange lockRightSpec)

/-- ITS FALSE NEIGHBOUR: 'it returns false'. Refute it at one input. -/
def lockRightWrong : ChangeSpec := { name := "lockRight", fn := fun _ => fun
  | [d1, d2] => { results := [.lit (.bool false)], args := [d1, d2] }
  | _ => none }
def LockRightWrongFalsely : Prop := lockRightRow.holds Try.pinned (OpenSpec.ofChange lockRightWrong)

/-- 'tracelaw5.LockByte': WHATEVER THE INPUT: true; the input reads as it did. -/
def lockByteSpec : ChangeSpec := { name := "lockByte", fn := fun _ => fun
  | [d1, d2, d3, d4, d5] => { results := [.lit (.bool true)], args := [d1, d2, d3, d4, d5] }
  | _ => none }
def lockByteRow : OpenClaim := { program := "ytjppfhgkanbemaa", sum := "f08d5da8efb50ba3f93e7d3d7b378fc1ed1bae5914cc549783292cdba343b8c5", func := "tracings/tracelaw5.LockByte", spec := "lockByte", unfollowed := true, recurses := true, apart := false }
def LockByteSaid : Prop := lockByteRow.holds Try.pinned (OpenSpec.ofChange lockByteSpec)

/-- ITS FALSE NEIGHBOUR: 'it returns false'. Refute it at one input. -/
def lockByteWrong : ChangeSpec := { name := "lockByte", fn := fun _ => fun
  | [d1, d2, d3, d4, d5] => { results := [.lit (.bool false)], args := [d1, d2, d3, d4, d5] }
  | _ => none }
def LockByteWrongFalsely : Prop := lockByteRow.holds Try.pinned (OpenSpec.ofChange lockByteWrong)

/-- 'tracelaw5.LockHeld': WHATEVER THE INPUT: true; the input reads as it did. -/
def lockHeldSpec : ChangeSpec := { name := "lockHeld", fn := fun _ => fun
  | [d1, d2] => { results := [.lit (.bool true)], args := [d1, d2] }
  | _ => none }
def lockHeldRow : OpenClaim := { program := "ytjppfhgkanbemaa", sum := "f08d5da8efb50ba3f93e7d3d7b378fc1ed1bae5914cc549783292cdba343b8c5", func := "tracings/tracelaw5.LockHeld", spec := "lockHeld", unfollowed := true, recurses := true, apart := false }
def LockHeldSaid : Prop := lockHeldRow.holds Try.pinned (OpenSpec.ofChange lockHeldSpec)

/-- ITS FALSE NEIGHBOUR: 'it returns false'. Refute it at one input. -/
def lockHeldWrong : ChangeSpec := { name := "lockHeld", fn := fun _ => fun
  | [d1, d2] => { results := [.lit (.bool false)], args := [d1, d2] }
  | _ => none }
def LockHeldWrongFalsely : Prop := lockHeldRow.holds Try.pinned (OpenSpec.ofChange lockHeldWrong)

/-- 'tracetop.Names': WHATEVER THE INPUT: true; the input reads as it did. -/
def namesSpec : ChangeSpec := { name := "names", fn := fun _ => fun
  | [] => { results := [.lit (.bool true)], args := [] }
  | _ => none }
def namesRow : OpenClaim := { program := "ytjppfhgkanbemaa", sum := "f08d5da8efb50ba3f93e7d3d7b378fc1ed1bae5914cc549783292cdba343b8c5", func := "tracings/tracetop.Names", spec := "names", apart := false }
def NamesSaid : Prop := namesRow.holds Try.pinned (OpenSpec.ofChange namesSpec)

/-- ITS FALSE NEIGHBOUR: 'it returns false'. Refute it at one input. -/
def namesWrong : ChangeSpec := { name := "names", fn := fun _ => fun
  | [] => { results := [.lit (.bool false)], args := [] }
  | _ => none }
def NamesWrongFalsely : Prop := namesRow.holds Try.pinned (OpenSpec.ofChange namesWrong)

/- THE SECOND FORM. 'bulk': how many values and letters a reading holds, each counted each time it is reached (what is shared counts as often as it is met; a slice's spare places count too). A statement '..UptoSaid' is the law's where the arguments, and the package variables that the reading takes, are together of bulk at most 1048576: NARROWER than '..Said'. Prove '..Said' where nothing that the law and all that it calls make is longer than what came in: it says more and counts as full. Else prove '..UptoSaid'. A law counts once. -/
mutual
def uptoBulk {H : Type} : DataW H → Nat
  | .lit (.string bytes) => bytes.length + 1
  | .lit _ => 1
  | .nil => 1
  | .ptr d => uptoBulk d + 1
  | .slice elems spare => uptoBulkAll elems + uptoBulkAll spare + 1
  | .agg parts => uptoBulkAll parts + 1
  | .iface _ d => uptoBulk d + 1
  | .map entries => uptoBulkEntries entries + 1
  | .held _ => 1
def uptoBulkAll {H : Type} : List (DataW H) → Nat
  | [] => 0
  | d :: r => uptoBulk d + uptoBulkAll r
def uptoBulkEntries {H : Type} : List (Lit × DataW H) → Nat
  | [] => 0
  | x :: r => uptoBulkEntry x + uptoBulkEntries r
def uptoBulkEntry {H : Type} : Lit × DataW H → Nat
  | (.string bytes, d) => bytes.length + uptoBulk d + 1
  | (_, d) => uptoBulk d + 1
 end
def uptoSmall : (H : Type) → List (DataW H) → Bool := fun _ ds => decide (uptoBulkAll ds ≤ 1048576)
def OpenSpec.upto (s : _root_.Go.ChangeSpec) : _root_.Go.OpenSpec := { _root_.Go.OpenSpec.ofChange s with cond := some uptoSmall }

/-- 'tracelaw5.LockTells', WHERE WHAT IT READS IS OF BULK AT MOST 1048576: true; the input reads as it did. -/
def lockTellsUptoRow : OpenClaim := { program := "ytjppfhgkanbemaa", sum := "f08d5da8efb50ba3f93e7d3d7b378fc1ed1bae5914cc549783292cdba343b8c5", func := "tracings/tracelaw5.LockTells", spec := "lockTells", unfollowed := true, recurses := true, apart := false, narrowed := true }
def LockTellsUptoSaid : Prop := lockTellsUptoRow.holds Try.pinned (OpenSpec.upto lockTellsSpec)

/-- 'tracelaw5.LockRight', WHERE WHAT IT READS IS OF BULK AT MOST 1048576: true; the input reads as it did. -/
def lockRightUptoRow : OpenClaim := { program := "ytjppfhgkanbemaa", sum := "f08d5da8efb50ba3f93e7d3d7b378fc1ed1bae5914cc549783292cdba343b8c5", func := "tracings/tracelaw5.LockRight", spec := "lockRight", unfollowed := true, recurses := true, apart := false, narrowed := true }
def LockRightUptoSaid : Prop := lockRightUptoRow.holds Try.pinned (OpenSpec.upto lockRightSpec)

/-- 'tracelaw5.LockByte', WHERE WHAT IT READS IS OF BULK AT MOST 1048576: true; the input reads as it did. -/
def lockByteUptoRow : OpenClaim := { program := "ytjppfhgkanbemaa", sum := "f08d5da8efb50ba3f93e7d3d7b378fc1ed1bae5914cc549783292cdba343b8c5", func := "tracings/tracelaw5.LockByte", spec := "lockByte", unfollowed := true, recurses := true, apart := false, narrowed := true }
def LockByteUptoSaid : Prop := lockByteUptoRow.holds Try.pinned (OpenSpec.upto lockByteSpec)

/-- 'tracelaw5.LockHeld', WHERE WHAT IT READS IS OF BULK AT MOST 1048576: true; the input reads as it did. -/
def lockHeldUptoRow : OpenClaim := { program := "ytjppfhgkanbemaa", sum := "f08d5da8efb50ba3f93e7d3d7b378fc1ed1bae5914cc549783292cdba343b8c5", func := "tracings/tracelaw5.LockHeld", spec := "lockHeld", unfollowed := true, recurses := true, apart := false, narrowed := true }
def LockHeldUptoSaid : Prop := lockHeldUptoRow.holds Try.pinned (OpenSpec.upto lockHeldSpec)

/-- 'tracetop.Names', WHERE WHAT IT READS IS OF BULK AT MOST 1048576: true; the input reads as it did. -/
def namesUptoRow : OpenClaim := { program := "ytjppfhgkanbemaa", sum := "f08d5da8efb50ba3f93e7d3d7b378fc1ed1bae5914cc549783292cdba343b8c5", func := "tracings/tracetop.Names", spec := "names", apart := false, narrowed := true }
def NamesUptoSaid : Prop := namesUptoRow.holds Try.pinned (OpenSpec.upto namesSpec)

end Rows
end Go.Proofs.Ytjppfhgkanbemaa
