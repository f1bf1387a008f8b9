/-
  No cell of these rows narrows 'for every input' (looked for: loops, veiled, ifaces, maps, wideKeys, modest, calm, conditions, laid).
  DERIVED. THE GIVEN ROWS OF THIS SEAT. 4 by the template 'for every input the law returns true; each argument reads behind the call as it read before'; 0 by the template 'total and deterministic' (their statements: YtcofacgdijjnoaaGreatTotals.lean).
  GIVEN WITH THE SEED: the statements are not yours to turn. If you find one false, say at which input.
  Laid BY PROGRAM, IN A SANDBOX (cutbox-rows.mjs): the forced cells as the released guide's own fill.sh prints them over the translation ad984763e4a9bd88… (all of the seat's roots in one cut). By AI agents, Wed Nov 11 2026. No macro, syntax, notation, axiom, sorry.
-/
import Derived.Test.YtcofacgdijjnoaaGreatChecked
import GoSem.Claim
import GoSem.ClaimJoined
import GoSem.ClaimMapViews
import Derived.JoinedTies
import Derived.KernelRfl
namespace Go.Proofs.YtcofacgdijjnoaaGreat
/- THE CELL 'sum', in the pinned program and in every row, IS THE sha256 OF THE DUMP (.gsa) THAT YtcofacgdijjnoaaGreatProg.lean LOADS. Nothing in Lean hashes anything: it is a label: what it is worth is what the hold of that sum in a sandbox is worth. -/
noncomputable def Tryz.pinned : Pinned := { name := "ytcofacgdijjnoaagreat", sum := "ad984763e4a9bd88467967f5b7d7a67d8b8a80f486792839833c4828d3069527", checked := Tryz.checked }
namespace Rows
def none {H : Type} : Left H := { results := [], args := [] }

/-- 'parquetrylaw22.EditMay': WHATEVER THE INPUT: true; the input reads as it did. -/
def editMaySpec : ChangeSpec := { name := "editMay", fn := fun _ => fun
  | [d1, d2] => { results := [.lit (.bool true)], args := [d1, d2] }
  | _ => none }
def editMayRow : OpenClaim := { program := "ytcofacgdijjnoaagreat", sum := "ad984763e4a9bd88467967f5b7d7a67d8b8a80f486792839833c4828d3069527", func := "parquetry/parquetrylaw22.EditMay", spec := "editMay", inPlace := ["slices.overlaps[parquetry/api.Cell]", "slices.overlaps[int]"], unfollowed := true, recurses := true, apart := false }
def EditMaySaid : Prop := editMayRow.holds Tryz.pinned (OpenSpec.ofChange editMaySpec)

/-- ITS FALSE NEIGHBOUR: 'it returns false'. Refute it at one input. -/
def editMayWrong : ChangeSpec := { name := "editMay", fn := fun _ => fun
  | [d1, d2] => { results := [.lit (.bool false)], args := [d1, d2] }
  | _ => none }
def EditMayWrongFalsely : Prop := editMayRow.holds Tryz.pinned (OpenSpec.ofChange editMayWrong)

/-- 'parquetrylaw22.EditBack': WHATEVER THE INPUT: true; the input reads as it did. -/
def editBackSpec : ChangeSpec := { name := "editBack", fn := fun _ => fun
  | [d1, d2, d3, d4] => { results := [.lit (.bool true)], args := [d1, d2, d3, d4] }
  | _ => none }
def editBackRow : OpenClaim := { program := "ytcofacgdijjnoaagreat", sum := "ad984763e4a9bd88467967f5b7d7a67d8b8a80f486792839833c4828d3069527", func := "parquetry/parquetrylaw22.EditBack", spec := "editBack", inPlace := ["slices.overlaps[parquetry/api.Cell]", "slices.overlaps[int]"], unfollowed := true, recurses := true, apart := false }
def EditBackSaid : Prop := editBackRow.holds Tryz.pinned (OpenSpec.ofChange editBackSpec)

/-- ITS FALSE NEIGHBOUR: 'it returns false'. Refute it at one input. -/
def editBackWrong : ChangeSpec := { name := "editBack", fn := fun _ => fun
  | [d1, d2, d3, d4] => { results := [.lit (.bool false)], args := [d1, d2, d3, d4] }
  | _ => none }
def EditBackWrongFalsely : Prop := editBackRow.holds Tryz.pinned (OpenSpec.ofChange editBackWrong)

/-- 'parquetrylaw22.EditStays': WHATEVER THE INPUT: true; the input reads as it did. -/
def editStaysSpec : ChangeSpec := { name := "editStays", fn := fun _ => fun
  | [d1, d2] => { results := [.lit (.bool true)], args := [d1, d2] }
  | _ => none }
def editStaysRow : OpenClaim := { program := "ytcofacgdijjnoaagreat", sum := "ad984763e4a9bd88467967f5b7d7a67d8b8a80f486792839833c4828d3069527", func := "parquetry/parquetrylaw22.EditStays", spec := "editStays", inPlace := ["slices.overlaps[parquetry/api.Cell]", "slices.overlaps[int]"], unfollowed := true, recurses := true, apart := false }
def EditStaysSaid : Prop := editStaysRow.holds Tryz.pinned (OpenSpec.ofChange editStaysSpec)

/-- ITS FALSE NEIGHBOUR: 'it returns false'. Refute it at one input. -/
def editStaysWrong : ChangeSpec := { name := "editStays", fn := fun _ => fun
  | [d1, d2] => { results := [.lit (.bool false)], args := [d1, d2] }
  | _ => none }
def EditStaysWrongFalsely : Prop := editStaysRow.holds Tryz.pinned (OpenSpec.ofChange editStaysWrong)

/-- 'parquetrylaw22.EditMoved': WHATEVER THE INPUT: true; the input reads as it did. -/
def editMovedSpec : ChangeSpec := { name := "editMoved", fn := fun _ => fun
  | [d1, d2, d3, d4] => { results := [.lit (.bool true)], args := [d1, d2, d3, d4] }
  | _ => none }
def editMovedRow : OpenClaim := { program := "ytcofacgdijjnoaagreat", sum := "ad984763e4a9bd88467967f5b7d7a67d8b8a80f486792839833c4828d3069527", func := "parquetry/parquetrylaw22.EditMoved", spec := "editMoved", inPlace := ["slices.overlaps[parquetry/api.Cell]", "slices.overlaps[int]"], unfollowed := true, recurses := true, apart := false }
def EditMovedSaid : Prop := editMovedRow.holds Tryz.pinned (OpenSpec.ofChange editMovedSpec)

/-- ITS FALSE NEIGHBOUR: 'it returns false'. Refute it at one input. -/
def editMovedWrong : ChangeSpec := { name := "editMoved", fn := fun _ => fun
  | [d1, d2, d3, d4] => { results := [.lit (.bool false)], args := [d1, d2, d3, d4] }
  | _ => none }
def EditMovedWrongFalsely : Prop := editMovedRow.holds Tryz.pinned (OpenSpec.ofChange editMovedWrong)

/- THE SECOND FORM. 'bulk': how many values and letters a reading holds, each counted each time it is reached (what is shared counts as often as it is met; a slice's spare places count too). A statement '..UptoSaid' is the law's where the arguments, and the package variables that the reading takes, are together of bulk at most 1048576: NARROWER than '..Said'. Prove '..Said' where nothing that the law and all that it calls make is longer than what came in: it says more and counts as full. Else prove '..UptoSaid'. A law counts once. -/
mutual
def uptoBulk {H : Type} : DataW H → Nat
  | .lit (.string bytes) => bytes.length + 1
  | .lit _ => 1
  | .nil => 1
  | .ptr d => uptoBulk d + 1
  | .slice elems spare => uptoBulkAll elems + uptoBulkAll spare + 1
  | .agg parts => uptoBulkAll parts + 1
  | .iface _ d => uptoBulk d + 1
  | .map entries => uptoBulkEntries entries + 1
  | .held _ => 1
def uptoBulkAll {H : Type} : List (DataW H) → Nat
  | [] => 0
  | d :: r => uptoBulk d + uptoBulkAll r
def uptoBulkEntries {H : Type} : List (Lit × DataW H) → Nat
  | [] => 0
  | x :: r => uptoBulkEntry x + uptoBulkEntries r
def uptoBulkEntry {H : Type} : Lit × DataW H → Nat
  | (.string bytes, d) => bytes.length + uptoBulk d + 1
  | (_, d) => uptoBulk d + 1
 end
def uptoSmall : (H : Type) → List (DataW H) → Bool := fun _ ds => decide (uptoBulkAll ds ≤ 1048576)
def OpenSpec.upto (s : _root_.Go.ChangeSpec) : _root_.Go.OpenSpec := { _root_.Go.OpenSpec.ofChange s with cond := some uptoSmall }

/-- 'parquetrylaw22.EditMay', WHERE WHAT IT READS IS OF BULK AT MOST 1048576: true; the input reads as it did. -/
def editMayUptoRow : OpenClaim := { program := "ytcofacgdijjnoaagreat", sum := "ad984763e4a9bd88467967f5b7d7a67d8b8a80f486792839833c4828d3069527", func := "parquetry/parquetrylaw22.EditMay", spec := "editMay", inPlace := ["slices.overlaps[parquetry/api.Cell]", "slices.overlaps[int]"], unfollowed := true, recurses := true, apart := false, narrowed := true }
def EditMayUptoSaid : Prop := editMayUptoRow.holds Tryz.pinned (OpenSpec.upto editMaySpec)

/-- 'parquetrylaw22.EditBack', WHERE WHAT IT READS IS OF BULK AT MOST 1048576: true; the input reads as it did. -/
def editBackUptoRow : OpenClaim := { program := "ytcofacgdijjnoaagreat", sum := "ad984763e4a9bd88467967f5b7d7a67d8b8a80f486792839833c4828d3069527", func := "parquetry/parquetrylaw22.EditBack", spec := "editBack", inPlace := ["slices.overlaps[parquetry/api.Cell]", "slices.overlaps[int]"], unfollowed := true, recurses := true, apart := false, narrowed := true }
def EditBackUptoSaid : Prop := editBackUptoRow.holds Tryz.pinned (OpenSpec.upto editBackSpec)

/-- 'parquetrylaw22.EditStays', WHERE WHAT IT READS IS OF BULK AT MOST 1048576: true; the input reads as it did. -/
def editStaysUptoRow : OpenClaim := { program := "ytcofacgdijjnoaagreat", sum := "ad984763e4a9bd88467967f5b7d7a67d8b8a80f486792839833c4828d3069527", func := "parquetry/parquetrylaw22.EditStays", spec := "editStays", inPlace := ["slices.overlaps[parquetry/api.Cell]", "slices.overlaps[int]"], unfollowed := true, recurses := true, apart := false, narrowed := true }
def EditStaysUptoSaid : Prop := editStaysUptoRow.holds Tryz.pinned (OpenSpec.upto editStaysSpec)

/-- 'parquetrylaw22.EditMoved', WHERE WHAT IT READS IS OF BULK AT MOST 1048576: true; the input reads as it did. -/
def editMovedUptoRow : OpenClaim := { program := "ytcofacgdijjnoaagreat", sum := "ad984763e4a9bd88467967f5b7d7a67d8b8a80f486792839833c4828d3069527", func := "parquetry/parquetrylaw22.EditMoved", spec := "editMoved", inPlace := ["slices.overlaps[parquetry/api.Cell]", "slices.overlaps[int]"], unfollowed := true, recurses := true, apart := false, narrowed := true }
def EditMovedUptoSaid : Prop := editMovedUptoRow.holds Tryz.pinned (OpenSpec.upto editMovedSpec)

end Rows
end Go.Proofs.YtcofacgdijjnoaaGreat
