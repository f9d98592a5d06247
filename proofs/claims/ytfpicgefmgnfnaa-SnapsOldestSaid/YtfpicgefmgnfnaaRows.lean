/-
  No cell of these rows narrows 'for every input' (looked for: loops, veiled, ifaces, maps, wideKeys, modest, calm, conditions, laid).
  DERIVED. THE GIVEN ROWS OF THIS SEAT. 4 by the template 'for every input the law returns true; each argument reads behind the call as it read before'; 0 by the template 'total and deterministic' (their statements: YtfpicgefmgnfnaaTotals.lean).
  GIVEN WITH THE SEED: the statements are not yours to turn. If you find one false, say at which input.
  Laid BY PROGRAM, IN A SANDBOX (cutbox-rows.mjs): the forced cells as the released guide's own fill.sh prints them over the translation e6a7ad60c7dfc62f… (all of the seat's roots in one cut). By AI agents, Wed Nov 11 2026. No macro, syntax, notation, axiom, sorry.
-/
import Derived.Test.YtfpicgefmgnfnaaChecked
import GoSem.Claim
import GoSem.ClaimJoined
import GoSem.ClaimMapViews
import Derived.JoinedTies
import Derived.KernelRfl
namespace Go.Proofs.Ytfpicgefmgnfnaa
/- THE CELL 'sum', in the pinned program and in every row, IS THE sha256 OF THE DUMP (.gsa) THAT YtfpicgefmgnfnaaProg.lean LOADS. Nothing in Lean hashes anything: it is a label: what it is worth is what the hold of that sum in a sandbox is worth. -/
noncomputable def Try.pinned : Pinned := { name := "ytfpicgefmgnfnaa", sum := "e6a7ad60c7dfc62f34d947ca19158954f7095e8c5e2dfca1a3612517534b9dc7", checked := Try.checked }
namespace Rows
def none {H : Type} : Left H := { results := [], args := [] }

/-- 'quiverlaw17.SnapsChanges': WHATEVER THE INPUT: true; the input reads as it did. -/
def snapsChangesSpec : ChangeSpec := { name := "snapsChanges", fn := fun _ => fun
  | [d1, d2, d3] => { results := [.lit (.bool true)], args := [d1, d2, d3] }
  | _ => none }
def snapsChangesRow : OpenClaim := { program := "ytfpicgefmgnfnaa", sum := "e6a7ad60c7dfc62f34d947ca19158954f7095e8c5e2dfca1a3612517534b9dc7", func := "quiver/quiverlaw17.SnapsChanges", spec := "snapsChanges", unfollowed := true, recurses := true, apart := false }
def SnapsChangesSaid : Prop := snapsChangesRow.holds Try.pinned (OpenSpec.ofChange snapsChangesSpec)

/-- ITS FALSE NEIGHBOUR: 'it returns false'. Refute it at one input. -/
def snapsChangesWrong : ChangeSpec := { name := "snapsChanges", fn := fun _ => fun
  | [d1, d2, d3] => { results := [.lit (.bool false)], args := [d1, d2, d3] }
  | _ => none }
def SnapsChangesWrongFalsely : Prop := snapsChangesRow.holds Try.pinned (OpenSpec.ofChange snapsChangesWrong)

/-- 'quiverlaw17.SnapsTells': WHATEVER THE INPUT: true; the input reads as it did. -/
def snapsTellsSpec : ChangeSpec := { name := "snapsTells", fn := fun _ => fun
  | [d1, d2, d3] => { results := [.lit (.bool true)], args := [d1, d2, d3] }
  | _ => none }
def snapsTellsRow : OpenClaim := { program := "ytfpicgefmgnfnaa", sum := "e6a7ad60c7dfc62f34d947ca19158954f7095e8c5e2dfca1a3612517534b9dc7", func := "quiver/quiverlaw17.SnapsTells", spec := "snapsTells", unfollowed := true, recurses := true, apart := false }
def SnapsTellsSaid : Prop := snapsTellsRow.holds Try.pinned (OpenSpec.ofChange snapsTellsSpec)

/-- ITS FALSE NEIGHBOUR: 'it returns false'. Refute it at one input. -/
def snapsTellsWrong : ChangeSpec := { name := "snapsTells", fn := fun _ => fun
  | [d1, d2, d3] => { results := [.lit (.bool false)], args := [d1, d2, d3] }
  | _ => none }
def SnapsTellsWrongFalsely : Prop := snapsTellsRow.holds Try.pinned (OpenSpec.ofChange snapsTellsWrong)

/-- 'quiverlaw17.SnapsOldest': WHATEVER THE INPUT: true; the input reads as it did. -/
def snapsOldestSpec : ChangeSpec := { name := "snapsOldest", fn := fun _ => fun
  | [d] => { results := [.lit (.bool true)], args := [d] }
  | _ => none }
def snapsOldestRow : OpenClaim := { program := "ytfpicgefmgnfnaa", sum := "e6a7ad60c7dfc62f34d947ca19158954f7095e8c5e2dfca1a3612517534b9dc7", func := "quiver/quiverlaw17.SnapsOldest", spec := "snapsOldest", unfollowed := true, recurses := true, apart := false }
def SnapsOldestSaid : Prop := snapsOldestRow.holds Try.pinned (OpenSpec.ofChange snapsOldestSpec)

/-- ITS FALSE NEIGHBOUR: 'it returns false'. Refute it at one input. -/
def snapsOldestWrong : ChangeSpec := { name := "snapsOldest", fn := fun _ => fun
  | [d] => { results := [.lit (.bool false)], args := [d] }
  | _ => none }
def SnapsOldestWrongFalsely : Prop := snapsOldestRow.holds Try.pinned (OpenSpec.ofChange snapsOldestWrong)

/-- 'quiverlaw17.SnapsBack': WHATEVER THE INPUT: true; the input reads as it did. -/
def snapsBackSpec : ChangeSpec := { name := "snapsBack", fn := fun _ => fun
  | [d1, d2] => { results := [.lit (.bool true)], args := [d1, d2] }
  | _ => none }
def snapsBackRow : OpenClaim := { program := "ytfpicgefmgnfnaa", sum := "e6a7ad60c7dfc62f34d947ca19158954f7095e8c5e2dfca1a3612517534b9dc7", func := "quiver/quiverlaw17.SnapsBack", spec := "snapsBack", unfollowed := true, recurses := true, apart := false }
def SnapsBackSaid : Prop := snapsBackRow.holds Try.pinned (OpenSpec.ofChange snapsBackSpec)

/-- ITS FALSE NEIGHBOUR: 'it returns false'. Refute it at one input. -/
def snapsBackWrong : ChangeSpec := { name := "snapsBack", fn := fun _ => fun
  | [d1, d2] => { results := [.lit (.bool false)], args := [d1, d2] }
  | _ => none }
def SnapsBackWrongFalsely : Prop := snapsBackRow.holds Try.pinned (OpenSpec.ofChange snapsBackWrong)

/- THE SECOND FORM. 'bulk': how many values and letters a reading holds, each counted each time it is reached (what is shared counts as often as it is met; a slice's spare places count too). A statement '..UptoSaid' is the law's where the arguments, and the package variables that the reading takes, are together of bulk at most 1048576: NARROWER than '..Said'. Prove '..Said' where nothing that the law and all that it calls make is longer than what came in: it says more and counts as full. Else prove '..UptoSaid'. A law counts once. -/
mutual
def uptoBulk {H : Type} : DataW H → Nat
  | .lit (.string bytes) => bytes.length + 1
  | .lit _ => 1
  | .nil => 1
  | .ptr d => uptoBulk d + 1
  | .slice elems spare => uptoBulkAll elems + uptoBulkAll spare + 1
  | .agg parts => uptoBulkAll parts + 1
  | .iface _ d => uptoBulk d + 1
  | .map entries => uptoBulkEntries entries + 1
  | .held _ => 1
def uptoBulkAll {H : Type} : List (DataW H) → Nat
  | [] => 0
  | d :: r => uptoBulk d + uptoBulkAll r
def uptoBulkEntries {H : Type} : List (Lit × DataW H) → Nat
  | [] => 0
  | x :: r => uptoBulkEntry x + uptoBulkEntries r
def uptoBulkEntry {H : Type} : Lit × DataW H → Nat
  | (.string bytes, d) => bytes.length + uptoBulk d + 1
  | (_, d) => uptoBulk d + 1
 end
def uptoSmall : (H : Type) → List (DataW H) → Bool := fun _ ds => decide (uptoBulkAll ds ≤ 1048576)
def OpenSpec.upto (s : _root_.Go.ChangeSpec) : _root_.Go.OpenSpec := { _root_.Go.OpenSpec.ofChange s with cond := some uptoSmall }

/-- 'quiverlaw17.SnapsChanges', WHERE WHAT IT READS IS OF BULK AT MOST 1048576: true; the input reads as it did. -/
def snapsChangesUptoRow : OpenClaim := { program := "ytfpicgefmgnfnaa", sum := "e6a7ad60c7dfc62f34d947ca19158954f7095e8c5e2dfca1a3612517534b9dc7", func := "quiver/quiverlaw17.SnapsChanges", spec := "snapsChanges", unfollowed := true, recurses := true, apart := false, narrowed := true }
def SnapsChangesUptoSaid : Prop := snapsChangesUptoRow.holds Try.pinned (OpenSpec.upto snapsChangesSpec)

/-- 'quiverlaw17.SnapsTells', WHERE WHAT IT READS IS OF BULK AT MOST 1048576: true; the input reads as it did. -/
def snapsTellsUptoRow : OpenClaim := { program := "ytfpicgefmgnfnaa", sum := "e6a7ad60c7dfc62f34d947ca19158954f7095e8c5e2dfca1a3612517534b9dc7", func := "quiver/quiverlaw17.SnapsTells", spec := "snapsTells", unfollowed := true, recurses := true, apart := false, narrowed := true }
def SnapsTellsUptoSaid : Prop := snapsTellsUptoRow.holds Try.pinned (OpenSpec.upto snapsTellsSpec)

/-- 'quiverlaw17.SnapsOldest', WHERE WHAT IT READS IS OF BULK AT MOST 1048576: true; the input reads as it did. -/
def snapsOldestUptoRow : OpenClaim := { program := "ytfpicgefmgnfnaa", sum := "e6a7ad60c7dfc62f34d947ca19158954f7095e8c5e2dfca1a3612517534b9dc7", func := "quiver/quiverlaw17.SnapsOldest", spec := "snapsOldest", unfollowed := true, recurses := true, apart := false, narrowed := true }
def SnapsOldestUptoSaid : Prop := snapsOldestUptoRow.holds Try.pinned (OpenSpec.upto snapsOldestSpec)

/-- 'quiverlaw17.SnapsBack', WHERE WHAT IT READS IS OF BULK AT MOST 1048576: true; the input reads as it did. -/
def snapsBackUptoRow : OpenClaim := { program := "ytfpicgefmgnfnaa", sum := "e6a7ad60c7dfc62f34d947ca19158954f7095e8c5e2dfca1a3612517534b9dc7", func := "quiver/quiverlaw17.SnapsBack", spec := "snapsBack", unfollowed := true, recurses := true, apart := false, narrowed := true }
def SnapsBackUptoSaid : Prop := snapsBackUptoRow.holds Try.pinned (OpenSpec.upto snapsBackSpec)

end Rows
end Go.Proofs.Ytfpicgefmgnfnaa
