/-
  No cell of these rows narrows 'for every input' (looked for: loops, veiled, ifaces, maps, wideKeys, modest, calm, conditions, laid).
  DERIVED. THE GIVEN ROWS OF THIS SEAT. 14 by the template 'for every input the law returns true; each argument reads behind the call as it read before'; 0 by the template 'total and deterministic' (their statements: YtanijhlpneiebaaTotals.lean).
  GIVEN WITH THE SEED: the statements are not yours to turn. If you find one false, say at which input.
  Laid BY PROGRAM, IN A SANDBOX (cutbox-rows.mjs): the forced cells as the released guide's own fill.sh prints them over the translation 37f2228575535e03… (all of the seat's roots in one cut). By AI agents, Wed Nov 11 2026. No macro, syntax, notation, axiom, sorry.
-/
import Derived.Test.YtanijhlpneiebaaChecked
import GoSem.Claim
import GoSem.ClaimJoined
import GoSem.ClaimMapViews
import Derived.JoinedTies
import Derived.KernelRfl
namespace Go.Proofs.Ytanijhlpneiebaa
/- THE CELL 'sum', in the pinned program and in every row, IS THE sha256 OF THE DUMP (.gsa) THAT YtanijhlpneiebaaProg.lean LOADS. Nothing in Lean hashes anything: it is a label: what it is worth is what the hold of that sum in a sandbox is worth. -/
noncomputable def Try.pinned : Pinned := { name := "ytanijhlpneiebaa", sum := "37f2228575535e036fe0aebe038c689a771277c3f1ba6df840e619765ae53123", checked := Try.checked }
namespace Rows
def none {H : Type} : Left H := { results := [], args := [] }

/-- 'quiverlaw01.FieldLays': WHATEVER THE INPUT: true; the input reads as it did. -/
def fieldLaysSpec : ChangeSpec := { name := "fieldLays", fn := fun _ => fun
  | [d1, d2, d3] => { results := [.lit (.bool true)], args := [d1, d2, d3] }
  | _ => none }
def fieldLaysRow : OpenClaim := { program := "ytanijhlpneiebaa", sum := "37f2228575535e036fe0aebe038c689a771277c3f1ba6df840e619765ae53123", func := "quiver/quiverlaw01.FieldLays", spec := "fieldLays", unfollowed := true, recurses := true, apart := false }
def FieldLaysSaid : Prop := fieldLaysRow.holds Try.pinned (OpenSpec.ofChange fieldLaysSpec)

/-- ITS FALSE NEIGHBOUR: 'it returns false'. Refute it at one input. -/
def fieldLaysWrong : ChangeSpec := { name := "fieldLays", fn := fun _ => fun
  | [d1, d2, d3] => { results := [.lit (.bool false)], args := [d1, d2, d3] }
  | _ => none }
def FieldLaysWrongFalsely : Prop := fieldLaysRow.holds Try.pinned (OpenSpec.ofChange fieldLaysWrong)

/-- 'quiverlaw01.FieldBack': WHATEVER THE INPUT: true; the input reads as it did. -/
def fieldBackSpec : ChangeSpec := { name := "fieldBack", fn := fun _ => fun
  | [d] => { results := [.lit (.bool true)], args := [d] }
  | _ => none }
def fieldBackRow : OpenClaim := { program := "ytanijhlpneiebaa", sum := "37f2228575535e036fe0aebe038c689a771277c3f1ba6df840e619765ae53123", func := "quiver/quiverlaw01.FieldBack", spec := "fieldBack", unfollowed := true, recurses := true, apart := false }
def FieldBackSaid : Prop := fieldBackRow.holds Try.pinned (OpenSpec.ofChange fieldBackSpec)

/-- ITS FALSE NEIGHBOUR: 'it returns false'. Refute it at one input. -/
def fieldBackWrong : ChangeSpec := { name := "fieldBack", fn := fun _ => fun
  | [d] => { results := [.lit (.bool false)], args := [d] }
  | _ => none }
def FieldBackWrongFalsely : Prop := fieldBackRow.holds Try.pinned (OpenSpec.ofChange fieldBackWrong)

/-- 'quiverlaw01.FieldJoins': WHATEVER THE INPUT: true; the input reads as it did. -/
def fieldJoinsSpec : ChangeSpec := { name := "fieldJoins", fn := fun _ => fun
  | [d1, d2, d3] => { results := [.lit (.bool true)], args := [d1, d2, d3] }
  | _ => none }
def fieldJoinsRow : OpenClaim := { program := "ytanijhlpneiebaa", sum := "37f2228575535e036fe0aebe038c689a771277c3f1ba6df840e619765ae53123", func := "quiver/quiverlaw01.FieldJoins", spec := "fieldJoins", unfollowed := true, recurses := true, apart := false }
def FieldJoinsSaid : Prop := fieldJoinsRow.holds Try.pinned (OpenSpec.ofChange fieldJoinsSpec)

/-- ITS FALSE NEIGHBOUR: 'it returns false'. Refute it at one input. -/
def fieldJoinsWrong : ChangeSpec := { name := "fieldJoins", fn := fun _ => fun
  | [d1, d2, d3] => { results := [.lit (.bool false)], args := [d1, d2, d3] }
  | _ => none }
def FieldJoinsWrongFalsely : Prop := fieldJoinsRow.holds Try.pinned (OpenSpec.ofChange fieldJoinsWrong)

/-- 'quiverlaw01.FieldScans': WHATEVER THE INPUT: true; the input reads as it did. -/
def fieldScansSpec : ChangeSpec := { name := "fieldScans", fn := fun _ => fun
  | [d1, d2] => { results := [.lit (.bool true)], args := [d1, d2] }
  | _ => none }
def fieldScansRow : OpenClaim := { program := "ytanijhlpneiebaa", sum := "37f2228575535e036fe0aebe038c689a771277c3f1ba6df840e619765ae53123", func := "quiver/quiverlaw01.FieldScans", spec := "fieldScans", unfollowed := true, recurses := true, apart := false }
def FieldScansSaid : Prop := fieldScansRow.holds Try.pinned (OpenSpec.ofChange fieldScansSpec)

/-- ITS FALSE NEIGHBOUR: 'it returns false'. Refute it at one input. -/
def fieldScansWrong : ChangeSpec := { name := "fieldScans", fn := fun _ => fun
  | [d1, d2] => { results := [.lit (.bool false)], args := [d1, d2] }
  | _ => none }
def FieldScansWrongFalsely : Prop := fieldScansRow.holds Try.pinned (OpenSpec.ofChange fieldScansWrong)

/-- 'quiverlaw01.FieldNil': WHATEVER THE INPUT: true; the input reads as it did. -/
def fieldNilSpec : ChangeSpec := { name := "fieldNil", fn := fun _ => fun
  | [d] => { results := [.lit (.bool true)], args := [d] }
  | _ => none }
def fieldNilRow : OpenClaim := { program := "ytanijhlpneiebaa", sum := "37f2228575535e036fe0aebe038c689a771277c3f1ba6df840e619765ae53123", func := "quiver/quiverlaw01.FieldNil", spec := "fieldNil", unfollowed := true, recurses := true, apart := false }
def FieldNilSaid : Prop := fieldNilRow.holds Try.pinned (OpenSpec.ofChange fieldNilSpec)

/-- ITS FALSE NEIGHBOUR: 'it returns false'. Refute it at one input. -/
def fieldNilWrong : ChangeSpec := { name := "fieldNil", fn := fun _ => fun
  | [d] => { results := [.lit (.bool false)], args := [d] }
  | _ => none }
def FieldNilWrongFalsely : Prop := fieldNilRow.holds Try.pinned (OpenSpec.ofChange fieldNilWrong)

/-- 'quiverlaw01.FieldBad': WHATEVER THE INPUT: true; the input reads as it did. -/
def fieldBadSpec : ChangeSpec := { name := "fieldBad", fn := fun _ => fun
  | [d1, d2, d3] => { results := [.lit (.bool true)], args := [d1, d2, d3] }
  | _ => none }
def fieldBadRow : OpenClaim := { program := "ytanijhlpneiebaa", sum := "37f2228575535e036fe0aebe038c689a771277c3f1ba6df840e619765ae53123", func := "quiver/quiverlaw01.FieldBad", spec := "fieldBad", unfollowed := true, recurses := true, apart := false }
def FieldBadSaid : Prop := fieldBadRow.holds Try.pinned (OpenSpec.ofChange fieldBadSpec)

/-- ITS FALSE NEIGHBOUR: 'it returns false'. Refute it at one input. -/
def fieldBadWrong : ChangeSpec := { name := "fieldBad", fn := fun _ => fun
  | [d1, d2, d3] => { results := [.lit (.bool false)], args := [d1, d2, d3] }
  | _ => none }
def FieldBadWrongFalsely : Prop := fieldBadRow.holds Try.pinned (OpenSpec.ofChange fieldBadWrong)

/-- 'quiverlaw03.MarkTells': WHATEVER THE INPUT: true; the input reads as it did. -/
def markTellsSpec : ChangeSpec := { name := "markTells", fn := fun _ => fun
  | [d1, d2] => { results := [.lit (.bool true)], args := [d1, d2] }
  | _ => none }
def markTellsRow : OpenClaim := { program := "ytanijhlpneiebaa", sum := "37f2228575535e036fe0aebe038c689a771277c3f1ba6df840e619765ae53123", func := "quiver/quiverlaw03.MarkTells", spec := "markTells", unfollowed := true, recurses := true, apart := false }
def MarkTellsSaid : Prop := markTellsRow.holds Try.pinned (OpenSpec.ofChange markTellsSpec)

/-- ITS FALSE NEIGHBOUR: 'it returns false'. Refute it at one input. -/
def markTellsWrong : ChangeSpec := { name := "markTells", fn := fun _ => fun
  | [d1, d2] => { results := [.lit (.bool false)], args := [d1, d2] }
  | _ => none }
def MarkTellsWrongFalsely : Prop := markTellsRow.holds Try.pinned (OpenSpec.ofChange markTellsWrong)

/-- 'quiverlaw03.MarkOpens': WHATEVER THE INPUT: true; the input reads as it did. -/
def markOpensSpec : ChangeSpec := { name := "markOpens", fn := fun _ => fun
  | [d] => { results := [.lit (.bool true)], args := [d] }
  | _ => none }
def markOpensRow : OpenClaim := { program := "ytanijhlpneiebaa", sum := "37f2228575535e036fe0aebe038c689a771277c3f1ba6df840e619765ae53123", func := "quiver/quiverlaw03.MarkOpens", spec := "markOpens", unfollowed := true, recurses := true, apart := false }
def MarkOpensSaid : Prop := markOpensRow.holds Try.pinned (OpenSpec.ofChange markOpensSpec)

/-- ITS FALSE NEIGHBOUR: 'it returns false'. Refute it at one input. -/
def markOpensWrong : ChangeSpec := { name := "markOpens", fn := fun _ => fun
  | [d] => { results := [.lit (.bool false)], args := [d] }
  | _ => none }
def MarkOpensWrongFalsely : Prop := markOpensRow.holds Try.pinned (OpenSpec.ofChange markOpensWrong)

/-- 'quiverlaw03.MarkPlaces': WHATEVER THE INPUT: true; the input reads as it did. -/
def markPlacesSpec : ChangeSpec := { name := "markPlaces", fn := fun _ => fun
  | [d1, d2] => { results := [.lit (.bool true)], args := [d1, d2] }
  | _ => none }
def markPlacesRow : OpenClaim := { program := "ytanijhlpneiebaa", sum := "37f2228575535e036fe0aebe038c689a771277c3f1ba6df840e619765ae53123", func := "quiver/quiverlaw03.MarkPlaces", spec := "markPlaces", unfollowed := true, recurses := true, apart := false }
def MarkPlacesSaid : Prop := markPlacesRow.holds Try.pinned (OpenSpec.ofChange markPlacesSpec)

/-- ITS FALSE NEIGHBOUR: 'it returns false'. Refute it at one input. -/
def markPlacesWrong : ChangeSpec := { name := "markPlaces", fn := fun _ => fun
  | [d1, d2] => { results := [.lit (.bool false)], args := [d1, d2] }
  | _ => none }
def MarkPlacesWrongFalsely : Prop := markPlacesRow.holds Try.pinned (OpenSpec.ofChange markPlacesWrong)

/-- 'quiverlaw03.MarkSealed': WHATEVER THE INPUT: true; the input reads as it did. -/
def markSealedSpec : ChangeSpec := { name := "markSealed", fn := fun _ => fun
  | [d1, d2, d3] => { results := [.lit (.bool true)], args := [d1, d2, d3] }
  | _ => none }
def markSealedRow : OpenClaim := { program := "ytanijhlpneiebaa", sum := "37f2228575535e036fe0aebe038c689a771277c3f1ba6df840e619765ae53123", func := "quiver/quiverlaw03.MarkSealed", spec := "markSealed", unfollowed := true, recurses := true, apart := false }
def MarkSealedSaid : Prop := markSealedRow.holds Try.pinned (OpenSpec.ofChange markSealedSpec)

/-- ITS FALSE NEIGHBOUR: 'it returns false'. Refute it at one input. -/
def markSealedWrong : ChangeSpec := { name := "markSealed", fn := fun _ => fun
  | [d1, d2, d3] => { results := [.lit (.bool false)], args := [d1, d2, d3] }
  | _ => none }
def MarkSealedWrongFalsely : Prop := markSealedRow.holds Try.pinned (OpenSpec.ofChange markSealedWrong)

/-- 'quiverlaw03.MarkFirst': WHATEVER THE INPUT: true; the input reads as it did. -/
def markFirstSpec : ChangeSpec := { name := "markFirst", fn := fun _ => fun
  | [d1, d2] => { results := [.lit (.bool true)], args := [d1, d2] }
  | _ => none }
def markFirstRow : OpenClaim := { program := "ytanijhlpneiebaa", sum := "37f2228575535e036fe0aebe038c689a771277c3f1ba6df840e619765ae53123", func := "quiver/quiverlaw03.MarkFirst", spec := "markFirst", unfollowed := true, recurses := true, apart := false }
def MarkFirstSaid : Prop := markFirstRow.holds Try.pinned (OpenSpec.ofChange markFirstSpec)

/-- ITS FALSE NEIGHBOUR: 'it returns false'. Refute it at one input. -/
def markFirstWrong : ChangeSpec := { name := "markFirst", fn := fun _ => fun
  | [d1, d2] => { results := [.lit (.bool false)], args := [d1, d2] }
  | _ => none }
def MarkFirstWrongFalsely : Prop := markFirstRow.holds Try.pinned (OpenSpec.ofChange markFirstWrong)

/-- 'quiverlaw03.MarkGoes': WHATEVER THE INPUT: true; the input reads as it did. -/
def markGoesSpec : ChangeSpec := { name := "markGoes", fn := fun _ => fun
  | [d1, d2, d3] => { results := [.lit (.bool true)], args := [d1, d2, d3] }
  | _ => none }
def markGoesRow : OpenClaim := { program := "ytanijhlpneiebaa", sum := "37f2228575535e036fe0aebe038c689a771277c3f1ba6df840e619765ae53123", func := "quiver/quiverlaw03.MarkGoes", spec := "markGoes", unfollowed := true, recurses := true, apart := false }
def MarkGoesSaid : Prop := markGoesRow.holds Try.pinned (OpenSpec.ofChange markGoesSpec)

/-- ITS FALSE NEIGHBOUR: 'it returns false'. Refute it at one input. -/
def markGoesWrong : ChangeSpec := { name := "markGoes", fn := fun _ => fun
  | [d1, d2, d3] => { results := [.lit (.bool false)], args := [d1, d2, d3] }
  | _ => none }
def MarkGoesWrongFalsely : Prop := markGoesRow.holds Try.pinned (OpenSpec.ofChange markGoesWrong)

/-- 'quiverlaw03.MarkOne': WHATEVER THE INPUT: true; the input reads as it did. -/
def markOneSpec : ChangeSpec := { name := "markOne", fn := fun _ => fun
  | [d1, d2, d3] => { results := [.lit (.bool true)], args := [d1, d2, d3] }
  | _ => none }
def markOneRow : OpenClaim := { program := "ytanijhlpneiebaa", sum := "37f2228575535e036fe0aebe038c689a771277c3f1ba6df840e619765ae53123", func := "quiver/quiverlaw03.MarkOne", spec := "markOne", unfollowed := true, recurses := true, apart := false }
def MarkOneSaid : Prop := markOneRow.holds Try.pinned (OpenSpec.ofChange markOneSpec)

/-- ITS FALSE NEIGHBOUR: 'it returns false'. Refute it at one input. -/
def markOneWrong : ChangeSpec := { name := "markOne", fn := fun _ => fun
  | [d1, d2, d3] => { results := [.lit (.bool false)], args := [d1, d2, d3] }
  | _ => none }
def MarkOneWrongFalsely : Prop := markOneRow.holds Try.pinned (OpenSpec.ofChange markOneWrong)

/-- 'quiverlaw01.FieldOrders': WHATEVER THE INPUT: true; the input reads as it did. -/
def fieldOrdersSpec : ChangeSpec := { name := "fieldOrders", fn := fun _ => fun
  | [d1, d2, d3] => { results := [.lit (.bool true)], args := [d1, d2, d3] }
  | _ => none }
def fieldOrdersRow : OpenClaim := { program := "ytanijhlpneiebaa", sum := "37f2228575535e036fe0aebe038c689a771277c3f1ba6df840e619765ae53123", func := "quiver/quiverlaw01.FieldOrders", spec := "fieldOrders", inPlace := ["internal/bytealg.Compare"], unfollowed := true, recurses := true, apart := false }
def FieldOrdersSaid : Prop := fieldOrdersRow.holds Try.pinned (OpenSpec.ofChange fieldOrdersSpec)

/-- ITS FALSE NEIGHBOUR: 'it returns false'. Refute it at one input. -/
def fieldOrdersWrong : ChangeSpec := { name := "fieldOrders", fn := fun _ => fun
  | [d1, d2, d3] => { results := [.lit (.bool false)], args := [d1, d2, d3] }
  | _ => none }
def FieldOrdersWrongFalsely : Prop := fieldOrdersRow.holds Try.pinned (OpenSpec.ofChange fieldOrdersWrong)

/- THE SECOND FORM. 'bulk': how many values and letters a reading holds, each counted each time it is reached (what is shared counts as often as it is met; a slice's spare places count too). A statement '..UptoSaid' is the law's where the arguments, and the package variables that the reading takes, are together of bulk at most 1048576: NARROWER than '..Said'. Prove '..Said' where nothing that the law and all that it calls make is longer than what came in: it says more and counts as full. Else prove '..UptoSaid'. A law counts once. -/
mutual
def uptoBulk {H : Type} : DataW H → Nat
  | .lit (.string bytes) => bytes.length + 1
  | .lit _ => 1
  | .nil => 1
  | .ptr d => uptoBulk d + 1
  | .slice elems spare => uptoBulkAll elems + uptoBulkAll spare + 1
  | .agg parts => uptoBulkAll parts + 1
  | .iface _ d => uptoBulk d + 1
  | .map entries => uptoBulkEntries entries + 1
  | .held _ => 1
def uptoBulkAll {H : Type} : List (DataW H) → Nat
  | [] => 0
  | d :: r => uptoBulk d + uptoBulkAll r
def uptoBulkEntries {H : Type} : List (Lit × DataW H) → Nat
  | [] => 0
  | x :: r => uptoBulkEntry x + uptoBulkEntries r
def uptoBulkEntry {H : Type} : Lit × DataW H → Nat
  | (.string bytes, d) => bytes.length + uptoBulk d + 1
  | (_, d) => uptoBulk d + 1
 end
def uptoSmall : (H : Type) → List (DataW H) → Bool := fun _ ds => decide (uptoBulkAll ds ≤ 1048576)
def OpenSpec.upto (s : _root_.Go.ChangeSpec) : _root_.Go.OpenSpec := { _root_.Go.OpenSpec.ofChange s with cond := some uptoSmall }

/-- 'quiverlaw01.FieldLays', WHERE WHAT IT READS IS OF BULK AT MOST 1048576: true; the input reads as it did. -/
def fieldLaysUptoRow : OpenClaim := { program := "ytanijhlpneiebaa", sum := "37f2228575535e036fe0aebe038c689a771277c3f1ba6df840e619765ae53123", func := "quiver/quiverlaw01.FieldLays", spec := "fieldLays", unfollowed := true, recurses := true, apart := false, narrowed := true }
def FieldLaysUptoSaid : Prop := fieldLaysUptoRow.holds Try.pinned (OpenSpec.upto fieldLaysSpec)

/-- 'quiverlaw01.FieldBack', WHERE WHAT IT READS IS OF BULK AT MOST 1048576: true; the input reads as it did. -/
def fieldBackUptoRow : OpenClaim := { program := "ytanijhlpneiebaa", sum := "37f2228575535e036fe0aebe038c689a771277c3f1ba6df840e619765ae53123", func := "quiver/quiverlaw01.FieldBack", spec := "fieldBack", unfollowed := true, recurses := true, apart := false, narrowed := true }
def FieldBackUptoSaid : Prop := fieldBackUptoRow.holds Try.pinned (OpenSpec.upto fieldBackSpec)

/-- 'quiverlaw01.FieldJoins', WHERE WHAT IT READS IS OF BULK AT MOST 1048576: true; the input reads as it did. -/
def fieldJoinsUptoRow : OpenClaim := { program := "ytanijhlpneiebaa", sum := "37f2228575535e036fe0aebe038c689a771277c3f1ba6df840e619765ae53123", func := "quiver/quiverlaw01.FieldJoins", spec := "fieldJoins", unfollowed := true, recurses := true, apart := false, narrowed := true }
def FieldJoinsUptoSaid : Prop := fieldJoinsUptoRow.holds Try.pinned (OpenSpec.upto fieldJoinsSpec)

/-- 'quiverlaw01.FieldScans', WHERE WHAT IT READS IS OF BULK AT MOST 1048576: true; the input reads as it did. -/
def fieldScansUptoRow : OpenClaim := { program := "ytanijhlpneiebaa", sum := "37f2228575535e036fe0aebe038c689a771277c3f1ba6df840e619765ae53123", func := "quiver/quiverlaw01.FieldScans", spec := "fieldScans", unfollowed := true, recurses := true, apart := false, narrowed := true }
def FieldScansUptoSaid : Prop := fieldScansUptoRow.holds Try.pinned (OpenSpec.upto fieldScansSpec)

/-- 'quiverlaw01.FieldNil', WHERE WHAT IT READS IS OF BULK AT MOST 1048576: true; the input reads as it did. -/
def fieldNilUptoRow : OpenClaim := { program := "ytanijhlpneiebaa", sum := "37f2228575535e036fe0aebe038c689a771277c3f1ba6df840e619765ae53123", func := "quiver/quiverlaw01.FieldNil", spec := "fieldNil", unfollowed := true, recurses := true, apart := false, narrowed := true }
def FieldNilUptoSaid : Prop := fieldNilUptoRow.holds Try.pinned (OpenSpec.upto fieldNilSpec)

/-- 'quiverlaw01.FieldBad', WHERE WHAT IT READS IS OF BULK AT MOST 1048576: true; the input reads as it did. -/
def fieldBadUptoRow : OpenClaim := { program := "ytanijhlpneiebaa", sum := "37f2228575535e036fe0aebe038c689a771277c3f1ba6df840e619765ae53123", func := "quiver/quiverlaw01.FieldBad", spec := "fieldBad", unfollowed := true, recurses := true, apart := false, narrowed := true }
def FieldBadUptoSaid : Prop := fieldBadUptoRow.holds Try.pinned (OpenSpec.upto fieldBadSpec)

/-- 'quiverlaw03.MarkTells', WHERE WHAT IT READS IS OF BULK AT MOST 1048576: true; the input reads as it did. -/
def markTellsUptoRow : OpenClaim := { program := "ytanijhlpneiebaa", sum := "37f2228575535e036fe0aebe038c689a771277c3f1ba6df840e619765ae53123", func := "quiver/quiverlaw03.MarkTells", spec := "markTells", unfollowed := true, recurses := true, apart := false, narrowed := true }
def MarkTellsUptoSaid : Prop := markTellsUptoRow.holds Try.pinned (OpenSpec.upto markTellsSpec)

/-- 'quiverlaw03.MarkOpens', WHERE WHAT IT READS IS OF BULK AT MOST 1048576: true; the input reads as it did. -/
def markOpensUptoRow : OpenClaim := { program := "ytanijhlpneiebaa", sum := "37f2228575535e036fe0aebe038c689a771277c3f1ba6df840e619765ae53123", func := "quiver/quiverlaw03.MarkOpens", spec := "markOpens", unfollowed := true, recurses := true, apart := false, narrowed := true }
def MarkOpensUptoSaid : Prop := markOpensUptoRow.holds Try.pinned (OpenSpec.upto markOpensSpec)

/-- 'quiverlaw03.MarkPlaces', WHERE WHAT IT READS IS OF BULK AT MOST 1048576: true; the input reads as it did. -/
def markPlacesUptoRow : OpenClaim := { program := "ytanijhlpneiebaa", sum := "37f2228575535e036fe0aebe038c689a771277c3f1ba6df840e619765ae53123", func := "quiver/quiverlaw03.MarkPlaces", spec := "markPlaces", unfollowed := true, recurses := true, apart := false, narrowed := true }
def MarkPlacesUptoSaid : Prop := markPlacesUptoRow.holds Try.pinned (OpenSpec.upto markPlacesSpec)

/-- 'quiverlaw03.MarkSealed', WHERE WHAT IT READS IS OF BULK AT MOST 1048576: true; the input reads as it did. -/
def markSealedUptoRow : OpenClaim := { program := "ytanijhlpneiebaa", sum := "37f2228575535e036fe0aebe038c689a771277c3f1ba6df840e619765ae53123", func := "quiver/quiverlaw03.MarkSealed", spec := "markSealed", unfollowed := true, recurses := true, apart := false, narrowed := true }
def MarkSealedUptoSaid : Prop := markSealedUptoRow.holds Try.pinned (OpenSpec.upto markSealedSpec)

/-- 'quiverlaw03.MarkFirst', WHERE WHAT IT READS IS OF BULK AT MOST 1048576: true; the input reads as it did. -/
def markFirstUptoRow : OpenClaim := { program := "ytanijhlpneiebaa", sum := "37f2228575535e036fe0aebe038c689a771277c3f1ba6df840e619765ae53123", func := "quiver/quiverlaw03.MarkFirst", spec := "markFirst", unfollowed := true, recurses := true, apart := false, narrowed := true }
def MarkFirstUptoSaid : Prop := markFirstUptoRow.holds Try.pinned (OpenSpec.upto markFirstSpec)

/-- 'quiverlaw03.MarkGoes', WHERE WHAT IT READS IS OF BULK AT MOST 1048576: true; the input reads as it did. -/
def markGoesUptoRow : OpenClaim := { program := "ytanijhlpneiebaa", sum := "37f2228575535e036fe0aebe038c689a771277c3f1ba6df840e619765ae53123", func := "quiver/quiverlaw03.MarkGoes", spec := "markGoes", unfollowed := true, recurses := true, apart := false, narrowed := true }
def MarkGoesUptoSaid : Prop := markGoesUptoRow.holds Try.pinned (OpenSpec.upto markGoesSpec)

/-- 'quiverlaw03.MarkOne', WHERE WHAT IT READS IS OF BULK AT MOST 1048576: true; the input reads as it did. -/
def markOneUptoRow : OpenClaim := { program := "ytanijhlpneiebaa", sum := "37f2228575535e036fe0aebe038c689a771277c3f1ba6df840e619765ae53123", func := "quiver/quiverlaw03.MarkOne", spec := "markOne", unfollowed := true, recurses := true, apart := false, narrowed := true }
def MarkOneUptoSaid : Prop := markOneUptoRow.holds Try.pinned (OpenSpec.upto markOneSpec)

/-- 'quiverlaw01.FieldOrders', WHERE WHAT IT READS IS OF BULK AT MOST 1048576: true; the input reads as it did. -/
def fieldOrdersUptoRow : OpenClaim := { program := "ytanijhlpneiebaa", sum := "37f2228575535e036fe0aebe038c689a771277c3f1ba6df840e619765ae53123", func := "quiver/quiverlaw01.FieldOrders", spec := "fieldOrders", inPlace := ["internal/bytealg.Compare"], unfollowed := true, recurses := true, apart := false, narrowed := true }
def FieldOrdersUptoSaid : Prop := fieldOrdersUptoRow.holds Try.pinned (OpenSpec.upto fieldOrdersSpec)

end Rows
end Go.Proofs.Ytanijhlpneiebaa
