/-
  No cell of these rows narrows 'for every input' (looked for: loops, veiled, ifaces, maps, wideKeys, modest, calm, conditions, laid).
  DERIVED. THE GIVEN ROWS OF THIS SEAT. 11 by the template 'for every input the law returns true; each argument reads behind the call as it read before'; 0 by the template 'total and deterministic' (their statements: YtngjaaldidmgjaaTotals.lean).
  GIVEN WITH THE SEED: the statements are not yours to turn. If you find one false, say at which input.
  Laid BY PROGRAM, IN A SANDBOX (cutbox-rows.mjs): the forced cells as the released guide's own fill.sh prints them over the translation 4da87693750ac9ba… (all of the seat's roots in one cut). By AI agents, Wed Nov 11 2026. No macro, syntax, notation, axiom, sorry.
-/
import Derived.Test.YtngjaaldidmgjaaChecked
import GoSem.Claim
import GoSem.ClaimJoined
import GoSem.ClaimMapViews
import Derived.JoinedTies
import Derived.KernelRfl
namespace Go.Proofs.Ytngjaaldidmgjaa
/- THE CELL 'sum', in the pinned program and in every row, IS THE sha256 OF THE DUMP (.gsa) THAT YtngjaaldidmgjaaProg.lean LOADS. Nothing in Lean hashes anything: it is a label: what it is worth is what the hold of that sum in a sandbox is worth. -/
noncomputable def Try.pinned : Pinned := { name := "ytngjaaldidmgjaa", sum := "4da87693750ac9ba0dfda43b9368a7edc4662b906a62b6e33abfdbd1e3fd0b97", checked := Try.checked }
namespace Rows
def none {H : Type} : Left H := { results := [], args := [] }

/-- 'quiverlaw24.RecordJoined': WHATEVER THE INPUT: true; the input reads as it did. -/
def recordJoinedSpec : ChangeSpec := { name := "recordJoined", fn := fun _ => fun
  | [d1, d2] => { results := [.lit (.bool true)], args := [d1, d2] }
  | _ => none }
def recordJoinedRow : OpenClaim := { program := "ytngjaaldidmgjaa", sum := "4da87693750ac9ba0dfda43b9368a7edc4662b906a62b6e33abfdbd1e3fd0b97", func := "quiver/quiverlaw24.RecordJoined", spec := "recordJoined", unfollowed := true, recurses := true, apart := false }
def RecordJoinedSaid : Prop := recordJoinedRow.holds Try.pinned (OpenSpec.ofChange recordJoinedSpec)

/-- ITS FALSE NEIGHBOUR: 'it returns false'. Refute it at one input. -/
def recordJoinedWrong : ChangeSpec := { name := "recordJoined", fn := fun _ => fun
  | [d1, d2] => { results := [.lit (.bool false)], args := [d1, d2] }
  | _ => none }
def RecordJoinedWrongFalsely : Prop := recordJoinedRow.holds Try.pinned (OpenSpec.ofChange recordJoinedWrong)

/-- 'quiverlaw24.RecordParsed': WHATEVER THE INPUT: true; the input reads as it did. -/
def recordParsedSpec : ChangeSpec := { name := "recordParsed", fn := fun _ => fun
  | [d] => { results := [.lit (.bool true)], args := [d] }
  | _ => none }
def recordParsedRow : OpenClaim := { program := "ytngjaaldidmgjaa", sum := "4da87693750ac9ba0dfda43b9368a7edc4662b906a62b6e33abfdbd1e3fd0b97", func := "quiver/quiverlaw24.RecordParsed", spec := "recordParsed", unfollowed := true, recurses := true, apart := false }
def RecordParsedSaid : Prop := recordParsedRow.holds Try.pinned (OpenSpec.ofChange recordParsedSpec)

/-- ITS FALSE NEIGHBOUR: 'it returns false'. Refute it at one input. -/
def recordParsedWrong : ChangeSpec := { name := "recordParsed", fn := fun _ => fun
  | [d] => { results := [.lit (.bool false)], args := [d] }
  | _ => none }
def RecordParsedWrongFalsely : Prop := recordParsedRow.holds Try.pinned (OpenSpec.ofChange recordParsedWrong)

/-- 'quiverlaw07.CodecApart': WHATEVER THE INPUT: true; the input reads as it did. -/
def codecApartSpec : ChangeSpec := { name := "codecApart", fn := fun _ => fun
  | [d1, d2, d3] => { results := [.lit (.bool true)], args := [d1, d2, d3] }
  | _ => none }
def codecApartRow : OpenClaim := { program := "ytngjaaldidmgjaa", sum := "4da87693750ac9ba0dfda43b9368a7edc4662b906a62b6e33abfdbd1e3fd0b97", func := "quiver/quiverlaw07.CodecApart", spec := "codecApart", unfollowed := true, recurses := true, apart := false }
def CodecApartSaid : Prop := codecApartRow.holds Try.pinned (OpenSpec.ofChange codecApartSpec)

/-- ITS FALSE NEIGHBOUR: 'it returns false'. Refute it at one input. -/
def codecApartWrong : ChangeSpec := { name := "codecApart", fn := fun _ => fun
  | [d1, d2, d3] => { results := [.lit (.bool false)], args := [d1, d2, d3] }
  | _ => none }
def CodecApartWrongFalsely : Prop := codecApartRow.holds Try.pinned (OpenSpec.ofChange codecApartWrong)

/-- 'quiverlaw07.CodecTakes': WHATEVER THE INPUT: true; the input reads as it did. -/
def codecTakesSpec : ChangeSpec := { name := "codecTakes", fn := fun _ => fun
  | [d] => { results := [.lit (.bool true)], args := [d] }
  | _ => none }
def codecTakesRow : OpenClaim := { program := "ytngjaaldidmgjaa", sum := "4da87693750ac9ba0dfda43b9368a7edc4662b906a62b6e33abfdbd1e3fd0b97", func := "quiver/quiverlaw07.CodecTakes", spec := "codecTakes", unfollowed := true, recurses := true, apart := false }
def CodecTakesSaid : Prop := codecTakesRow.holds Try.pinned (OpenSpec.ofChange codecTakesSpec)

/-- ITS FALSE NEIGHBOUR: 'it returns false'. Refute it at one input. -/
def codecTakesWrong : ChangeSpec := { name := "codecTakes", fn := fun _ => fun
  | [d] => { results := [.lit (.bool false)], args := [d] }
  | _ => none }
def CodecTakesWrongFalsely : Prop := codecTakesRow.holds Try.pinned (OpenSpec.ofChange codecTakesWrong)

/-- 'quiverlaw07.CodecLays': WHATEVER THE INPUT: true; the input reads as it did. -/
def codecLaysSpec : ChangeSpec := { name := "codecLays", fn := fun _ => fun
  | [d1, d2, d3] => { results := [.lit (.bool true)], args := [d1, d2, d3] }
  | _ => none }
def codecLaysRow : OpenClaim := { program := "ytngjaaldidmgjaa", sum := "4da87693750ac9ba0dfda43b9368a7edc4662b906a62b6e33abfdbd1e3fd0b97", func := "quiver/quiverlaw07.CodecLays", spec := "codecLays", unfollowed := true, recurses := true, apart := false }
def CodecLaysSaid : Prop := codecLaysRow.holds Try.pinned (OpenSpec.ofChange codecLaysSpec)

/-- ITS FALSE NEIGHBOUR: 'it returns false'. Refute it at one input. -/
def codecLaysWrong : ChangeSpec := { name := "codecLays", fn := fun _ => fun
  | [d1, d2, d3] => { results := [.lit (.bool false)], args := [d1, d2, d3] }
  | _ => none }
def CodecLaysWrongFalsely : Prop := codecLaysRow.holds Try.pinned (OpenSpec.ofChange codecLaysWrong)

/-- 'quiverlaw07.CodecBack': WHATEVER THE INPUT: true; the input reads as it did. -/
def codecBackSpec : ChangeSpec := { name := "codecBack", fn := fun _ => fun
  | [d1, d2, d3] => { results := [.lit (.bool true)], args := [d1, d2, d3] }
  | _ => none }
def codecBackRow : OpenClaim := { program := "ytngjaaldidmgjaa", sum := "4da87693750ac9ba0dfda43b9368a7edc4662b906a62b6e33abfdbd1e3fd0b97", func := "quiver/quiverlaw07.CodecBack", spec := "codecBack", unfollowed := true, recurses := true, apart := false }
def CodecBackSaid : Prop := codecBackRow.holds Try.pinned (OpenSpec.ofChange codecBackSpec)

/-- ITS FALSE NEIGHBOUR: 'it returns false'. Refute it at one input. -/
def codecBackWrong : ChangeSpec := { name := "codecBack", fn := fun _ => fun
  | [d1, d2, d3] => { results := [.lit (.bool false)], args := [d1, d2, d3] }
  | _ => none }
def CodecBackWrongFalsely : Prop := codecBackRow.holds Try.pinned (OpenSpec.ofChange codecBackWrong)

/-- 'quiverlaw07.CodecTaken': WHATEVER THE INPUT: true; the input reads as it did. -/
def codecTakenSpec : ChangeSpec := { name := "codecTaken", fn := fun _ => fun
  | [d] => { results := [.lit (.bool true)], args := [d] }
  | _ => none }
def codecTakenRow : OpenClaim := { program := "ytngjaaldidmgjaa", sum := "4da87693750ac9ba0dfda43b9368a7edc4662b906a62b6e33abfdbd1e3fd0b97", func := "quiver/quiverlaw07.CodecTaken", spec := "codecTaken", unfollowed := true, recurses := true, apart := false }
def CodecTakenSaid : Prop := codecTakenRow.holds Try.pinned (OpenSpec.ofChange codecTakenSpec)

/-- ITS FALSE NEIGHBOUR: 'it returns false'. Refute it at one input. -/
def codecTakenWrong : ChangeSpec := { name := "codecTaken", fn := fun _ => fun
  | [d] => { results := [.lit (.bool false)], args := [d] }
  | _ => none }
def CodecTakenWrongFalsely : Prop := codecTakenRow.holds Try.pinned (OpenSpec.ofChange codecTakenWrong)

/-- 'quiverlaw24.RecordReads': WHATEVER THE INPUT: true; the input reads as it did. -/
def recordReadsSpec : ChangeSpec := { name := "recordReads", fn := fun _ => fun
  | [d] => { results := [.lit (.bool true)], args := [d] }
  | _ => none }
def recordReadsRow : OpenClaim := { program := "ytngjaaldidmgjaa", sum := "4da87693750ac9ba0dfda43b9368a7edc4662b906a62b6e33abfdbd1e3fd0b97", func := "quiver/quiverlaw24.RecordReads", spec := "recordReads", unfollowed := true, recurses := true, apart := false }
def RecordReadsSaid : Prop := recordReadsRow.holds Try.pinned (OpenSpec.ofChange recordReadsSpec)

/-- ITS FALSE NEIGHBOUR: 'it returns false'. Refute it at one input. -/
def recordReadsWrong : ChangeSpec := { name := "recordReads", fn := fun _ => fun
  | [d] => { results := [.lit (.bool false)], args := [d] }
  | _ => none }
def RecordReadsWrongFalsely : Prop := recordReadsRow.holds Try.pinned (OpenSpec.ofChange recordReadsWrong)

/-- 'quiverlaw24.RecordLays': WHATEVER THE INPUT: true; the input reads as it did. -/
def recordLaysSpec : ChangeSpec := { name := "recordLays", fn := fun _ => fun
  | [d] => { results := [.lit (.bool true)], args := [d] }
  | _ => none }
def recordLaysRow : OpenClaim := { program := "ytngjaaldidmgjaa", sum := "4da87693750ac9ba0dfda43b9368a7edc4662b906a62b6e33abfdbd1e3fd0b97", func := "quiver/quiverlaw24.RecordLays", spec := "recordLays", unfollowed := true, recurses := true, apart := false }
def RecordLaysSaid : Prop := recordLaysRow.holds Try.pinned (OpenSpec.ofChange recordLaysSpec)

/-- ITS FALSE NEIGHBOUR: 'it returns false'. Refute it at one input. -/
def recordLaysWrong : ChangeSpec := { name := "recordLays", fn := fun _ => fun
  | [d] => { results := [.lit (.bool false)], args := [d] }
  | _ => none }
def RecordLaysWrongFalsely : Prop := recordLaysRow.holds Try.pinned (OpenSpec.ofChange recordLaysWrong)

/-- 'quiverlaw24.RecordBack': WHATEVER THE INPUT: true; the input reads as it did. -/
def recordBackSpec : ChangeSpec := { name := "recordBack", fn := fun _ => fun
  | [d1, d2, d3] => { results := [.lit (.bool true)], args := [d1, d2, d3] }
  | _ => none }
def recordBackRow : OpenClaim := { program := "ytngjaaldidmgjaa", sum := "4da87693750ac9ba0dfda43b9368a7edc4662b906a62b6e33abfdbd1e3fd0b97", func := "quiver/quiverlaw24.RecordBack", spec := "recordBack", unfollowed := true, recurses := true, apart := false }
def RecordBackSaid : Prop := recordBackRow.holds Try.pinned (OpenSpec.ofChange recordBackSpec)

/-- ITS FALSE NEIGHBOUR: 'it returns false'. Refute it at one input. -/
def recordBackWrong : ChangeSpec := { name := "recordBack", fn := fun _ => fun
  | [d1, d2, d3] => { results := [.lit (.bool false)], args := [d1, d2, d3] }
  | _ => none }
def RecordBackWrongFalsely : Prop := recordBackRow.holds Try.pinned (OpenSpec.ofChange recordBackWrong)

/-- 'quiverlaw24.RecordAlls': WHATEVER THE INPUT: true; the input reads as it did. -/
def recordAllsSpec : ChangeSpec := { name := "recordAlls", fn := fun _ => fun
  | [d1, d2] => { results := [.lit (.bool true)], args := [d1, d2] }
  | _ => none }
def recordAllsRow : OpenClaim := { program := "ytngjaaldidmgjaa", sum := "4da87693750ac9ba0dfda43b9368a7edc4662b906a62b6e33abfdbd1e3fd0b97", func := "quiver/quiverlaw24.RecordAlls", spec := "recordAlls", unfollowed := true, recurses := true, apart := false }
def RecordAllsSaid : Prop := recordAllsRow.holds Try.pinned (OpenSpec.ofChange recordAllsSpec)

/-- ITS FALSE NEIGHBOUR: 'it returns false'. Refute it at one input. -/
def recordAllsWrong : ChangeSpec := { name := "recordAlls", fn := fun _ => fun
  | [d1, d2] => { results := [.lit (.bool false)], args := [d1, d2] }
  | _ => none }
def RecordAllsWrongFalsely : Prop := recordAllsRow.holds Try.pinned (OpenSpec.ofChange recordAllsWrong)

/- THE SECOND FORM. 'bulk': how many values and letters a reading holds, each counted each time it is reached (what is shared counts as often as it is met; a slice's spare places count too). A statement '..UptoSaid' is the law's where the arguments, and the package variables that the reading takes, are together of bulk at most 1048576: NARROWER than '..Said'. Prove '..Said' where nothing that the law and all that it calls make is longer than what came in: it says more and counts as full. Else prove '..UptoSaid'. A law counts once. -/
mutual
def uptoBulk {H : Type} : DataW H → Nat
  | .lit (.string bytes) => bytes.length + 1
  | .lit _ => 1
  | .nil => 1
  | .ptr d => uptoBulk d + 1
  | .slice elems spare => uptoBulkAll elems + uptoBulkAll spare + 1
  | .agg parts => uptoBulkAll parts + 1
  | .iface _ d => uptoBulk d + 1
  | .map entries => uptoBulkEntries entries + 1
  | .held _ => 1
def uptoBulkAll {H : Type} : List (DataW H) → Nat
  | [] => 0
  | d :: r => uptoBulk d + uptoBulkAll r
def uptoBulkEntries {H : Type} : List (Lit × DataW H) → Nat
  | [] => 0
  | x :: r => uptoBulkEntry x + uptoBulkEntries r
def uptoBulkEntry {H : Type} : Lit × DataW H → Nat
  | (.string bytes, d) => bytes.length + uptoBulk d + 1
  | (_, d) => uptoBulk d + 1
 end
def uptoSmall : (H : Type) → List (DataW H) → Bool := fun _ ds => decide (uptoBulkAll ds ≤ 1048576)
def OpenSpec.upto (s : _root_.Go.ChangeSpec) : _root_.Go.OpenSpec := { _root_.Go.OpenSpec.ofChange s with cond := some uptoSmall }

/-- 'quiverlaw24.RecordJoined', WHERE WHAT IT READS IS OF BULK AT MOST 1048576: true; the input reads as it did. -/
def recordJoinedUptoRow : OpenClaim := { program := "ytngjaaldidmgjaa", sum := "4da87693750ac9ba0dfda43b9368a7edc4662b906a62b6e33abfdbd1e3fd0b97", func := "quiver/quiverlaw24.RecordJoined", spec := "recordJoined", unfollowed := true, recurses := true, apart := false, narrowed := true }
def RecordJoinedUptoSaid : Prop := recordJoinedUptoRow.holds Try.pinned (OpenSpec.upto recordJoinedSpec)

/-- 'quiverlaw24.RecordParsed', WHERE WHAT IT READS IS OF BULK AT MOST 1048576: true; the input reads as it did. -/
def recordParsedUptoRow : OpenClaim := { program := "ytngjaaldidmgjaa", sum := "4da87693750ac9ba0dfda43b9368a7edc4662b906a62b6e33abfdbd1e3fd0b97", func := "quiver/quiverlaw24.RecordParsed", spec := "recordParsed", unfollowed := true, recurses := true, apart := false, narrowed := true }
def RecordParsedUptoSaid : Prop := recordParsedUptoRow.holds Try.pinned (OpenSpec.upto recordParsedSpec)

/-- 'quiverlaw07.CodecApart', WHERE WHAT IT READS IS OF BULK AT MOST 1048576: true; the input reads as it did. -/
def codecApartUptoRow : OpenClaim := { program := "ytngjaaldidmgjaa", sum := "4da87693750ac9ba0dfda43b9368a7edc4662b906a62b6e33abfdbd1e3fd0b97", func := "quiver/quiverlaw07.CodecApart", spec := "codecApart", unfollowed := true, recurses := true, apart := false, narrowed := true }
def CodecApartUptoSaid : Prop := codecApartUptoRow.holds Try.pinned (OpenSpec.upto codecApartSpec)

/-- 'quiverlaw07.CodecTakes', WHERE WHAT IT READS IS OF BULK AT MOST 1048576: true; the input reads as it did. -/
def codecTakesUptoRow : OpenClaim := { program := "ytngjaaldidmgjaa", sum := "4da87693750ac9ba0dfda43b9368a7edc4662b906a62b6e33abfdbd1e3fd0b97", func := "quiver/quiverlaw07.CodecTakes", spec := "codecTakes", unfollowed := true, recurses := true, apart := false, narrowed := true }
def CodecTakesUptoSaid : Prop := codecTakesUptoRow.holds Try.pinned (OpenSpec.upto codecTakesSpec)

/-- 'quiverlaw07.CodecLays', WHERE WHAT IT READS IS OF BULK AT MOST 1048576: true; the input reads as it did. -/
def codecLaysUptoRow : OpenClaim := { program := "ytngjaaldidmgjaa", sum := "4da87693750ac9ba0dfda43b9368a7edc4662b906a62b6e33abfdbd1e3fd0b97", func := "quiver/quiverlaw07.CodecLays", spec := "codecLays", unfollowed := true, recurses := true, apart := false, narrowed := true }
def CodecLaysUptoSaid : Prop := codecLaysUptoRow.holds Try.pinned (OpenSpec.upto codecLaysSpec)

/-- 'quiverlaw07.CodecBack', WHERE WHAT IT READS IS OF BULK AT MOST 1048576: true; the input reads as it did. -/
def codecBackUptoRow : OpenClaim := { program := "ytngjaaldidmgjaa", sum := "4da87693750ac9ba0dfda43b9368a7edc4662b906a62b6e33abfdbd1e3fd0b97", func := "quiver/quiverlaw07.CodecBack", spec := "codecBack", unfollowed := true, recurses := true, apart := false, narrowed := true }
def CodecBackUptoSaid : Prop := codecBackUptoRow.holds Try.pinned (OpenSpec.upto codecBackSpec)

/-- 'quiverlaw07.CodecTaken', WHERE WHAT IT READS IS OF BULK AT MOST 1048576: true; the input reads as it did. -/
def codecTakenUptoRow : OpenClaim := { program := "ytngjaaldidmgjaa", sum := "4da87693750ac9ba0dfda43b9368a7edc4662b906a62b6e33abfdbd1e3fd0b97", func := "quiver/quiverlaw07.CodecTaken", spec := "codecTaken", unfollowed := true, recurses := true, apart := false, narrowed := true }
def CodecTakenUptoSaid : Prop := codecTakenUptoRow.holds Try.pinned (OpenSpec.upto codecTakenSpec)

/-- 'quiverlaw24.RecordReads', WHERE WHAT IT READS IS OF BULK AT MOST 1048576: true; the input reads as it did. -/
def recordReadsUptoRow : OpenClaim := { program := "ytngjaaldidmgjaa", sum := "4da87693750ac9ba0dfda43b9368a7edc4662b906a62b6e33abfdbd1e3fd0b97", func := "quiver/quiverlaw24.RecordReads", spec := "recordReads", unfollowed := true, recurses := true, apart := false, narrowed := true }
def RecordReadsUptoSaid : Prop := recordReadsUptoRow.holds Try.pinned (OpenSpec.upto recordReadsSpec)

/-- 'quiverlaw24.RecordLays', WHERE WHAT IT READS IS OF BULK AT MOST 1048576: true; the input reads as it did. -/
def recordLaysUptoRow : OpenClaim := { program := "ytngjaaldidmgjaa", sum := "4da87693750ac9ba0dfda43b9368a7edc4662b906a62b6e33abfdbd1e3fd0b97", func := "quiver/quiverlaw24.RecordLays", spec := "recordLays", unfollowed := true, recurses := true, apart := false, narrowed := true }
def RecordLaysUptoSaid : Prop := recordLaysUptoRow.holds Try.pinned (OpenSpec.upto recordLaysSpec)

/-- 'quiverlaw24.RecordBack', WHERE WHAT IT READS IS OF BULK AT MOST 1048576: true; the input reads as it did. -/
def recordBackUptoRow : OpenClaim := { program := "ytngjaaldidmgjaa", sum := "4da87693750ac9ba0dfda43b9368a7edc4662b906a62b6e33abfdbd1e3fd0b97", func := "quiver/quiverlaw24.RecordBack", spec := "recordBack", unfollowed := true, recurses := true, apart := false, narrowed := true }
def RecordBackUptoSaid : Prop := recordBackUptoRow.holds Try.pinned (OpenSpec.upto recordBackSpec)

/-- 'quiverlaw24.RecordAlls', WHERE WHAT IT READS IS OF BULK AT MOST 1048576: true; the input reads as it did. -/
def recordAllsUptoRow : OpenClaim := { program := "ytngjaaldidmgjaa", sum := "4da87693750ac9ba0dfda43b9368a7edc4662b906a62b6e33abfdbd1e3fd0b97", func := "quiver/quiverlaw24.RecordAlls", spec := "recordAlls", unfollowed := true, recurses := true, apart := false, narrowed := true }
def RecordAllsUptoSaid : Prop := recordAllsUptoRow.holds Try.pinned (OpenSpec.upto recordAllsSpec)

end Rows
end Go.Proofs.Ytngjaaldidmgjaa
