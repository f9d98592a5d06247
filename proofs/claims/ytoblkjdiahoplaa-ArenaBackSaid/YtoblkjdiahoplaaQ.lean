/- A region that draws its order, whose operations only read, and whose callees may make memory of their own: walked once. No program's text is spoken of. -/
import Derived.Deep.QuietTactic
import Derived.Test.YtoblkjdiahoplaaA3
namespace Go.Proofs.Ytoblkjdiahoplaa.G
open Go.Shelf Go.RowKit Go.Proofs.YtoblkjdiahoplaaW.PrintWords Go.Proofs.YtoblkjdiahoplaaW.PrintLast Go.Proofs.YtoblkjdiahoplaaW.PrintMore
set_option linter.unusedVariables false

/-- A world in which what lay in w0 lies as it lay. -/
structure Gr (w0 : World) where
  w : World
  h : Below w0.heap.size w0 w
instance (w0 : World) : Inhabited (Gr w0) := ⟨⟨w0, Below.refl _ _⟩⟩
theorem wp_region_gr {P : Program} {id : Nat} {Q : Exit → Act → World → Prop} {a : Act} {w : World} {l : List Oper} (hm : P.follows .mixedOrders = true) (hB : Region.lexB .any l.toArray = true)
    (h : wpQuiet P l.toArray (fun w' => ∃ p : Gr w, w' = p.w) (fun a' => ∀ w', (∃ p : Gr w, w' = p.w) → Q .normal a' w') l a) : (Code.region id l.toArray true).wp P Q a w :=
  wp_region_quiet (C := fun w' => ∃ p : Gr w, w' = p.w) hm hB ⟨⟨w.drew, below_drew1 (Below.refl _ _)⟩, rfl⟩ (by simpa using h)
theorem Gr.cell {w0 : World} {a : Addr} {v : Value} (h : w0.cell? a = some v) (p : Gr w0) : p.w.cell? a = some v := (p.h.cell (World.block_lt_of_cell? w0 _ h)).trans h
theorem Calls.gr_of {P : Program} {f : FuncId} {args : Array Value} {w0 : World} {p : Gr w0} {v : Value}
    (h : Calls P f args p.w fun e w' => e = .returned v ∧ Below p.w.heap.size p.w w') : Calls P f args p.w fun e w'' => e = .returned v ∧ ∃ q : Gr w0, w'' = q.w :=
  h.mono fun _ w'' ⟨he, hb⟩ => ⟨he, ⟨w'', below_step p.h hb⟩, rfl⟩

end Go.Proofs.Ytoblkjdiahoplaa.G
