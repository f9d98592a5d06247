/- Contract of slices.IndexFunc over cells at arena.Put's closure: the least free slot. -/
import Derived.Test.YtoblkjdiahoplaaA1
namespace Go.Proofs.Ytoblkjdiahoplaa.G
open Go.Shelf Go.RowKit Go.Proofs.YtoblkjdiahoplaaW.PrintWords Go.Proofs.YtoblkjdiahoplaaW.PrintLast Go.Proofs.YtoblkjdiahoplaaW.PrintMore
set_option linter.unusedVariables false
set_option linter.unusedSimpArgs false

/-- The least free slot; -1: there is none. -/
def leastF (l : List Cell) : Int := firstP (fun j => !(P.rd_T36 l ((j : Nat) : Int)).f0) 0 l.length
def idx_free.f (l : List Cell) : Option Int := some (leastF l)

set_option maxHeartbeats 1000000 in
set_option maxRecDepth 100000 in
theorem put1 (x : Cell) (A4 : Option Addr) (c4 : Nat) (W : World) :
    Calls Try.prog 45 (#[.agg #[.bool x.f0, .int .u64 x.f1, .int .u64 x.f2.f0, .int .u64 x.f2.f1, .slice A4 x.f2.f2.length c4]] ++ #[]) W fun e w' => e = .returned (.bool (!x.f0)) ∧ Below W.heap.size W w' := by
  go_enter Try.func45, Try.ntmps45
  go_wp2_with fail
  go_returns
  exact ⟨rfl, (Below.refl _ _).alloc (Nat.le_refl _) _⟩
theorem idx_free.calls (A0 : Option Addr) (c0 : Nat) (l0 : List Cell) (r : Int) (w : World) (hr0 : Kd.C kC w A0 l0.length l0) (hc0 : l0.length ≤ c0) (h : idx_free.f l0 = some r) :
    Calls Try.prog 44 #[.slice A0 l0.length c0, .func (.func 45) #[] #[]] w fun e w' => e = .returned (.int .i64 r) ∧ Below w.heap.size w w' := by
  obtain rfl := Option.some.inj h
  exact idx_Cell A0 c0 l0 45 #[] (fun x => !x.f0) w hr0 (enters_of Try.func45 (by kernel_rfl) rfl) (fun x A4 c4 W _ _ _ _ => put1 x A4 c4 W)

end Go.Proofs.Ytoblkjdiahoplaa.G
