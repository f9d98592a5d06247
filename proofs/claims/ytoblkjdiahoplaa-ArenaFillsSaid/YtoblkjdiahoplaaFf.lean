/- ArenaFills: the walk for the row. -/
import Derived.Test.YtoblkjdiahoplaaFe
namespace Go.Proofs.Ytoblkjdiahoplaa.G
open Go.Shelf Go.RowKit Go.Proofs.YtoblkjdiahoplaaW.PrintWords Go.Proofs.YtoblkjdiahoplaaW.PrintLast Go.Proofs.YtoblkjdiahoplaaW.PrintMore
set_option linter.unusedVariables false
set_option linter.unusedSimpArgs false

theorem overf_l0 (l : List Cell) (hl : l.length ≤ 120) : ∀ (d i k : Nat), i + d = l.length → d < k →
    ∃ r, P.quiverlaw09_overCells.l0 k l (l.length : Int) (i : Int) = some r := by
  intro d
  induction d with
  | zero =>
    intro i k hi hk
    obtain ⟨k', rfl⟩ : ∃ k', k = k' + 1 := ⟨k - 1, by omega⟩
    exact ⟨_, by rw [P.quiverlaw09_overCells.l0, if_neg (by omega)]⟩
  | succ d ih =>
    intro i k hi hk
    obtain ⟨k', rfl⟩ : ∃ k', k = k' + 1 := ⟨k - 1, by omega⟩
    obtain ⟨r, hr⟩ := ih (i + 1) k' (by omega) (by omega)
    rw [P.quiverlaw09_overCells.l0, if_pos (by omega), if_pos (by omega), if_pos (by omega), show wrap64 ((i : Int) + 1) = ((i + 1 : Nat) : Int) from by rw [w64 (by omega) (by omega)]; omega, hr]
    split <;> exact ⟨_, rfl⟩
theorem overf_is (l : List Cell) : ∃ r, P.quiverlaw09_over.f 200 l = some r := by
  unfold P.quiverlaw09_over.f P.quiverlaw09_overCells.f
  by_cases h : (l.length : Int) > 120
  · rw [if_pos h]; exact ⟨_, rfl⟩
  · rw [if_neg h]
    obtain ⟨r, hr⟩ := overf_l0 l (by omega) l.length 0 200 (by omega) (by omega)
    rw [show (0 : Int) = ((0 : Nat) : Int) from rfl, hr]; exact ⟨_, rfl⟩
theorem fills_all (A0 : Option Addr) (c0 : Nat) (l0 : List Cell) (b e : Int) (A1 : Option Addr) (c1 : Nat) (v : List Int) (A2 : Option Addr) (c2 : Nat) (ds : List Int) (w : World)
    (hc0 : l0.length ≤ c0) (hr0 : Kd.C kC w A0 l0.length l0) (hc1 : v.length ≤ c1) (hr1 : Kd.C (Kd.int .i32) w A1 v.length v) (hr2 : Kd.C (Kd.int .i64) w A2 ds.length ds) :
    Calls Try.prog 5 #[.agg #[.slice A0 l0.length c0], .agg #[.int .u64 b, .int .u64 e, .slice A1 v.length c1], .slice A2 ds.length c2] w fun e w' => e = .returned (.bool true) ∧ Below w.heap.size w w' := by
  obtain ⟨r, hr⟩ := overf_is l0
  cases r with
  | true => exact fills_over A0 c0 l0 b e A1 c1 v A2 c2 ds w hc0 hr0 hc1 hr1 hr2 hr
  | false =>
    by_cases hl : v.length ≤ 50
    · cases hk : arenaOk l0 with
      | false => exact fills_chk A0 c0 l0 b e A1 c1 v A2 c2 ds w hc0 hr0 hc1 hr1 hr2 hr hl hk
      | true =>
        cases hv : rightVer b e v with
        | false => exact fills_ver A0 c0 l0 b e A1 c1 v A2 c2 ds w hc0 hr0 hc1 hr1 hr2 hr hl hk hv
        | true => exact fills_main A0 c0 l0 b e A1 c1 v A2 c2 ds w hc0 hr0 hc1 hr1 hr2 hr hl hk hv
    · exact fills_long A0 c0 l0 b e A1 c1 v A2 c2 ds w hc0 hr0 hc1 hr1 hr2 hr (by omega)
theorem fills_walk (x0 : List Cell) (cs0 : Array Value) (x1 : P.S34) (cs1 : Array Value) (A2 : Option Addr) (c2 : Nat) (l2 : List Int) (w : World)
    (hK0 : (Kd.slice 22 kC).K w x0 cs0.toList) {Wf0 : Prop} (w0 : Wf0) (hK1 : P.k34.K w x1 cs1.toList) {Wf1 : Prop} (w1 : Wf1) (hl2 : l2.length ≤ c2) (hC2 : Kd.C (Kd.int .i64) w A2 l2.length l2) {Wf2 : Prop} (w2 : Wf2) :
    Calls Try.prog 5 #[.agg cs0, .agg cs1, .slice A2 l2.length c2] w fun e w' => e = .returned (.bool true) ∧ Below w.heap.size w w' := by
  obtain ⟨A0, c0, e0, h0, hC0⟩ := hK0
  obtain ⟨A1, c1, e1, h1, hC1⟩ := P.k34_open hK1
  obtain rfl : cs0 = #[.slice A0 x0.length c0] := by apply Array.toList_inj.1; exact e0
  obtain rfl : cs1 = #[.int .u64 x1.f0, .int .u64 x1.f1, .slice A1 x1.f2.length c1] := by apply Array.toList_inj.1; exact e1
  exact fills_all A0 c0 x0 x1.f0 x1.f1 A1 c1 x1.f2 A2 c2 l2 w h0 hC0 h1 hC1 hC2

end Go.Proofs.Ytoblkjdiahoplaa.G
