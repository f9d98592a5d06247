/- quiverlaw09.over answers, whatever the arena: plain; a row that is read, as a shared one. -/
import Derived.Test.YtoblkjdiahoplaaPov
import Derived.Test.YtoblkjdiahoplaaB
namespace Go.Proofs.Ytoblkjdiahoplaa.G
open Go.Shelf Go.RowKit Go.Proofs.YtoblkjdiahoplaaW.PrintWords Go.Proofs.YtoblkjdiahoplaaW.PrintLast Go.Proofs.YtoblkjdiahoplaaW.PrintMore
set_option linter.unusedVariables false
set_option linter.unusedSimpArgs false

theorem ovr_l0 (l : List Cell) (hl : l.length ≤ 120) : ∀ (d i k : Nat), i + d = l.length → d < k →
    ∃ r, P.quiverlaw09_overCells.l0 k l (l.length : Int) (i : Int) = some r := by
  intro d
  induction d with
  | zero =>
    intro i k hi hk
    obtain ⟨k', rfl⟩ : ∃ k', k = k' + 1 := ⟨k - 1, by omega⟩
    exact ⟨_, by rw [P.quiverlaw09_overCells.l0, if_neg (by omega)]⟩
  | succ d ih =>
    intro i k hi hk
    obtain ⟨k', rfl⟩ : ∃ k', k = k' + 1 := ⟨k - 1, by omega⟩
    obtain ⟨r, hr⟩ := ih (i + 1) k' (by omega) (by omega)
    rw [P.quiverlaw09_overCells.l0, if_pos (by omega), if_pos (by omega), if_pos (by omega), show wrap64 ((i : Int) + 1) = ((i + 1 : Nat) : Int) from by rw [w64 (by omega) (by omega)]; omega, hr]
    split <;> exact ⟨_, rfl⟩
theorem ovr_is (l : List Cell) : ∃ r, P.quiverlaw09_over.f 200 l = some r := by
  unfold P.quiverlaw09_over.f P.quiverlaw09_overCells.f
  by_cases h : (l.length : Int) > 120
  · rw [if_pos h]; exact ⟨_, rfl⟩
  · rw [if_neg h]
    obtain ⟨r, hr⟩ := ovr_l0 l (by omega) l.length 0 200 (by omega) (by omega)
    rw [show (0 : Int) = ((0 : Nat) : Int) from rfl, hr]; exact ⟨_, rfl⟩
theorem V_of_C {W : World} {A : Option Addr} {c : Nat} {l : List Cell} (h : Kd.C kC W A l.length l) (hc : l.length ≤ c) : Kd.V kC 36 W W.heap.size (fun _ => True) (.slice A l.length c) l :=
  Kd.V_mono (Kd.V_mk hc (Kd.C_F P.k36_heap h)) (fun _ _ => trivial)

end Go.Proofs.Ytoblkjdiahoplaa.G
