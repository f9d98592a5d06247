/- What the nearest of the first k vectors is: plain. -/
import Derived.Test.YtbdoeikdoohagaaV1
import Derived.Test.YtbdoeikdoohagaaG11
namespace Go.Proofs.Ytbdoeikdoohagaa.G
open Go.Shelf Go.RowKit Go.Proofs.YtbdoeikdoohagaaW.PrintWords Go.Proofs.YtbdoeikdoohagaaW.PrintLast Go.Proofs.YtbdoeikdoohagaaW.PrintMore
set_option linter.unusedVariables false
set_option linter.unusedSimpArgs false

/-- What the nearest of the first k is. -/
theorem nst_spec (l : List (List Int)) (v : List Int) : ∀ k, k ≤ l.length → 0 < l.length → ∃ j : Nat, (nst l v k).1 = (j : Int) ∧ j < l.length ∧ (j ≤ k) ∧ (nst l v k).2 = distV (l.getD j []) v ∧ ∀ i, i < k → (nst l v k).2 ≤ distV (l.getD i []) v ∧ (distV (l.getD i []) v = (nst l v k).2 → j ≤ i)
  | 0, _, h0 => ⟨0, rfl, h0, Nat.le_refl _, rfl, fun i hi => absurd hi (Nat.not_lt_zero _)⟩
  | k + 1, hk, h0 => by
    obtain ⟨j, h1, h2, h3, h4, h5⟩ := nst_spec l v k (by omega) h0
    unfold nst
    by_cases hc : distV (l.getD k []) v < (nst l v k).2 ∨ (distV (l.getD k []) v = (nst l v k).2 ∧ (k : Int) < (nst l v k).1)
    · rw [if_pos hc]
      refine ⟨k, rfl, by omega, by omega, rfl, fun i hi => ?_⟩
      simp only
      by_cases e : i = k
      · subst e; exact ⟨Int.le_refl _, fun _ => Nat.le_refl _⟩
      · have h6 := h5 i (by omega)
        rcases hc with hc | ⟨hc, hc2⟩
        · exact ⟨by omega, fun h => by omega⟩
        · omega
    · rw [if_neg hc]
      refine ⟨j, h1, h2, by omega, h4, fun i hi => ?_⟩
      by_cases e : i = k
      · subst e
        refine ⟨by omega, fun h => ?_⟩
        omega
      · exact h5 i (by omega)


end Go.Proofs.Ytbdoeikdoohagaa.G
