/- The document's tests of versions and rows, and what wakes: plain. -/
import Derived.Test.YtngjaaldidmgjaaC2
import Derived.Test.YtngjaaldidmgjaaPx2
import Derived.Test.YtngjaaldidmgjaaPx6
namespace Go.Proofs.Ytngjaaldidmgjaa.G
open Go.Shelf Go.RowKit Go.Proofs.YtngjaaldidmgjaaW.PrintWords Go.Proofs.YtngjaaldidmgjaaW.PrintLast Go.Proofs.YtngjaaldidmgjaaW.PrintMore
set_option linter.unusedVariables false
set_option linter.unusedSimpArgs false

theorem refver_is (k : Nat) (b e : Int) (v : List Int) (hk : v.length < k) (hl : v.length ≤ 9223372036854775807) : P.quiverref07_RightVersion.f k b e v = some (rightVer b e v) := by
  unfold P.quiverref07_RightVersion.f rightVer
  by_cases h1 : b < 1
  · rw [if_pos h1, decide_eq_false (show ¬ (1 ≤ b ∧ b ≤ 1099511627776) by omega)]; simp
  · by_cases h2 : b > 1099511627776
    · rw [if_neg h1, if_pos h2, decide_eq_false (show ¬ (1 ≤ b ∧ b ≤ 1099511627776) by omega)]; simp
    · rw [if_neg h1, if_neg h2, decide_eq_true (show 1 ≤ b ∧ b ≤ 1099511627776 by omega), right_is k v hk hl]
      by_cases h3 : e > 1099511627776
      · rw [if_pos h3, decide_eq_false (show ¬ (e = 0 ∨ (b < e ∧ e ≤ 1099511627776)) by omega)]; simp
      · rw [if_neg h3]
        by_cases h4 : e = 0
        · rw [if_pos h4, decide_eq_true (show e = 0 ∨ (b < e ∧ e ≤ 1099511627776) by omega)]; simp
        · rw [if_neg h4]
          by_cases h5 : e ≤ b
          · rw [if_pos h5, decide_eq_false (show ¬ (e = 0 ∨ (b < e ∧ e ≤ 1099511627776)) by omega)]; simp
          · rw [if_neg h5, decide_eq_true (show e = 0 ∨ (b < e ∧ e ≤ 1099511627776) by omega)]; simp
theorem rightVer_right {b e : Int} {v : List Int} (h : rightVer b e v = true) : right v = true := by
  unfold rightVer at h
  rw [Bool.and_eq_true, Bool.and_eq_true] at h
  exact h.1.1
theorem samever_is (k : Nat) (a b : Int) (l : List Int) (c d : Int) (m : List Int) (hk : l.length < k) (hl : l.length ≤ 9223372036854775807) : P.quiverref07_SameVersion.f k a b l c d m = some (decide (a = c ∧ b = d ∧ l = m)) := by
  unfold P.quiverref07_SameVersion.f
  rw [refsame_is k l m hk hl, Option.bind_some]
  by_cases h1 : a = c
  · rw [if_pos h1]
    by_cases h2 : b = d
    · rw [if_pos h2]; simp [h1, h2]
    · rw [if_neg h2]; simp [h2]
  · rw [if_neg h1]; simp [h1]
theorem samerow_is (k : Nat) (a : Int) (l : List Int) (c : Int) (m : List Int) (hk : l.length < k) (hl : l.length ≤ 9223372036854775807) : P.quiverref07_SameRow.f k a l c m = some (decide (a = c ∧ l = m)) := by
  unfold P.quiverref07_SameRow.f
  rw [refsame_is k l m hk hl, Option.bind_some]
  by_cases h1 : a = c
  · rw [if_pos h1]; simp [h1]
  · rw [if_neg h1]; simp [h1]
set_option maxRecDepth 100000 in
theorem wakes07_is : P.quiverlaw07_wakes.f = some true := by kernel_rfl

end Go.Proofs.Ytngjaaldidmgjaa.G
