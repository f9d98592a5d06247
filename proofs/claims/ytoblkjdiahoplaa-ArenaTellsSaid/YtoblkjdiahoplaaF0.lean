/- The first place at which something holds: plain. -/
import Derived.Test.YtoblkjdiahoplaaG0
namespace Go.Proofs.Ytoblkjdiahoplaa.G
open Go.RowKit Go.Proofs.YtoblkjdiahoplaaW.PrintWords Go.Proofs.YtoblkjdiahoplaaW.PrintLast Go.Proofs.YtoblkjdiahoplaaW.PrintMore

/-- The first place from i on, of m, at which p holds; -1: none. -/
def firstP (p : Nat → Bool) : Nat → Nat → Int
  | _, 0 => -1
  | i, m + 1 => if p i then (i : Int) else firstP p (i + 1) m
theorem firstP_hit {p : Nat → Bool} {i m : Nat} (h : p i = true) (hm : 0 < m) : firstP p i m = i := by
  obtain ⟨m, rfl⟩ : ∃ q, m = q + 1 := ⟨m - 1, by omega⟩
  simp [firstP, h]
theorem firstP_miss {p : Nat → Bool} {i m : Nat} (h : p i = false) (hm : 0 < m) : firstP p i m = firstP p (i + 1) (m - 1) := by
  obtain ⟨m, rfl⟩ : ∃ q, m = q + 1 := ⟨m - 1, by omega⟩
  simp [firstP, h]
theorem firstP_neg (p : Nat → Bool) : ∀ (m i : Nat), (∀ j, i ≤ j → j < i + m → p j = false) → firstP p i m = -1
  | 0, _, _ => rfl
  | m + 1, i, h => by
    rw [firstP_miss (h i (Nat.le_refl _) (by omega)) (by omega)]
    exact firstP_neg p m (i + 1) (fun j h1 h2 => h j (by omega) (by omega))
theorem firstP_pos (p : Nat → Bool) : ∀ (m i : Nat), (∃ j, i ≤ j ∧ j < i + m ∧ p j = true) → ∃ j, i ≤ j ∧ j < i + m ∧ p j = true ∧ firstP p i m = (j : Int) ∧ ∀ q, i ≤ q → q < j → p q = false
  | 0, i, ⟨j, h1, h2, _⟩ => by omega
  | m + 1, i, ⟨j, h1, h2, h3⟩ => by
    cases hp : p i with
    | true => exact ⟨i, Nat.le_refl _, by omega, hp, firstP_hit hp (by omega), fun q h4 h5 => by omega⟩
    | false =>
      have hne : i ≠ j := fun e => by rw [e, h3] at hp; cases hp
      obtain ⟨j', a1, a2, a3, a4, a5⟩ := firstP_pos p m (i + 1) ⟨j, by omega, by omega, h3⟩
      refine ⟨j', by omega, by omega, a3, ?_, fun q h4 h5 => ?_⟩
      · rw [firstP_miss hp (by omega)]; exact a4
      · by_cases e : q = i
        · rw [e]; exact hp
        · exact a5 q (by omega) h5
theorem firstP_nonneg (p : Nat → Bool) (m i : Nat) : decide (firstP p i m ≥ 0) = (List.range' i m).any p := by
  cases h : (List.range' i m).any p with
  | false =>
    rw [firstP_neg p m i (fun j h1 h2 => by
      rw [List.any_eq_false] at h
      have := h j (List.mem_range'.2 ⟨j - i, by omega, by omega⟩)
      simpa using this)]
    decide
  | true =>
    rw [List.any_eq_true] at h
    obtain ⟨j, hj, hp⟩ := h
    obtain ⟨q, hq1, hq2⟩ := List.mem_range'.1 hj
    obtain ⟨j', _, _, _, e, _⟩ := firstP_pos p m i ⟨j, by omega, by omega, hp⟩
    rw [e]
    exact decide_eq_true (by omega)
theorem any_at {α : Type} (l : List α) (q : α → Bool) (d : α) : (List.range' 0 l.length).any (fun j => q (l.getD j d)) = l.any q := by
  rw [Bool.eq_iff_iff, List.any_eq_true, List.any_eq_true]
  constructor
  · rintro ⟨j, hj, h⟩
    obtain ⟨k, hk1, hk2⟩ := List.mem_range'.1 hj
    have hl : j < l.length := by omega
    exact ⟨l[j], List.getElem_mem hl, by simpa [List.getD, hl] using h⟩
  · rintro ⟨x, hx, h⟩
    obtain ⟨j, hj, rfl⟩ := List.getElem_of_mem hx
    exact ⟨j, List.mem_range'.2 ⟨j, by omega, by omega⟩, by simpa [List.getD, hj] using h⟩
theorem Drawn0.trans2 {a b c : World} (h : Drawn0 a b) (k : Drawn0 b c) : Drawn0 a c := by
  obtain ⟨⟨n, rfl⟩⟩ := k
  exact h.step n

end Go.Proofs.Ytoblkjdiahoplaa.G
