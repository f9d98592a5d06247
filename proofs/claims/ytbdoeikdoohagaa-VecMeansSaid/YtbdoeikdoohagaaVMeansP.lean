/- Means: of one, of the turned row, between the least and the greatest: plain. -/
import Derived.Test.YtbdoeikdoohagaaV2
namespace Go.Proofs.Ytbdoeikdoohagaa.G
open Go.Shelf Go.RowKit Go.Proofs.YtbdoeikdoohagaaW.PrintWords Go.Proofs.YtbdoeikdoohagaaW.PrintLast Go.Proofs.YtbdoeikdoohagaaW.PrintMore
set_option linter.unusedVariables false
set_option linter.unusedSimpArgs false

def bk (l : List (List Int)) (m : Nat) : List (List Int) := (l.drop (l.length - m)).reverse
theorem bk_zero (l : List (List Int)) : bk l 0 = [] := by unfold bk; rw [Nat.sub_zero, List.drop_length]; rfl
theorem bk_all (l : List (List Int)) : bk l l.length = l.reverse := by unfold bk; rw [Nat.sub_self, List.drop_zero]
theorem bk_len (l : List (List Int)) (m : Nat) (h : m ≤ l.length) : (bk l m).length = m := by unfold bk; rw [List.length_reverse, List.length_drop]; omega
theorem bk_snoc (l : List (List Int)) (p m : Nat) (h : p + m + 1 = l.length) : bk l m ++ [l.getD p []] = bk l (m + 1) := by
  unfold bk
  rw [show l.length - (m + 1) = p by omega, show l.length - m = p + 1 by omega, drop_at l p [] (by omega), List.reverse_cons]
theorem sumAt_append (i : Nat) (l m : List (List Int)) : sumAt (l ++ m) i = sumAt l i + sumAt m i := by
  induction l with
  | nil => simp [sumAt]
  | cons v l ih => simp only [List.cons_append, sumAt, ih]; omega
theorem sumAt_rev (i : Nat) (l : List (List Int)) : sumAt l.reverse i = sumAt l i := by
  induction l with
  | nil => rfl
  | cons v l ih => rw [List.reverse_cons, sumAt_snoc, ih]; simp only [sumAt]; omega
theorem same_mem {l : List (List Int)} (h : sameLens l = true) {x : List Int} (hx : x ∈ l) : x.length = (l.getD 0 []).length := by
  have := List.all_eq_true.1 h x hx
  simpa using this
theorem rev_head (l : List (List Int)) (h0 : 0 < l.length) (h : sameLens l = true) : (l.reverse.getD 0 []).length = (l.getD 0 []).length := by
  rw [getD_of_lt _ 0 [] (by rw [List.length_reverse]; exact h0)]
  exact same_mem h (List.mem_reverse.1 (List.getElem_mem _))
theorem allErr_rev (l : List (List Int)) (hz : allErr l = 0) : allErr l.reverse = 0 := by
  obtain ⟨h1, h2⟩ := (allErr_zero l).1 hz
  refine (allErr_zero _).2 ⟨by rw [List.all_reverse]; exact h1, ?_⟩
  by_cases h0 : 0 < l.length
  · refine List.all_eq_true.2 fun x hx => decide_eq_true ?_
    rw [rev_head l h0 h2]
    exact same_mem h2 (List.mem_reverse.1 hx)
  · obtain rfl : l = [] := List.length_eq_zero_iff.1 (by omega)
    rfl
theorem meanR_rev (l : List (List Int)) (h0 : 0 < l.length) (hz : allErr l = 0) : meanR l.reverse = (meanV l, 0) := by
  unfold meanR
  rw [if_neg (by rw [List.length_reverse]; omega), if_pos (allErr_rev l hz)]
  unfold meanV
  rw [rev_head l h0 ((allErr_zero l).1 hz).2, List.length_reverse]
  simp only [sumAt_rev]
theorem meanV_one (x : List Int) : meanV [x] = x := by
  unfold meanV
  apply List.ext_getElem
  · simp
  · intro i h1 h2
    have h3 : i < x.length := h2
    simp [sumAt, h3]
theorem meanR_one (l : List (List Int)) (h0 : 0 < l.length) (hz : allErr l = 0) : meanR (l.take 1) = (l.getD 0 [], 0) := by
  obtain ⟨h1, h2⟩ := (allErr_zero l).1 hz
  have e : l.take 1 = [l.getD 0 []] := by rw [show (1 : Nat) = 0 + 1 from rfl, take_snocR l 0 h0]; rfl
  rw [e]
  unfold meanR
  rw [if_neg (by simp), if_pos ((allErr_zero _).2 ⟨by simp only [List.all_cons, List.all_nil, Bool.and_true]; exact right_at l h1 0 h0, by unfold sameLens; simp⟩), meanV_one]
theorem meanV_len (l : List (List Int)) : (meanV l).length = (l.getD 0 []).length := by unfold meanV; simp
theorem meanV_at (l : List (List Int)) (i : Nat) (hi : i < (meanV l).length) : (meanV l).getD i 0 = sumAt l i / (l.length : Int) := by
  rw [getD_of_lt _ i 0 hi]
  unfold meanV
  simp
theorem sumAt_between (i : Nat) (lo hi : Int) : ∀ l : List (List Int), (∀ x ∈ l, lo ≤ x.getD i 0 ∧ x.getD i 0 ≤ hi) → l.length * lo ≤ sumAt l i ∧ sumAt l i ≤ l.length * hi
  | [], _ => by simp [sumAt]
  | v :: l, h => by
    have h1 := h v (by simp)
    have h2 := sumAt_between i lo hi l (fun x hx => h x (by simp [hx]))
    simp only [sumAt, List.length_cons, Int.natCast_add, Int.add_mul]
    omega
theorem mean_between (l : List (List Int)) (h0 : 0 < l.length) (i : Nat) (lo hi : Int) (h : ∀ j, j < l.length → lo ≤ (l.getD j []).getD i 0 ∧ (l.getD j []).getD i 0 ≤ hi) : lo ≤ sumAt l i / (l.length : Int) ∧ sumAt l i / (l.length : Int) ≤ hi := by
  have hb := sumAt_between i lo hi l (fun x hx => by
    obtain ⟨j, hj, rfl⟩ := List.getElem_of_mem hx
    have := h j hj
    rwa [getD_of_lt l j [] hj] at this)
  constructor
  · rw [Int.le_ediv_iff_mul_le (by omega), Int.mul_comm]; exact hb.1
  · have : sumAt l i / (l.length : Int) < hi + 1 := by
      rw [Int.ediv_lt_iff_lt_mul (by omega), Int.add_mul, Int.mul_comm hi, Int.one_mul]
      omega
    omega
theorem right_mean (l : List (List Int)) (h0 : 0 < l.length) (hz : allErr l = 0) : right (meanV l) = true := by
  obtain ⟨h1, h2⟩ := (allErr_zero l).1 hz
  have hl := right_len _ (right_at l h1 0 h0)
  unfold right
  rw [Bool.and_eq_true]
  refine ⟨decide_eq_true (by rw [meanV_len]; exact hl), List.all_eq_true.2 fun x hx => ?_⟩
  obtain ⟨i, hi, rfl⟩ := List.getElem_of_mem hx
  rw [← getD_of_lt _ i 0 hi, meanV_at l i hi]
  have := mean_between l h0 i (-1073741823) 1073741823 (fun j hj => right_comp _ (right_at l h1 j hj) i)
  exact decide_eq_true this

end Go.Proofs.Ytbdoeikdoohagaa.G
