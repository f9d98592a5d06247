/- Contract of vec.Mean: the mean of vectors, by sums in an array. -/
import Derived.Test.YtbdoeikdoohagaaG3
import Derived.Test.YtbdoeikdoohagaaG1
import Derived.Test.YtbdoeikdoohagaaPxL0
namespace Go.Proofs.Ytbdoeikdoohagaa.G
open Go.Shelf Go.RowKit Go.Proofs.YtbdoeikdoohagaaW.PrintWords Go.Proofs.YtbdoeikdoohagaaW.PrintLast Go.Proofs.YtbdoeikdoohagaaW.PrintMore
set_option linter.unusedVariables false
set_option linter.unusedSimpArgs false

def sumAt : List (List Int) → Nat → Int
  | [], _ => 0
  | v :: l, i => v.getD i 0 + sumAt l i
theorem sumAt_snoc (v : List Int) (i : Nat) : ∀ l : List (List Int), sumAt (l ++ [v]) i = sumAt l i + v.getD i 0
  | [] => by simp [sumAt]
  | u :: l => by simp only [List.cons_append, sumAt, sumAt_snoc v i l]; omega
theorem getD_of_lt {α : Type} (l : List α) (k : Nat) (d : α) (h : k < l.length) : l.getD k d = l[k] := by simp [List.getD, h]
theorem take_snocR (l : List (List Int)) (k : Nat) (hk : k < l.length) : l.take (k + 1) = l.take k ++ [l.getD k []] := by
  rw [List.take_succ_eq_append_getElem hk, getD_of_lt l k [] hk]
def S4 (l : List (List Int)) : List Int := [sumAt l 0, sumAt l 1, sumAt l 2, sumAt l 3]
/-- The sums, to which the first j components of a vector are added. -/
def addTo (l : List (List Int)) (v : List Int) (j : Nat) : List Int := (List.range 4).map fun i => sumAt l i + if i < j then v.getD i 0 else 0
theorem addTo_zero (l : List (List Int)) (v : List Int) : addTo l v 0 = S4 l := by simp [addTo, S4, List.range, List.range.loop]
theorem addTo_full (l : List (List Int)) (v : List Int) (h : v.length ≤ 4) : addTo l v v.length = S4 (l ++ [v]) := by
  have e : ∀ i, (if i < v.length then v.getD i 0 else 0) = v.getD i 0 := fun i => by
    split
    · rfl
    · simp [List.getD, List.getElem?_eq_none (show v.length ≤ i by omega)]
  simp only [addTo, S4, e, sumAt_snoc, List.range, List.range.loop, List.map_cons, List.map_nil]
theorem addTo_step (l : List (List Int)) (v : List Int) (j : Nat) (hj : j < 4) : (addTo l v j).set j (sumAt l j + v.getD j 0) = addTo l v (j + 1) := by
  have : j = 0 ∨ j = 1 ∨ j = 2 ∨ j = 3 := by omega
  rcases this with rfl | rfl | rfl | rfl <;> simp [addTo, List.range, List.range.loop]
theorem addTo_get (l : List (List Int)) (v : List Int) (j : Nat) (hj : j < 4) : (addTo l v j)[j]? = some (sumAt l j) := by
  have : j = 0 ∨ j = 1 ∨ j = 2 ∨ j = 3 := by omega
  rcases this with rfl | rfl | rfl | rfl <;> simp [addTo, List.range, List.range.loop]
theorem S4_get (l : List (List Int)) (j : Nat) (hj : j < 4) : (S4 l)[j]? = some (sumAt l j) := by
  have : j = 0 ∨ j = 1 ∨ j = 2 ∨ j = 3 := by omega
  rcases this with rfl | rfl | rfl | rfl <;> simp [S4]
theorem right_comp (v : List Int) (h : right v = true) (i : Nat) : -1073741823 ≤ v.getD i 0 ∧ v.getD i 0 ≤ 1073741823 := by
  unfold right at h
  rw [Bool.and_eq_true] at h
  by_cases hi : i < v.length
  · have := List.all_eq_true.1 h.2 _ (List.getElem_mem hi)
    simpa [okC, List.getD, hi] using this
  · simp [List.getD, List.getElem?_eq_none (show v.length ≤ i by omega)]
theorem right_len (v : List Int) (h : right v = true) : 1 ≤ v.length ∧ v.length ≤ 4 := by
  unfold right at h
  rw [Bool.and_eq_true] at h
  exact of_decide_eq_true h.1
theorem sumAt_bound (i : Nat) : ∀ l : List (List Int), l.all right = true → -(l.length * 1073741823 : Int) ≤ sumAt l i ∧ sumAt l i ≤ l.length * 1073741823
  | [], _ => by simp [sumAt]
  | v :: l, h => by
    rw [List.all_cons, Bool.and_eq_true] at h
    have h1 := right_comp v h.1 i
    have h2 := sumAt_bound i l h.2
    simp only [sumAt, List.length_cons]
    omega
theorem all_take (l : List (List Int)) (k : Nat) (h : l.all right = true) : (l.take k).all right = true := by
  rw [List.all_eq_true] at h ⊢
  exact fun x hx => h x (List.mem_of_mem_take hx)
theorem right_at (l : List (List Int)) (h : l.all right = true) (k : Nat) (hk : k < l.length) : right (l.getD k []) = true := by
  rw [getD_of_lt l k [] hk]
  exact List.all_eq_true.1 h _ (List.getElem_mem hk)
theorem len_at (l : List (List Int)) (h : sameLens l = true) (k : Nat) (hk : k < l.length) : (l.getD k []).length = (l.getD 0 []).length := by
  rw [getD_of_lt l k [] hk]
  have := List.all_eq_true.1 h _ (List.getElem_mem hk)
  simpa using this
theorem allErr_zero (l : List (List Int)) : allErr l = 0 ↔ l.all right = true ∧ sameLens l = true := by
  unfold allErr
  by_cases h1 : l.all right = true
  · by_cases h2 : sameLens l = true
    · simp [h1, h2]
    · simp [h1, h2]
  · simp [h1]

def meanV (l : List (List Int)) : List Int := (List.range (l.getD 0 []).length).map fun i => sumAt l i / (l.length : Int)
def meanR (l : List (List Int)) : List Int × Int := if l.length = 0 then ([], 4) else if allErr l = 0 then (meanV l, 0) else ([], allErr l)
def vec_Mean.f (l : List (List Int)) : Option (List Int × Int) := if l.length ≤ 1000000 then some (meanR l) else none

theorem down_is (s n : Int) (h1 : 1 ≤ n) (h2 : n ≤ 1000000) (h3 : -(n * 1073741823) ≤ s) (h4 : s ≤ n * 1073741823) : P.vec_down.f s n = some (s / n) ∧ -1073741823 ≤ s / n ∧ s / n ≤ 1073741823 := by
  have b1 : -1073741823 ≤ s / n := by rw [Int.le_ediv_iff_mul_le (by omega)]; rw [Int.neg_mul, Int.mul_comm]; exact h3
  have b2 : s / n ≤ 1073741823 := by
    have : s / n < 1073741824 := by rw [Int.ediv_lt_iff_lt_mul (by omega)]; omega
    omega
  refine ⟨?_, b1, b2⟩
  have hd := Int.mul_ediv_add_emod s n
  have hm1 := Int.emod_nonneg s (show n ≠ 0 by omega)
  have hm2 := Int.emod_lt_of_pos s (show 0 < n by omega)
  unfold P.vec_down.f
  rw [if_neg (by omega)]
  by_cases hs : 0 ≤ s
  · rw [if_neg (by rw [Int.tmod_eq_emod_of_nonneg hs]; omega), Int.tdiv_eq_ediv_of_nonneg hs]
    unfold wrap64
    congr 1
    omega
  · have ht := Int.mul_tdiv_add_tmod s n
    by_cases h0 : s % n = 0
    · have hdv : n ∣ s := Int.dvd_of_emod_eq_zero h0
      have e1 : s.tmod n = 0 := Int.tmod_eq_zero_of_dvd hdv
      have e2 : s.tdiv n = s / n := Int.tdiv_eq_ediv_of_dvd hdv
      rw [if_neg (by omega), e2]
      unfold wrap64
      congr 1
      omega
    · have e2 : s.tdiv n = s / n + 1 := by
        rw [Int.tdiv_eq_ediv, if_neg]
        · rw [Int.sign_eq_one_of_pos (by omega)]
        · intro h
          rcases h with h | h
          · omega
          · exact h0 (Int.emod_eq_zero_of_dvd h)
      have e1 : s.tmod n < 0 := by
        have : n * s.tdiv n = n * (s / n) + n := by rw [e2, Int.mul_add, Int.mul_one]
        omega
      rw [if_pos e1, e2]
      unfold wrap64
      congr 1
      omega

end Go.Proofs.Ytbdoeikdoohagaa.G
