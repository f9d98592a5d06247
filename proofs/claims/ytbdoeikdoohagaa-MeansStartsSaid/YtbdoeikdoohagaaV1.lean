/- What the printed functions over vectors come to: Same, Right, Of, Dist, the document's: plain. -/
import Derived.Test.YtbdoeikdoohagaaG14
import Derived.IntWalk
namespace Go.Proofs.Ytbdoeikdoohagaa.G
open Go.Shelf Go.RowKit Go.Proofs.YtbdoeikdoohagaaW.PrintWords Go.Proofs.YtbdoeikdoohagaaW.PrintLast Go.Proofs.YtbdoeikdoohagaaW.PrintMore
set_option linter.unusedVariables false
set_option linter.unusedSimpArgs false

theorem w64 {i : Int} (h0 : -9223372036854775808 ≤ i) (h1 : i < 9223372036854775808) : wrap64 i = i := by unfold wrap64; omega
theorem w32 {i : Int} (h0 : -2147483648 ≤ i) (h1 : i < 2147483648) : wrap32 i = i := by unfold wrap32; omega
theorem rd_nat (l : List Int) (i : Nat) : rd l (i : Int) = l.getD i 0 := by unfold rd; rw [Int.toNat_natCast]
theorem rdL_nat (l : List (List Int)) (i : Nat) : P.rd_L1 l (i : Int) = l.getD i [] := by unfold P.rd_L1; rw [Int.toNat_natCast]
theorem drop_at {α : Type} (l : List α) (i : Nat) (d : α) (h : i < l.length) : l.drop i = l.getD i d :: l.drop (i + 1) := by
  rw [List.drop_eq_getElem_cons h, getD_of_lt l i d h]

theorem equal_l0 (l m : List Int) (hlm : l.length = m.length) (hl : l.length ≤ 9223372036854775807) : ∀ (d i k : Nat), i + d = l.length → d < k → P.slices_Equal_int32_int32.l0 k l m (l.length : Int) (i : Int) = some (decide (l.drop i = m.drop i))
  | 0, i, k + 1, h, _ => by
    rw [P.slices_Equal_int32_int32.l0, if_neg (by omega), List.drop_eq_nil_of_le (by omega), List.drop_eq_nil_of_le (by omega)]
    rfl
  | d + 1, i, k + 1, h, hk => by
    rw [P.slices_Equal_int32_int32.l0, if_pos (by omega), if_pos (by omega), if_pos (by omega), if_pos (by omega), rd_nat, rd_nat, drop_at l i 0 (by omega), drop_at m i 0 (by omega)]
    by_cases e : l.getD i 0 = m.getD i 0
    · rw [if_pos e, w64 (by omega) (by omega), show ((i : Int) + 1) = ((i + 1 : Nat) : Int) by omega, equal_l0 l m hlm hl d (i + 1) k (by omega) (by omega), e]
      simp
    · rw [if_neg e, decide_eq_false (fun h => e (List.cons.inj h).1)]
theorem same_is (k : Nat) (l m : List Int) (hk : l.length < k) (hl : l.length ≤ 9223372036854775807) : P.vec_Same.f k l m = some (decide (l = m)) := by
  unfold P.vec_Same.f P.slices_Equal_int32_int32.f
  by_cases h : l.length = m.length
  · rw [if_pos (by omega)]
    have := equal_l0 l m h hl l.length 0 k (by omega) (by omega)
    rw [List.drop_zero, List.drop_zero] at this
    rw [show (0 : Int) = ((0 : Nat) : Int) from rfl, this]
    rfl
  · rw [if_neg (by omega)]
    have : l ≠ m := fun e => h (by rw [e])
    simp [this]
theorem refsame_l0 (l m : List Int) (hlm : l.length = m.length) (hl : l.length ≤ 9223372036854775807) : ∀ (d i k : Nat), i + d = l.length → d < k → P.quiverref05_Same.l0 k l m (i : Int) = some (decide (l.drop i = m.drop i))
  | 0, i, k + 1, h, _ => by
    rw [P.quiverref05_Same.l0, if_neg (by omega), List.drop_eq_nil_of_le (by omega), List.drop_eq_nil_of_le (by omega)]
    rfl
  | d + 1, i, k + 1, h, hk => by
    rw [P.quiverref05_Same.l0, if_pos (by omega), if_pos (by omega), if_pos (by omega), rd_nat, rd_nat, drop_at l i 0 (by omega), drop_at m i 0 (by omega)]
    by_cases e : l.getD i 0 = m.getD i 0
    · rw [if_pos e, w64 (by omega) (by omega), show ((i : Int) + 1) = ((i + 1 : Nat) : Int) by omega, refsame_l0 l m hlm hl d (i + 1) k (by omega) (by omega), e]
      simp
    · rw [if_neg e, decide_eq_false (fun h => e (List.cons.inj h).1)]
theorem refsame_is (k : Nat) (l m : List Int) (hk : l.length < k) (hl : l.length ≤ 9223372036854775807) : P.quiverref05_Same.f k l m = some (decide (l = m)) := by
  unfold P.quiverref05_Same.f
  by_cases h : l.length = m.length
  · rw [if_pos (by omega)]
    have := refsame_l0 l m h hl l.length 0 k (by omega) (by omega)
    rw [List.drop_zero, List.drop_zero] at this
    rw [show (0 : Int) = ((0 : Nat) : Int) from rfl, this]
  · rw [if_neg (by omega)]
    have : l ≠ m := fun e => h (by rw [e])
    simp [this]

theorem right_l0 (l : List Int) (hl : l.length ≤ 9223372036854775807) : ∀ (d i k : Nat), i + d = l.length → d < k → P.quiverref05_Right.l0 k l (i : Int) = some (decide (1 ≤ l.length ∧ l.length ≤ 4) && (l.drop i).all okC)
  | 0, i, k + 1, h, _ => by
    rw [P.quiverref05_Right.l0, if_neg (by omega), List.drop_eq_nil_of_le (by omega)]
    by_cases h1 : 1 ≤ l.length
    · rw [if_pos (by omega)]
      simp [h1]
      omega
    · rw [if_neg (by omega)]
      simp [h1]
  | d + 1, i, k + 1, h, hk => by
    rw [P.quiverref05_Right.l0, if_pos (by omega), if_pos (by omega), rd_nat, drop_at l i 0 (by omega), List.all_cons]
    by_cases h1 : l.getD i 0 < -1073741823
    · have e : okC (l.getD i 0) = false := by unfold okC; exact decide_eq_false (by omega)
      rw [if_pos h1, e]; simp
    · by_cases h2 : l.getD i 0 > 1073741823
      · have e : okC (l.getD i 0) = false := by unfold okC; exact decide_eq_false (by omega)
        rw [if_neg h1, if_pos h2, e]; simp
      · have e : okC (l.getD i 0) = true := by unfold okC; exact decide_eq_true (by omega)
        rw [if_neg h1, if_neg h2, w64 (by omega) (by omega), show ((i : Int) + 1) = ((i + 1 : Nat) : Int) by omega, right_l0 l hl d (i + 1) k (by omega) (by omega), e, Bool.true_and]
theorem right_is (k : Nat) (l : List Int) (hk : l.length < k) (hl : l.length ≤ 9223372036854775807) : P.quiverref05_Right.f k l = some (right l) := by
  unfold P.quiverref05_Right.f right
  have := right_l0 l hl l.length 0 k (by omega) (by omega)
  rw [List.drop_zero] at this
  exact this

theorem sq_bound (d : Int) (h0 : -2147483646 ≤ d) (h1 : d ≤ 2147483646) : 0 ≤ d * d ∧ d * d ≤ 4611686009837453316 := by
  have a := Int.mul_nonneg (show 0 ≤ 2147483646 - d by omega) (show 0 ≤ 2147483646 + d by omega)
  rw [Int.sub_mul, Int.mul_add, Int.mul_add] at a
  have b : 0 ≤ d * d := by
    rcases Int.le_total 0 d with h | h
    · exact Int.mul_nonneg h h
    · exact Int.mul_nonneg_of_nonpos_of_nonpos h h
  have c := Int.mul_comm d 2147483646
  omega
theorem dgap_sq (x y : Int) (hx : -1073741823 ≤ x ∧ x ≤ 1073741823) (hy : -1073741823 ≤ y ∧ y ≤ 1073741823) : dgap (x, y) * dgap (x, y) = (x - y) * (x - y) := by
  unfold dgap
  simp only
  rw [w64 (i := x - y) (by omega) (by omega), w64 (i := y - x) (by omega) (by omega)]
  by_cases h : x - y < y - x
  · rw [if_pos h, IntWalk.u64_in _ (by omega), ← Int.neg_sub x y, Int.neg_mul_neg]
  · rw [if_neg h, IntWalk.u64_in _ (by omega)]
theorem dstep_is (s x y : Int) (hx : -1073741823 ≤ x ∧ x ≤ 1073741823) (hy : -1073741823 ≤ y ∧ y ≤ 1073741823) : dstep s (x, y) = IntKind.u64.wrap (s + (x - y) * (x - y)) := by
  have hb := sq_bound (x - y) (by omega) (by omega)
  unfold dstep
  rw [dgap_sq x y hx hy, IntWalk.u64_in ((x - y) * (x - y)) (by omega)]
/-- The sum of the squares. -/
def sq : List (Int × Int) → Int
  | [] => 0
  | p :: l => (p.1 - p.2) * (p.1 - p.2) + sq l
def okP (p : Int × Int) : Prop := (-1073741823 ≤ p.1 ∧ p.1 ≤ 1073741823) ∧ (-1073741823 ≤ p.2 ∧ p.2 ≤ 1073741823)
theorem sq_nn : ∀ l : List (Int × Int), (∀ p ∈ l, okP p) → 0 ≤ sq l ∧ sq l ≤ l.length * 4611686009837453316
  | [], _ => by simp [sq]
  | p :: l, h => by
    have h1 := h p (by simp)
    have h2 := sq_nn l (fun q hq => h q (by simp [hq]))
    have hb := sq_bound (p.1 - p.2) (by have := h1.1; have := h1.2; omega) (by have := h1.1; have := h1.2; omega)
    simp only [sq, List.length_cons]
    omega
theorem fold_sq : ∀ (l : List (Int × Int)) (s : Int), (∀ p ∈ l, okP p) → 0 ≤ s → s + l.length * 4611686009837453316 < 18446744073709551616 → l.foldl dstep s = s + sq l
  | [], s, _, _, _ => by simp [sq]
  | (x, y) :: l, s, h, h0, h1 => by
    have hp := h (x, y) (by simp)
    have hb := sq_bound (x - y) (by have := hp.1; have := hp.2; simp only at *; omega) (by have := hp.1; have := hp.2; simp only at *; omega)
    simp only [List.length_cons] at h1
    rw [List.foldl_cons, dstep_is s x y hp.1 hp.2, IntWalk.u64_in _ (by omega), fold_sq l _ (fun q hq => h q (by simp [hq])) (by omega) (by omega)]
    simp only [sq]
    omega
theorem zip_ok (l m : List Int) (hl : l.all okC = true) (hm : m.all okC = true) : ∀ p ∈ l.zip m, okP p := by
  intro p hp
  have h1 := List.all_eq_true.1 hl _ (List.of_mem_zip hp).1
  have h2 := List.all_eq_true.1 hm _ (List.of_mem_zip hp).2
  unfold okC at h1 h2
  exact ⟨of_decide_eq_true h1, of_decide_eq_true h2⟩
theorem right_ok {l : List Int} (h : right l = true) : l.all okC = true := by
  unfold right at h
  rw [Bool.and_eq_true] at h
  exact h.2
theorem distV_sq (l m : List Int) (hl : right l = true) (hm : right m = true) : distV l m = sq (l.zip m) := by
  unfold distV distP
  have := right_len l hl
  rw [fold_sq _ 0 (zip_ok l m (right_ok hl) (right_ok hm)) (Int.le_refl _) (by rw [List.length_zip]; omega)]
  omega
theorem refdist_l0 (l m : List Int) (hlm : l.length = m.length) (hl : right l = true) (hm : right m = true) : ∀ (d i k : Nat) (s : Int), i + d = l.length → d < k → P.quiverref05_Dist.l0 k l m s (i : Int) = some (((l.zip m).drop i).foldl dstep s)
  | 0, i, k + 1, s, h, _ => by
    rw [P.quiverref05_Dist.l0, if_neg (by omega), List.drop_eq_nil_of_le (by rw [List.length_zip]; omega)]
    rfl
  | d + 1, i, k + 1, s, h, hk => by
    have hlen := right_len l hl
    have hx := okC_at l (right_ok hl) i (by omega)
    have hy := okC_at m (right_ok hm) i (by omega)
    have hz : (l.zip m).drop i = (l.getD i 0, m.getD i 0) :: (l.zip m).drop (i + 1) := by
      rw [drop_at (l.zip m) i (0, 0) (by rw [List.length_zip]; omega)]
      congr 1
      rw [getD_of_lt _ _ _ (by rw [List.length_zip]; omega), List.getElem_zip, getD_of_lt l i 0 (by omega), getD_of_lt m i 0 (by omega)]
    have hb := sq_bound (l.getD i 0 - m.getD i 0) (by omega) (by omega)
    rw [P.quiverref05_Dist.l0, if_pos (by omega), if_pos (by omega), if_pos (by omega), rd_nat, rd_nat, hz, List.foldl_cons, dstep_is s _ _ hx hy]
    generalize l.getD i 0 = x at *
    generalize m.getD i 0 = y at *
    rw [w64 (i := x) (by omega) (by omega), w64 (i := y) (by omega) (by omega), w64 (i := x - y) (by omega) (by omega), w64 (i := (i : Int) + 1) (by omega) (by omega), show ((i : Int) + 1) = ((i + 1 : Nat) : Int) by omega]
    by_cases hneg : x - y < 0
    · rw [if_pos hneg, w64 (i := -(x - y)) (by omega) (by omega), IntWalk.u64_in (-(x - y)) (by omega), Int.neg_mul_neg, IntWalk.u64_in ((x - y) * (x - y)) (by omega)]
      exact refdist_l0 l m hlm hl hm d (i + 1) k _ (by omega) (by omega)
    · rw [if_neg hneg, IntWalk.u64_in (x - y) (by omega), IntWalk.u64_in ((x - y) * (x - y)) (by omega)]
      exact refdist_l0 l m hlm hl hm d (i + 1) k _ (by omega) (by omega)
theorem refdist_is (k : Nat) (l m : List Int) (hlm : l.length = m.length) (hl : right l = true) (hm : right m = true) (hk : 5 ≤ k) : P.quiverref05_Dist.f k l m = some (distV l m) := by
  unfold P.quiverref05_Dist.f
  have := refdist_l0 l m hlm hl hm l.length 0 k 0 (by omega) (by have := right_len l hl; omega)
  rw [List.drop_zero] at this
  exact this

theorem of_is (l : List Int) (n : Int) : P.vec_Of.f l n = some (if right l = true then (if (l.length : Int) = n then 0 else 151) else 150) := by
  unfold P.vec_Of.f vec_Check.f checkV
  cases right l with
  | true => simp; split <;> rfl
  | false => simp
theorem err2 (l m : List Int) : allErr [l, m] = if right l = true ∧ right m = true then (if l.length = m.length then 0 else 151) else 150 := by
  unfold allErr sameLens
  simp only [List.all_cons, List.all_nil, Bool.and_true, List.getD_cons_zero, decide_true, Bool.true_and, Bool.and_eq_true, decide_eq_true_eq]
  by_cases h : right l = true ∧ right m = true
  · rw [if_pos h, if_pos h]
    by_cases h2 : l.length = m.length
    · rw [if_pos h2.symm, if_pos h2]
    · rw [if_neg (fun e => h2 e.symm), if_neg h2]
  · rw [if_neg h, if_neg h]
theorem dist_ok (l m : List Int) (hl : right l = true) (hm : right m = true) (h : l.length = m.length) : vec_Dist.f l m = some (distV l m, 0) := by
  have e : allErr [l, m] = 0 := by rw [err2, if_pos ⟨hl, hm⟩, if_pos h]
  unfold vec_Dist.f distR
  rw [if_pos e]
theorem dist_zero {l m : List Int} (h : (distR l m).2 = 0) : right l = true ∧ right m = true ∧ l.length = m.length ∧ distR l m = (distV l m, 0) := by
  unfold distR at h ⊢
  by_cases e : allErr [l, m] = 0
  · rw [if_pos e]
    rw [err2] at e
    by_cases h1 : right l = true ∧ right m = true
    · rw [if_pos h1] at e
      by_cases h2 : l.length = m.length
      · exact ⟨h1.1, h1.2, h2, rfl⟩
      · rw [if_neg h2] at e; omega
    · rw [if_neg h1] at e; omega
  · rw [if_neg e] at h
    exact absurd h e

end Go.Proofs.Ytbdoeikdoohagaa.G
