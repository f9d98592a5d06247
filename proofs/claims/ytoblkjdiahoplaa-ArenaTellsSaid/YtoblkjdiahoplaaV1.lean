/- What the printed functions over vectors come to: Same, Right, Of, Dist, the document's: plain. -/
import Derived.Test.YtoblkjdiahoplaaVC
import Derived.Test.YtoblkjdiahoplaaPx1
import Derived.IntWalk
namespace Go.Proofs.Ytoblkjdiahoplaa.G
open Go.Shelf Go.RowKit Go.Proofs.YtoblkjdiahoplaaW.PrintWords Go.Proofs.YtoblkjdiahoplaaW.PrintLast Go.Proofs.YtoblkjdiahoplaaW.PrintMore
set_option linter.unusedVariables false
set_option linter.unusedSimpArgs false

theorem w64 {i : Int} (h0 : -9223372036854775808 ≤ i) (h1 : i < 9223372036854775808) : wrap64 i = i := by unfold wrap64; omega
theorem w32 {i : Int} (h0 : -2147483648 ≤ i) (h1 : i < 2147483648) : wrap32 i = i := by unfold wrap32; omega
theorem rd_nat (l : List Int) (i : Nat) : rd l (i : Int) = l.getD i 0 := by unfold rd; rw [Int.toNat_natCast]
theorem getD_of_lt {α : Type} (l : List α) (i : Nat) (d : α) (h : i < l.length) : l.getD i d = l[i] := by
  rw [List.getD_eq_getElem?_getD, List.getElem?_eq_getElem h, Option.getD_some]
theorem drop_at {α : Type} (l : List α) (i : Nat) (d : α) (h : i < l.length) : l.drop i = l.getD i d :: l.drop (i + 1) := by
  rw [List.drop_eq_getElem_cons h, getD_of_lt l i d h]

theorem equal_l0 (l m : List Int) (hlm : l.length = m.length) (hl : l.length ≤ 9223372036854775807) : ∀ (d i k : Nat), i + d = l.length → d < k → P.slices_Equal_int32_int32.l0 k l m (l.length : Int) (i : Int) = some (decide (l.drop i = m.drop i))
  | 0, i, k + 1, h, _ => by
    rw [P.slices_Equal_int32_int32.l0, if_neg (by omega), List.drop_eq_nil_of_le (by omega), List.drop_eq_nil_of_le (by omega)]
    rfl
  | d + 1, i, k + 1, h, hk => by
    rw [P.slices_Equal_int32_int32.l0, if_pos (by omega), if_pos (by omega), if_pos (by omega), if_pos (by omega), rd_nat, rd_nat, drop_at l i 0 (by omega), drop_at m i 0 (by omega)]
    by_cases e : l.getD i 0 = m.getD i 0
    · rw [if_pos e, w64 (by omega) (by omega), show ((i : Int) + 1) = ((i + 1 : Nat) : Int) by omega, equal_l0 l m hlm hl d (i + 1) k (by omega) (by omega), e]
      simp
    · rw [if_neg e, decide_eq_false (fun h => e (List.cons.inj h).1)]
theorem same_is (k : Nat) (l m : List Int) (hk : l.length < k) (hl : l.length ≤ 9223372036854775807) : P.vec_Same.f k l m = some (decide (l = m)) := by
  unfold P.vec_Same.f P.slices_Equal_int32_int32.f
  by_cases h : l.length = m.length
  · rw [if_pos (by omega)]
    have := equal_l0 l m h hl l.length 0 k (by omega) (by omega)
    rw [List.drop_zero, List.drop_zero] at this
    rw [show (0 : Int) = ((0 : Nat) : Int) from rfl, this]
    rfl
  · rw [if_neg (by omega)]
    have : l ≠ m := fun e => h (by rw [e])
    simp [this]

theorem right_l0 (l : List Int) (hl : l.length ≤ 9223372036854775807) : ∀ (d i k : Nat), i + d = l.length → d < k → P.quiverref05_Right.l0 k l (i : Int) = some (decide (1 ≤ l.length ∧ l.length ≤ 4) && (l.drop i).all okC)
  | 0, i, k + 1, h, _ => by
    rw [P.quiverref05_Right.l0, if_neg (by omega), List.drop_eq_nil_of_le (by omega)]
    by_cases h1 : 1 ≤ l.length
    · rw [if_pos (by omega)]
      simp [h1]
      omega
    · rw [if_neg (by omega)]
      simp [h1]
  | d + 1, i, k + 1, h, hk => by
    rw [P.quiverref05_Right.l0, if_pos (by omega), if_pos (by omega), rd_nat, drop_at l i 0 (by omega), List.all_cons]
    by_cases h1 : l.getD i 0 < -1073741823
    · have e : okC (l.getD i 0) = false := by unfold okC; exact decide_eq_false (by omega)
      rw [if_pos h1, e]; simp
    · by_cases h2 : l.getD i 0 > 1073741823
      · have e : okC (l.getD i 0) = false := by unfold okC; exact decide_eq_false (by omega)
        rw [if_neg h1, if_pos h2, e]; simp
      · have e : okC (l.getD i 0) = true := by unfold okC; exact decide_eq_true (by omega)
        rw [if_neg h1, if_neg h2, w64 (by omega) (by omega), show ((i : Int) + 1) = ((i + 1 : Nat) : Int) by omega, right_l0 l hl d (i + 1) k (by omega) (by omega), e, Bool.true_and]
theorem right_is (k : Nat) (l : List Int) (hk : l.length < k) (hl : l.length ≤ 9223372036854775807) : P.quiverref05_Right.f k l = some (right l) := by
  unfold P.quiverref05_Right.f right
  have := right_l0 l hl l.length 0 k (by omega) (by omega)
  rw [List.drop_zero] at this
  exact this


end Go.Proofs.Ytoblkjdiahoplaa.G
