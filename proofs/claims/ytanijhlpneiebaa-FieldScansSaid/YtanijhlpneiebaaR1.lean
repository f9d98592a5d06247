/- What the document's Put, Lay, Fits, FitsInt, Same of fields come to: plain. -/
import Derived.Test.YtanijhlpneiebaaS1
namespace Go.Proofs.Ytanijhlpneiebaa.G
open Go.RowKit Go.Proofs.YtanijhlpneiebaaW.PrintWords Go.Proofs.YtanijhlpneiebaaW.PrintLast Go.Proofs.YtanijhlpneiebaaW.PrintMore
set_option linter.unusedVariables false
set_option linter.unusedSimpArgs false

theorem r64 {i : Int} (h0 : -9223372036854775808 ≤ i) (h1 : i < 9223372036854775808) : wrap64 i = i := by unfold wrap64; omega
theorem ru64 {i : Int} (h0 : 0 ≤ i) (h1 : i < 18446744073709551616) : IntKind.u64.wrap i = i := by rw [IntKind.wrap_u64]; omega
def putRev (y : Int) : Nat → List Int
  | 0 => []
  | i + 1 => putRev (y / 256) i ++ [y % 256]
theorem putRev_is : ∀ (s : Nat) (x : Int), putFrom s x 0 = putRev x s
  | 0, x => by simp [putFrom, putRev]
  | s + 1, x => by
    rw [putRev, ← putRev_is s (x / 256)]
    unfold putFrom
    rw [show s + 1 - 0 = s + 1 from rfl, List.range'_1_concat, List.map_append, show s - 0 = s from rfl]
    congr 1
    · refine List.map_congr_left fun j hj => ?_
      have hj' : j < s := by have := List.mem_range'_1.1 hj; omega
      unfold byteAt
      rw [show 8 * (s + 1 - 1 - j) = 8 + 8 * (s - 1 - j) by omega, Int.pow_add, show (2 : Int) ^ 8 = 256 from rfl, Int.ediv_ediv, if_neg (fun h => absurd h.1 (by decide)), Int.sub_zero]
    · simp [byteAt]
theorem field_l0 (n : Int) : ∀ (i : Nat) (y : Int) (out : List Int) (k : Nat), i ≤ out.length → out.length ≤ 8 → i < k → 0 ≤ y → y < 18446744073709551616 → P.quiverref01_Field.l0 k y out ((i : Int) - 1) = some (putRev y i ++ out.drop i)
  | 0, y, out, k + 1, _, _, _, _, _ => by
    rw [P.quiverref01_Field.l0, if_neg (by omega)]
    rfl
  | i + 1, y, out, k + 1, hi, h8, hk, h0, h1 => by
    rw [P.quiverref01_Field.l0, if_pos (by omega), if_pos (by omega), if_pos (by omega)]
    have e1 : Int.tdiv y 256 = y / 256 := Int.tdiv_eq_ediv_of_nonneg h0
    have e2 : Int.tmod y 256 = y % 256 := Int.tmod_eq_emod_of_nonneg h0
    rw [e1, e2, ru64 (by omega) (by omega), r64 (by omega) (by omega), show (((i + 1 : Nat) : Int) - 1).toNat = i by omega, show ((i + 1 : Nat) : Int) - 1 - 1 = (i : Int) - 1 by omega, show y % 256 % 256 = y % 256 by omega]
    rw [field_l0 n i (y / 256) (out.set i (y % 256)) k (by simp; omega) (by simp; omega) (by omega) (by omega) (by omega), putRev, List.append_assoc]
    congr 2
    have hl : i < (out.set i (y % 256)).length := by simp; omega
    rw [List.drop_eq_getElem_cons hl, List.drop_set_of_lt (by omega)]
    simp
theorem ref_field_is (n x : Int) (k : Nat) (hk : 9 ≤ k) (hn : isSize n = true) (h0 : 0 ≤ x) (h1 : x < 18446744073709551616) : P.quiverref01_Field.f k n x = some (putBytes n x) := by
  have h' := isSize_iff.1 hn
  unfold P.quiverref01_Field.f putBytes
  rw [if_pos (by omega), if_pos (by omega), if_pos hn, putRev_is]
  obtain ⟨s, rfl⟩ := Int.eq_ofNat_of_zero_le (show 0 ≤ n by omega)
  rw [Int.toNat_natCast, r64 (by omega) (by omega), field_l0 s s x _ k (by simp) (by simp; omega) (by omega) h0 h1, List.drop_eq_nil_of_le (by simp), List.append_nil]
theorem ref_put_is (l : List Int) (n x : Int) (k : Nat) (hk : 9 ≤ k) (hl : l.length < 140737488355320) (h0 : 0 ≤ x) (h1 : x < 18446744073709551616) : P.quiverref01_Put.f k l n x = some (l ++ putBytes n x) := by
  unfold P.quiverref01_Put.f
  rw [Option.bind_some, if_pos (by simp; omega), Option.bind_some, ref_size_is, Option.bind_some]
  cases h : isSize n with
  | true =>
    have h' := isSize_iff.1 h
    have hp : (putBytes n x).length ≤ 8 := by unfold putBytes; rw [if_pos h, putFrom_length]; omega
    rw [if_pos rfl, ref_field_is n x k hk h h0 h1, Option.bind_some, if_pos (by simp; omega)]
    rfl
  | false =>
    unfold putBytes
    rw [if_neg (by decide), h, if_neg (by decide)]
    simp
theorem u64_range (x : Int) : 0 ≤ IntKind.u64.wrap x ∧ IntKind.u64.wrap x < 18446744073709551616 := by rw [IntKind.wrap_u64]; omega
theorem ref_lay_is (l : List Int) (n x : Int) (k : Nat) (hk : 9 ≤ k) (hl : l.length < 140737488355320) : P.quiverref01_Lay.f k l n x = some (l ++ putBytes n (IntKind.u64.wrap x)) := by
  unfold P.quiverref01_Lay.f
  rw [ref_put_is l n _ k hk hl (u64_range x).1 (u64_range x).2]
  rfl
theorem ref_fits_l0 (s : Nat) (hs : s ≤ 8) : ∀ (d i : Nat) (y : Int) (k : Nat), i + d = s → d < k → 0 ≤ y → y < 18446744073709551616 → P.quiverref01_Fits.l0 k s y i = some (y / 256 ^ d == 0)
  | 0, i, y, k + 1, h, _, _, _ => by
    rw [P.quiverref01_Fits.l0, if_neg (by omega)]
    simp
  | d + 1, i, y, k + 1, h, hk, h0, h1 => by
    rw [P.quiverref01_Fits.l0, if_pos (by omega), Int.tdiv_eq_ediv_of_nonneg h0, ru64 (by omega) (by omega), r64 (by omega) (by omega), show ((i : Int) + 1) = ((i + 1 : Nat) : Int) by omega, ref_fits_l0 s hs d (i + 1) (y / 256) k (by omega) (by omega) (by omega) (by omega), Int.ediv_ediv, if_neg (fun h => absurd h.1 (by decide)), Int.sub_zero, Int.pow_succ, Int.mul_comm]
theorem ref_fits_is (n x : Int) (k : Nat) (hk : 9 ≤ k) (h0 : 0 ≤ x) (h1 : x < 18446744073709551616) : P.quiverref01_Fits.f k n x = some (isSize n && decide (x < 256 ^ n.toNat)) := by
  unfold P.quiverref01_Fits.f
  rw [ref_size_is, Option.bind_some]
  cases h : isSize n with
  | false => rfl
  | true =>
    have h' := isSize_iff.1 h
    obtain ⟨s, rfl⟩ := Int.eq_ofNat_of_zero_le (show 0 ≤ n by omega)
    rw [if_pos rfl, Int.toNat_natCast, Bool.true_and]
    have := ref_fits_l0 s (by omega) s 0 x k (by omega) (by omega) h0 h1
    rw [show ((0 : Nat) : Int) = 0 from rfl] at this
    rw [this]
    congr 1
    rw [Bool.eq_iff_iff, beq_iff_eq, decide_eq_true_iff]
    have hp : (0 : Int) < 256 ^ s := Int.pow_pos (by decide)
    constructor
    · intro e
      have := Int.lt_ediv_add_one_mul_self x hp
      rw [e] at this
      omega
    · exact fun e => Int.ediv_eq_zero_of_lt h0 e
theorem ref_int_l0 (s : Nat) (hs : s ≤ 7) (x : Int) : ∀ (d i : Nat) (h : Int) (k : Nat), i + d = 8 * s → d < k → 0 < h → h * 2 ^ d ≤ 4611686018427387904 → P.quiverref01_FitsInt.l0 k s x h i = some (decide (-(h * 2 ^ d) ≤ x) && decide (x < h * 2 ^ d))
  | 0, i, h, k + 1, hi, _, h0, h1 => by
    rw [P.quiverref01_FitsInt.l0, if_neg (by rw [r64 (by omega) (by omega)]; omega), r64 (by omega) (by omega)]
    simp only [Int.pow_zero, Int.mul_one]
    by_cases e : x ≥ -h
    · rw [if_pos e, decide_eq_true (show -h ≤ x from e)]; rfl
    · rw [if_neg e, decide_eq_false (show ¬ -h ≤ x from e)]; rfl
  | d + 1, i, h, k + 1, hi, hk, h0, h1 => by
    have hp : (0 : Int) < 2 ^ d := Int.pow_pos (by decide)
    have e : 2 * h * 2 ^ d = h * 2 ^ (d + 1) := by rw [Int.pow_succ, Int.mul_comm 2 h, Int.mul_assoc, Int.mul_comm 2]
    have hb : 2 * h * 1 ≤ 2 * h * 2 ^ d := Int.mul_le_mul_of_nonneg_left (by omega) (by omega)
    rw [P.quiverref01_FitsInt.l0, if_pos (by rw [r64 (by omega) (by omega)]; omega), r64 (i := 2 * h) (by omega) (by omega), r64 (i := (i : Int) + 1) (by omega) (by omega), show ((i : Int) + 1) = ((i + 1 : Nat) : Int) by omega, ref_int_l0 s hs x d (i + 1) (2 * h) k (by omega) (by omega) (by omega) (by omega), e]
theorem ref_int_is (n x : Int) (k : Nat) (hk : 64 ≤ k) (h0 : -9223372036854775808 ≤ x) (h1 : x < 9223372036854775808) : P.quiverref01_FitsInt.f k n x = some (isSize n && decide (-(256 ^ n.toNat) ≤ 2 * x ∧ 2 * x < 256 ^ n.toNat)) := by
  unfold P.quiverref01_FitsInt.f
  rw [ref_size_is, Option.bind_some]
  cases h : isSize n with
  | false => rfl
  | true =>
    have h' := isSize_iff.1 h
    rw [if_pos rfl, Bool.true_and]
    by_cases h8 : n = 8
    · subst h8
      rw [if_pos rfl, decide_eq_true (by simp; omega)]
    · rw [if_neg h8]
      have hk' : n = 1 ∨ n = 2 ∨ n = 3 ∨ n = 4 ∨ n = 5 ∨ n = 6 ∨ n = 7 := by omega
      rcases hk' with rfl | rfl | rfl | rfl | rfl | rfl | rfl
      · refine (ref_int_l0 1 (by omega) x 7 1 1 k (by omega) (by omega) (by omega) (by omega)).trans ?_
        rw [Option.some.injEq, Bool.eq_iff_iff, Bool.and_eq_true, decide_eq_true_iff, decide_eq_true_iff, decide_eq_true_iff]; simp; omega
      · refine (ref_int_l0 2 (by omega) x 15 1 1 k (by omega) (by omega) (by omega) (by omega)).trans ?_
        rw [Option.some.injEq, Bool.eq_iff_iff, Bool.and_eq_true, decide_eq_true_iff, decide_eq_true_iff, decide_eq_true_iff]; simp; omega
      · refine (ref_int_l0 3 (by omega) x 23 1 1 k (by omega) (by omega) (by omega) (by omega)).trans ?_
        rw [Option.some.injEq, Bool.eq_iff_iff, Bool.and_eq_true, decide_eq_true_iff, decide_eq_true_iff, decide_eq_true_iff]; simp; omega
      · refine (ref_int_l0 4 (by omega) x 31 1 1 k (by omega) (by omega) (by omega) (by omega)).trans ?_
        rw [Option.some.injEq, Bool.eq_iff_iff, Bool.and_eq_true, decide_eq_true_iff, decide_eq_true_iff, decide_eq_true_iff]; simp; omega
      · refine (ref_int_l0 5 (by omega) x 39 1 1 k (by omega) (by omega) (by omega) (by omega)).trans ?_
        rw [Option.some.injEq, Bool.eq_iff_iff, Bool.and_eq_true, decide_eq_true_iff, decide_eq_true_iff, decide_eq_true_iff]; simp; omega
      · refine (ref_int_l0 6 (by omega) x 47 1 1 k (by omega) (by omega) (by omega) (by omega)).trans ?_
        rw [Option.some.injEq, Bool.eq_iff_iff, Bool.and_eq_true, decide_eq_true_iff, decide_eq_true_iff, decide_eq_true_iff]; simp; omega
      · refine (ref_int_l0 7 (by omega) x 55 1 1 k (by omega) (by omega) (by omega) (by omega)).trans ?_
        rw [Option.some.injEq, Bool.eq_iff_iff, Bool.and_eq_true, decide_eq_true_iff, decide_eq_true_iff, decide_eq_true_iff]; simp; omega

theorem ref_same_l0 (l m : List Int) (hlm : l.length = m.length) (hl : l.length < 140737488355328) : ∀ (d i k : Nat), i + d = l.length → d + 1 ≤ k →
    P.quiverref01_Same.l0 k l m (i : Int) = some (decide (l.drop i = m.drop i))
  | 0, i, k + 1, h, _ => by
    rw [P.quiverref01_Same.l0, if_neg (by omega), List.drop_eq_nil_of_le (by omega), List.drop_eq_nil_of_le (by omega)]
    simp
  | d + 1, i, k + 1, h, hk => by
    have hi : i < l.length := by omega
    have hi' : i < m.length := by omega
    rw [P.quiverref01_Same.l0, if_pos (by omega), if_pos (by omega), if_pos (by omega), rd_at l i hi, rd_at m i hi', List.drop_eq_getElem_cons hi, List.drop_eq_getElem_cons hi']
    by_cases e : l[i] = m[i]
    · rw [if_pos e, r64 (by omega) (by omega), show ((i : Int) + 1) = ((i + 1 : Nat) : Int) by omega, ref_same_l0 l m hlm hl d (i + 1) k (by omega) (by omega)]
      simp only [List.cons.injEq, e, true_and]
    · rw [if_neg e]
      simp only [List.cons.injEq, e, false_and, decide_false]
theorem ref_same_self (l : List Int) (hl : l.length < 140737488355328) : P.quiverref01_Same.f (l.length + 1) l l = some true := by
  unfold P.quiverref01_Same.f
  rw [if_pos rfl]
  have := ref_same_l0 l l rfl hl l.length 0 (l.length + 1) (by omega) (by omega)
  simpa using this
end Go.Proofs.Ytanijhlpneiebaa.G
