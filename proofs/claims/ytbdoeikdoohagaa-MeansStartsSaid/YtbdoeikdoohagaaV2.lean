/- What the document's All, Mean, Nearest come to: plain. -/
import Derived.Test.YtbdoeikdoohagaaV1
import Derived.Test.YtbdoeikdoohagaaG11
import Derived.Test.YtbdoeikdoohagaaPx3
namespace Go.Proofs.Ytbdoeikdoohagaa.G
open Go.Shelf Go.RowKit Go.Proofs.YtbdoeikdoohagaaW.PrintWords Go.Proofs.YtbdoeikdoohagaaW.PrintLast Go.Proofs.YtbdoeikdoohagaaW.PrintMore
set_option linter.unusedVariables false
set_option linter.unusedSimpArgs false

theorem refall_l1 (l : List (List Int)) (hl : l.length ≤ 1000000) : ∀ (d i k : Nat), i + d = l.length → d < k → P.quiverref05_All.l1 k l (i : Int) = some (if (l.drop i).all (fun v => decide (v.length = (l.getD 0 []).length)) = true then 0 else 151)
  | 0, i, k + 1, h, _ => by
    rw [P.quiverref05_All.l1, if_neg (by omega), List.drop_eq_nil_of_le (by omega)]
    rfl
  | d + 1, i, k + 1, h, hk => by
    rw [P.quiverref05_All.l1, if_pos (by omega), if_pos (by omega), if_pos (by omega), rdL_nat, show P.rd_L1 l 0 = l.getD 0 [] from rdL_nat l 0, drop_at l i [] (by omega), List.all_cons]
    by_cases h1 : (l.getD i []).length = (l.getD 0 []).length
    · rw [if_pos (by omega), decide_eq_true h1, Bool.true_and, w64 (by omega) (by omega), show ((i : Int) + 1) = ((i + 1 : Nat) : Int) by omega]
      exact refall_l1 l hl d (i + 1) k (by omega) (by omega)
    · rw [if_neg (by omega), decide_eq_false h1, Bool.false_and]
      rfl
theorem refall_l0 (l : List (List Int)) (hl : l.length ≤ 1000000) (hv : ∀ i, (l.getD i []).length ≤ 100) : ∀ (d i k : Nat), i + d = l.length → d + l.length + 101 < k → P.quiverref05_All.l0 k l (i : Int) = some (if (l.drop i).all right = true then (if sameLens l = true then 0 else 151) else 150)
  | 0, i, k + 1, h, hk => by
    rw [P.quiverref05_All.l0, if_neg (by omega), List.drop_eq_nil_of_le (by omega)]
    have := refall_l1 l hl l.length 0 k (by omega) (by omega)
    rw [List.drop_zero] at this
    exact this
  | d + 1, i, k + 1, h, hk => by
    have hi := hv i
    rw [P.quiverref05_All.l0, if_pos (by omega), if_pos (by omega), rdL_nat, right_is k _ (by omega) (by omega), Option.bind_some, drop_at l i [] (by omega), List.all_cons]
    cases hr : right (l.getD i []) with
    | true =>
      rw [if_pos rfl, Bool.true_and, w64 (by omega) (by omega), show ((i : Int) + 1) = ((i + 1 : Nat) : Int) by omega]
      exact refall_l0 l hl hv d (i + 1) k (by omega) (by omega)
    | false =>
      rw [if_neg (by decide), Bool.false_and]
      rfl
theorem refall_is (l : List (List Int)) (hl : l.length ≤ 81) (hv : ∀ i, (l.getD i []).length ≤ 100) : P.quiverref05_All.f 400 l = some (allErr l) := by
  unfold P.quiverref05_All.f allErr
  have := refall_l0 l (by omega) hv l.length 0 400 (by omega) (by omega)
  rw [List.drop_zero] at this
  exact this

theorem refmean_l1 (l : List (List Int)) (hl : l.length ≤ 1000000) (h0 : 0 < l.length) (hall : l.all right = true) (hsame : sameLens l = true) (i : Nat) (hi : i < (l.getD 0 []).length) (out : List Int) (ho : out.length ≤ 4) : ∀ (d j k : Nat), j + d = l.length → P.quiverref05_Mean.l1 (k + 1 + d) l out (i : Int) (sumAt (l.take j) i) (j : Int) = P.quiverref05_Mean.l0 k l (out ++ [sumAt l i / (l.length : Int)]) ((i + 1 : Nat) : Int)
  | 0, j, k, h => by
    obtain rfl : j = l.length := by omega
    have hb := sumAt_bound i l hall
    have hd4 := (right_len _ (right_at l hall 0 h0)).2
    rw [List.take_length]
    obtain ⟨_, q1, q2⟩ := down_is (sumAt l i) l.length (by omega) (by omega) hb.1 hb.2
    show P.quiverref05_Mean.l1 (k + 1) _ _ _ _ _ = _
    rw [P.quiverref05_Mean.l1, if_neg (by omega), if_neg (by omega)]
    generalize sumAt l i = s at *
    have hd := Int.mul_ediv_add_emod s l.length
    have hm1 := Int.emod_nonneg s (show (l.length : Int) ≠ 0 by omega)
    have hm2 := Int.emod_lt_of_pos s (show (0 : Int) < l.length by omega)
    have hnn : (l.length : Int) * 1073741823 ≤ 1073741823000000 := by omega
    have ht : s.tdiv (l.length : Int) = s / l.length ∨ (s.tdiv (l.length : Int) = s / l.length + 1 ∧ s % (l.length : Int) ≠ 0) := by
      rw [Int.tdiv_eq_ediv]
      by_cases hs : 0 ≤ s ∨ (l.length : Int) ∣ s
      · rw [if_pos hs]; exact .inl (by omega)
      · rw [if_neg hs, Int.sign_eq_one_of_pos (by omega)]
        exact .inr ⟨rfl, fun e => hs (.inr (Int.dvd_of_emod_eq_zero e))⟩
    have wq : ∀ q : Int, -2147483648 ≤ q → q ≤ 2147483646 → wrap64 q = q ∧ wrap32 q = q := fun q a b => ⟨w64 (by omega) (by omega), w32 (by omega) (by omega)⟩
    generalize hq : s / (l.length : Int) = q at *
    rcases ht with ht | ⟨ht, hne⟩
    · rw [ht, (wq q (by omega) (by omega)).1]
      have hmul : q * (l.length : Int) = (l.length : Int) * q := Int.mul_comm _ _
      rw [w64 (i := q * (l.length : Int)) (by omega) (by omega), if_neg (by omega), if_pos (by omega), (wq q (by omega) (by omega)).2, w64 (by omega) (by omega)]
      rfl
    · rw [ht, (wq (q + 1) (by omega) (by omega)).1]
      have hmul : (q + 1) * (l.length : Int) = (l.length : Int) * q + l.length := by rw [Int.add_mul, Int.mul_comm q, Int.one_mul]
      rw [w64 (i := (q + 1) * (l.length : Int)) (by omega) (by omega), if_pos (by omega), if_pos (by omega), show q + 1 - 1 = q by omega, (wq q (by omega) (by omega)).1, (wq q (by omega) (by omega)).2, w64 (by omega) (by omega)]
      rfl
  | d + 1, j, k, h => by
    have hb := sumAt_bound i (l.take j) (all_take l j hall)
    rw [List.length_take, Nat.min_eq_left (by omega)] at hb
    have hc := right_comp _ (right_at l hall j (by omega)) i
    have hlen := len_at l hsame j (by omega)
    have hd4 := (right_len _ (right_at l hall 0 h0)).2
    show P.quiverref05_Mean.l1 ((k + 1 + d) + 1) _ _ _ _ _ = _
    rw [P.quiverref05_Mean.l1, if_pos (by omega), if_pos (by omega), if_pos (by omega), rdL_nat, if_pos (by omega), rd_nat, w64 (i := (l.getD j []).getD i 0) (by omega) (by omega), w64 (i := _ + _) (by omega) (by omega), w64 (i := (j : Int) + 1) (by omega) (by omega), show ((j : Int) + 1) = ((j + 1 : Nat) : Int) by omega, ← sumAt_snoc, ← take_snocR l j (by omega)]
    exact refmean_l1 l hl h0 hall hsame i hi out ho d (j + 1) k (by omega)
theorem refmean_l0 (l : List (List Int)) (hl : l.length ≤ 1000000) (h0 : 0 < l.length) (hall : l.all right = true) (hsame : sameLens l = true) : ∀ (d i k : Nat), i + d = (l.getD 0 []).length → d * (l.length + 2) < k → P.quiverref05_Mean.l0 k l (outK l i) (i : Int) = some (meanV l)
  | 0, i, k + 1, h, _ => by
    rw [P.quiverref05_Mean.l0, if_pos (by omega), show P.rd_L1 l 0 = l.getD 0 [] from rdL_nat l 0, if_neg (by omega), meanV_is, show i = (l.getD 0 []).length by omega]
  | d + 1, i, k + 1, h, hk => by
    have hd4 := (right_len _ (right_at l hall 0 h0)).2
    rw [Nat.succ_mul] at hk
    obtain ⟨k', rfl⟩ : ∃ k', k = k' + 1 + l.length := ⟨k - 1 - l.length, by omega⟩
    rw [P.quiverref05_Mean.l0, if_pos (by omega), show P.rd_L1 l 0 = l.getD 0 [] from rdL_nat l 0, if_pos (by omega)]
    have := refmean_l1 l hl h0 hall hsame i (by omega) (outK l i) (by simp [outK]; omega) l.length 0 k' (by omega)
    rw [List.take_zero, ← outK_snoc] at this
    exact this.trans (refmean_l0 l hl h0 hall hsame d (i + 1) k' (by omega) (by omega))
theorem refmean_is (l : List (List Int)) (hl : l.length ≤ 80) (h0 : 0 < l.length) (hz : allErr l = 0) : P.quiverref05_Mean.f 400 l = some (meanV l) := by
  obtain ⟨h1, h2⟩ := (allErr_zero l).1 hz
  have hd4 := (right_len _ (right_at l h1 0 h0)).2
  refine refmean_l0 l (by omega) h0 h1 h2 (l.getD 0 []).length 0 400 (by omega) ?_
  have := Nat.mul_le_mul hd4 (show l.length + 2 ≤ 82 by omega)
  omega

/-- What the nearest of the first k is. -/
theorem nst_spec (l : List (List Int)) (v : List Int) : ∀ k, k ≤ l.length → 0 < l.length → ∃ j : Nat, (nst l v k).1 = (j : Int) ∧ j < l.length ∧ (j ≤ k) ∧ (nst l v k).2 = distV (l.getD j []) v ∧ ∀ i, i < k → (nst l v k).2 ≤ distV (l.getD i []) v ∧ (distV (l.getD i []) v = (nst l v k).2 → j ≤ i)
  | 0, _, h0 => ⟨0, rfl, h0, Nat.le_refl _, rfl, fun i hi => absurd hi (Nat.not_lt_zero _)⟩
  | k + 1, hk, h0 => by
    obtain ⟨j, h1, h2, h3, h4, h5⟩ := nst_spec l v k (by omega) h0
    unfold nst
    by_cases hc : distV (l.getD k []) v < (nst l v k).2 ∨ (distV (l.getD k []) v = (nst l v k).2 ∧ (k : Int) < (nst l v k).1)
    · rw [if_pos hc]
      refine ⟨k, rfl, by omega, by omega, rfl, fun i hi => ?_⟩
      simp only
      by_cases e : i = k
      · subst e; exact ⟨Int.le_refl _, fun _ => Nat.le_refl _⟩
      · have h6 := h5 i (by omega)
        rcases hc with hc | ⟨hc, hc2⟩
        · exact ⟨by omega, fun h => by omega⟩
        · omega
    · rw [if_neg hc]
      refine ⟨j, h1, h2, by omega, h4, fun i hi => ?_⟩
      by_cases e : i = k
      · subst e
        refine ⟨by omega, fun h => ?_⟩
        omega
      · exact h5 i (by omega)


theorem refnear_l0 (l : List (List Int)) (v : List Int) (hl : l.length ≤ 1000000) (hz : allErr (v :: l) = 0) : ∀ (d i k : Nat), i + d = l.length → 1 ≤ i → d + 5 < k → P.quiverref05_Nearest.l0 k l v (nst l v i).1 (i : Int) = some (nst l v l.length).1
  | 0, i, k + 1, h, _, _ => by
    rw [P.quiverref05_Nearest.l0, if_neg (by omega), show i = l.length by omega]
  | d + 1, i, k + 1, h, h1, hk => by
    obtain ⟨g1, g2⟩ := (allErr_zero _).1 hz
    rw [List.all_cons, Bool.and_eq_true] at g1
    have hlen : ∀ i, i < l.length → (l.getD i []).length = v.length := fun i hi => by
      have := len_at (v :: l) g2 (i + 1) (by simp; omega)
      simpa using this
    obtain ⟨j, e1, e2, e3, e4, e5⟩ := nst_spec l v i (by omega) (by omega)
    rw [P.quiverref05_Nearest.l0, if_pos (by omega), if_pos (by omega), rdL_nat, refdist_is k _ _ (hlen i (by omega)) (right_at l g1.2 i (by omega)) g1.1 (by omega), Option.bind_some, if_pos (by omega), if_pos (by omega), e1, rdL_nat, refdist_is k _ _ (hlen j e2) (right_at l g1.2 j e2) g1.1 (by omega), Option.bind_some, ← e4, w64 (by omega) (by omega), show ((i : Int) + 1) = ((i + 1 : Nat) : Int) by omega]
    have ih := refnear_l0 l v hl hz d (i + 1) k (by omega) (by omega) (by omega)
    by_cases hc : distV (l.getD i []) v < (nst l v i).2
    · rw [if_pos hc]
      rw [show nst l v (i + 1) = ((i : Int), distV (l.getD i []) v) by rw [nst, if_pos (.inl hc)]] at ih
      exact ih
    · rw [if_neg hc]
      rw [show nst l v (i + 1) = nst l v i by rw [nst, if_neg (by omega)], e1] at ih
      exact ih
theorem refnear_is (l : List (List Int)) (v : List Int) (hl : l.length ≤ 80) (h0 : 0 < l.length) (hz : allErr (v :: l) = 0) : P.quiverref05_Nearest.f 400 l v = some (nst l v l.length).1 := by
  unfold P.quiverref05_Nearest.f
  have := refnear_l0 l v (by omega) hz (l.length - 1) 1 400 (by omega) (by omega) (by omega)
  rw [show (nst l v 1).1 = 0 by
    rw [nst]
    split
    · rfl
    · rfl] at this
  exact this

end Go.Proofs.Ytbdoeikdoohagaa.G
