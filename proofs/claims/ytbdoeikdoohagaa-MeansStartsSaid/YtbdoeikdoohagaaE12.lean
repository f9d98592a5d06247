/- What the document's Start, Round, Draws, Vectors come to: plain. -/
import Derived.Test.YtbdoeikdoohagaaD12
namespace Go.Proofs.Ytbdoeikdoohagaa.G
open Go.Shelf Go.RowKit Go.Proofs.YtbdoeikdoohagaaW.PrintWords Go.Proofs.YtbdoeikdoohagaaW.PrintLast Go.Proofs.YtbdoeikdoohagaaW.PrintMore
set_option linter.unusedVariables false
set_option linter.unusedSimpArgs false

theorem mean_k (k : Nat) (l : List (List Int)) (hl : l.length ≤ 96) (h0 : 0 < l.length) (hz : allErr l = 0) (hk : 400 ≤ k) : P.quiverref05_Mean.f k l = some (meanV l) ∧ (meanV l).length ≤ 4 := by
  obtain ⟨h1, h2⟩ := (allErr_zero l).1 hz
  have hd4 := (right_len _ (right_at l h1 0 h0)).2
  refine ⟨?_, by rw [meanV_len0]; exact hd4⟩
  refine refmean_l0 l (by omega) h0 h1 h2 (l.getD 0 []).length 0 k (by omega) ?_
  have := Nat.mul_le_mul hd4 (show l.length + 2 ≤ 98 by omega)
  omega
def mineJ (c l : List (List Int)) (n j : Nat) : List (List Int) := mineN c (l.take j) n
theorem mineJ_snoc (c l : List (List Int)) (n j : Nat) (hj : j < l.length) : mineJ c l n (j + 1) = if own1 c (l.getD j []) = (n : Int) then mineJ c l n j ++ [l.getD j []] else mineJ c l n j := by
  unfold mineJ mineN
  rw [List.take_succ_eq_append_getElem hj, List.filter_append, getD_of_lt l j [] hj]
  by_cases h : own1 c l[j] = (n : Int)
  · rw [if_pos h]; simp [h]
  · rw [if_neg h]; simp [h]
theorem mineJ_len (c l : List (List Int)) (n j : Nat) : (mineJ c l n j).length ≤ l.length := by
  unfold mineJ mineN
  exact Nat.le_trans (List.length_filter_le _ _) (by rw [List.length_take]; omega)
theorem round12_l1 (c l : List (List Int)) (dd : Nat) (hl : l.length ≤ 96) (hok : okV dd l) (n : Nat) (hn : n < c.length) (hcl : (c.getD n []).length ≤ 100) (out : List (List Int)) (ho : out.length ≤ 100) (hc : c.length ≤ 100) : ∀ (d j k : Nat), j + d = l.length → 400 ≤ k → P.quiverref12_Round.l1 (k + 1 + d) l (partsV c l) out (n : Int) (c.getD n []) (mineJ c l n j) c (c.length : Int) (n : Int) (partsV c l) ((partsV c l).length : Int) (j : Int) = P.quiverref12_Round.l0 k l (partsV c l) (out ++ [new1 c l n]) c (c.length : Int) ((n + 1 : Nat) : Int)
  | 0, j, k, h, hk => by
    have hj : j = l.length := by omega
    have hm : mineJ c l n j = mineN c l n := by unfold mineJ; rw [List.take_of_length_le (by omega)]
    have hml := mineJ_len c l n j
    have hpl := parts_len c l
    rw [Nat.add_zero, P.quiverref12_Round.l1, if_neg (by omega)]
    by_cases h0 : mineN c l n = []
    · rw [hm, h0, if_neg (by simp), Option.bind_some, if_pos (by simp only [List.length_nil]; omega), if_pos (by omega), w64 (by omega) (by omega), show ((n : Int) + 1) = ((n + 1 : Nat) : Int) by omega, List.nil_append, show new1 c l n = c.getD n [] by unfold new1; rw [if_pos h0]]
    · have hm0 : 0 < (mineN c l n).length := List.length_pos_iff.2 h0
      rw [hm] at hml
      obtain ⟨h1, h2⟩ := mean_k k (mineN c l n) (by omega) hm0 (err_of_ok (d := dd) (fun x hx => hok x (List.mem_filter.1 hx).1)) hk
      rw [hm, if_pos (by omega), h1, Option.bind_some, Option.bind_some, if_pos (by simp only [List.length_nil]; omega), if_pos (by omega), w64 (by omega) (by omega), show ((n : Int) + 1) = ((n + 1 : Nat) : Int) by omega, List.nil_append, show new1 c l n = meanV (mineN c l n) by unfold new1; rw [if_neg h0]]
  | d + 1, j, k, h, hk => by
    have hj : j < l.length := by omega
    have hpl := parts_len c l
    have hml := mineJ_len c l n j
    have ih := round12_l1 c l dd hl hok n hn hcl out ho hc d (j + 1) k (by omega) hk
    rw [mineJ_snoc c l n j hj] at ih
    rw [show k + 1 + (d + 1) = (k + 1 + d) + 1 by omega, P.quiverref12_Round.l1, if_pos (by omega), if_pos (by omega), if_pos (by omega), rd_nat, parts_at c l j hj]
    by_cases e : own1 c (l.getD j []) = (n : Int)
    · rw [if_pos e] at ih
      rw [if_pos e, if_pos (by omega), if_pos (by omega), rdL_nat, w64 (by omega) (by omega), show ((j : Int) + 1) = ((j + 1 : Nat) : Int) by omega]
      exact ih
    · rw [if_neg e] at ih
      rw [if_neg e, w64 (by omega) (by omega), show ((j : Int) + 1) = ((j + 1 : Nat) : Int) by omega]
      exact ih
theorem round12_l0 (c l : List (List Int)) (dd : Nat) (hl : l.length ≤ 96) (hok : okV dd l) (hcl : ∀ n, (c.getD n []).length ≤ 100) (hc : c.length ≤ 100) : ∀ (d n k : Nat), n + d = c.length → d * (l.length + 2) + 400 < k → P.quiverref12_Round.l0 k l (partsV c l) ((List.range n).map (new1 c l)) c (c.length : Int) (n : Int) = some (roundV c l)
  | 0, n, k + 1, h, _ => by
    rw [P.quiverref12_Round.l0, if_neg (by omega), show n = c.length by omega]
    rfl
  | d + 1, n, k + 1, h, hk => by
    rw [Nat.succ_mul] at hk
    obtain ⟨k', rfl⟩ : ∃ k', k = k' + 1 + l.length := ⟨k - 1 - l.length, by omega⟩
    rw [P.quiverref12_Round.l0, if_pos (by omega), if_pos (by omega), if_pos (by omega), rdL_nat]
    have := round12_l1 c l dd hl hok n (by omega) (hcl n) ((List.range n).map (new1 c l)) (by simp; omega) hc l.length 0 k' (by omega) (by omega)
    have ih := round12_l0 c l dd hl hok hcl hc d (n + 1) k' (by omega) (by omega)
    rw [List.range_succ, List.map_append] at ih
    exact this.trans ih
theorem round12_is (c l : List (List Int)) (hc0 : 0 < c.length) (hc : c.length ≤ 6) (hl : l.length ≤ 96) (hz : allErr (c ++ l) = 0) : P.quiverref12_Round.f 2000 c l = some (roundV c l) := by
  have hok := ok_of_err hz
  have hokc : okV ((c ++ l).getD 0 []).length c := fun x hx => hok x (List.mem_append_left _ hx)
  have hokl : okV ((c ++ l).getD 0 []).length l := fun x hx => hok x (List.mem_append_right _ hx)
  unfold P.quiverref12_Round.f
  rw [parts_is 2000 c l hc0 (by omega) (by omega) (fun v hv => err_of_ok (d := ((c ++ l).getD 0 []).length) (fun x hx => by
    rcases List.mem_cons.1 hx with rfl | hx
    · exact hokl _ hv
    · exact hokc _ hx)) (by omega), Option.bind_some]
  refine round12_l0 c l _ hl hokl (fun n => ?_) (by omega) c.length 0 2000 (by omega) ?_
  · by_cases h : n < c.length
    · rw [getD_of_lt c n [] h]
      have := right_len _ (hokc _ (List.getElem_mem h)).1
      omega
    · rw [List.getD_eq_getElem?_getD, List.getElem?_eq_none (by omega)]; exact Nat.zero_le _
  · have := Nat.mul_le_mul hc (show l.length + 2 ≤ 98 by omega)
    omega
theorem start12_l0 (l : List (List Int)) (ds : List Int) (hl0 : 0 < l.length) (hl : l.length ≤ 1000) (hv : ∀ i, (l.getD i []).length ≤ 100) (hd : ds.length ≤ 100) (hn : ∀ i, 0 ≤ ds.getD i 0) : ∀ (d i k : Nat), i + d = ds.length → d < k → P.quiverref12_Start.l0 k l (pick l (ds.take i)) ds (ds.length : Int) (i : Int) = some (pick l ds)
  | 0, i, k + 1, h, _ => by
    rw [P.quiverref12_Start.l0, if_neg (by omega), List.take_of_length_le (by omega)]
  | d + 1, i, k + 1, h, hk => by
    have hi : i < ds.length := by omega
    have hni := hn i
    have ht : Int.tmod (ds.getD i 0) (l.length : Int) = ((((ds.getD i 0).toNat % l.length : Nat)) : Int) := by
      rw [Int.tmod_eq_emod_of_nonneg hni, Int.natCast_emod, Int.toNat_of_nonneg hni]
    have hm := Nat.mod_lt (ds.getD i 0).toNat hl0
    have hpl : (pick l (ds.take i)).length < 5864062014805 := by unfold pick; rw [List.length_map, List.length_take]; omega
    have hvi := hv ((ds.getD i 0).toNat % l.length)
    rw [P.quiverref12_Start.l0, if_pos (by omega), if_pos (by omega), if_pos (by omega), Option.bind_some, if_neg (by omega), rd_nat, ht, if_pos (by omega), if_pos (by omega), rdL_nat, if_pos (by simp only [List.length_nil]; omega), if_pos hpl, w64 (by omega) (by omega), show ((i : Int) + 1) = ((i + 1 : Nat) : Int) by omega, List.nil_append]
    have ih := start12_l0 l ds hl0 hl hv hd hn d (i + 1) k (by omega) (by omega)
    rw [show pick l (ds.take (i + 1)) = pick l (ds.take i) ++ [l.getD ((ds.getD i 0).toNat % l.length) []] by
      rw [List.take_succ_eq_append_getElem hi, getD_of_lt ds i 0 hi]; unfold pick; rw [List.map_append]; rfl] at ih
    exact ih
theorem start12_is (l : List (List Int)) (ds : List Int) (hl0 : 0 < l.length) (hl : l.length ≤ 1000) (hv : ∀ i, (l.getD i []).length ≤ 100) (hd : ds.length ≤ 100) (hn : ∀ i, 0 ≤ ds.getD i 0) : P.quiverref12_Start.f 200 l ds = some (pick l ds) := by
  unfold P.quiverref12_Start.f
  have := start12_l0 l ds hl0 hl hv hd hn ds.length 0 200 (by omega) (by omega)
  rw [List.take_zero, show pick l [] = [] from rfl] at this
  exact this
theorem draws12_l0 (ds : List Int) (hd : ds.length ≤ 100) : ∀ (d i k : Nat), i + d = ds.length → d < k → P.quiverref12_Draws.l0 k ds ds (ds.length : Int) (i : Int) = some ((ds.drop i).all okD && decide (1 ≤ ds.length ∧ ds.length ≤ 6))
  | 0, i, k + 1, h, _ => by
    rw [P.quiverref12_Draws.l0, if_neg (by omega), List.drop_eq_nil_of_le (by omega)]
    by_cases h1 : 1 ≤ ds.length
    · rw [if_pos (by omega)]
      by_cases h2 : ds.length ≤ 6
      · rw [decide_eq_true (show (ds.length : Int) ≤ 6 by omega), decide_eq_true ⟨h1, h2⟩]; rfl
      · rw [decide_eq_false (show ¬ (ds.length : Int) ≤ 6 by omega), decide_eq_false (fun h => h2 h.2)]; rfl
    · rw [if_neg (by omega), decide_eq_false (fun h => h1 h.1)]; rfl
  | d + 1, i, k + 1, h, hk => by
    rw [P.quiverref12_Draws.l0, if_pos (by omega), if_pos (by omega), if_pos (by omega), rd_nat, drop_at ds i 0 (by omega), List.all_cons]
    by_cases h1 : ds.getD i 0 < 0
    · rw [if_pos h1, show okD (ds.getD i 0) = false by unfold okD; exact decide_eq_false (by omega)]; rfl
    · rw [if_neg h1]
      by_cases h2 : ds.getD i 0 > 1073741824
      · rw [if_pos h2, show okD (ds.getD i 0) = false by unfold okD; exact decide_eq_false (by omega)]; rfl
      · rw [if_neg h2, show okD (ds.getD i 0) = true by unfold okD; exact decide_eq_true (by omega), Bool.true_and, w64 (by omega) (by omega), show ((i : Int) + 1) = ((i + 1 : Nat) : Int) by omega]
        exact draws12_l0 ds hd d (i + 1) k (by omega) (by omega)
theorem draws12_is (ds : List Int) (hd : ds.length ≤ 100) : P.quiverref12_Draws.f 200 ds = some (drawsOk ds) := by
  unfold P.quiverref12_Draws.f drawsOk
  have := draws12_l0 ds hd ds.length 0 200 (by omega) (by omega)
  rw [List.drop_zero] at this
  rw [Bool.and_comm]
  exact this
def vecErr (l : List (List Int)) : Int := if manyErr l = 0 then allErr l else manyErr l
theorem vectors12_is (l : List (List Int)) (hl : l.length ≤ 200) (hv : ∀ i, (l.getD i []).length ≤ 100) : P.quiverref12_Vectors.f 1000 l = some (vecErr l) := by
  unfold P.quiverref12_Vectors.f vecErr manyErr
  by_cases h0 : l.length = 0
  · rw [if_pos (by omega), if_pos h0]; rfl
  · rw [if_neg (by omega), if_neg h0]
    by_cases h1 : 96 < l.length
    · rw [if_pos (by omega), if_pos h1]; rfl
    · rw [if_neg (by omega), if_neg h1, all12_is l hl hv, Option.bind_some]; rfl

end Go.Proofs.Ytbdoeikdoohagaa.G
