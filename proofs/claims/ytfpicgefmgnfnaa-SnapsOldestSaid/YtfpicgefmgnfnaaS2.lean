/- What the printed functions of the snapshots compute, and the document's: plain. -/
import Derived.Test.YtfpicgefmgnfnaaS1
import Derived.Test.YtfpicgefmgnfnaaPx3
import Derived.Test.YtfpicgefmgnfnaaPx4
import Derived.Test.YtfpicgefmgnfnaaPx5
import Derived.Test.YtfpicgefmgnfnaaG3
namespace Go.Proofs.Ytfpicgefmgnfnaa.G
open Go.RowKit Go.Proofs.YtfpicgefmgnfnaaW.PrintWords Go.Proofs.YtfpicgefmgnfnaaW.PrintLast Go.Proofs.YtfpicgefmgnfnaaW.PrintMore
set_option linter.unusedVariables false
set_option linter.unusedSimpArgs false

theorem H_ext (x y : H) : x = y ↔ x.f0 = y.f0 ∧ x.f1 = y.f1 := by
  cases x; cases y; simp
instance : DecidableEq H := fun x y => decidable_of_iff _ (H_ext x y).symm

theorem right_l0 (a : Int) (L : List H) (hL : L.length ≤ 64) (hs : ∀ h ∈ L, 0 ≤ h.f1) : ∀ (m i k : Nat) (n s : Int), L.length = i + m → 2 * m + 1 ≤ k →
    ((i = 0 ∧ n = 0 ∧ s = 0) ∨ (0 < i ∧ ∃ h : i - 1 < L.length, n = (L[i - 1]).f0 ∧ s = (L[i - 1]).f1 ∧ 0 ≤ n)) →
    P.quiverref17_Right.l0 k (i : Int) a L = some (okFrom a n s (L.drop i))
  | 0, i, k + 1, n, s, h, _, _ => by
    have : L.drop i = [] := List.drop_eq_nil_of_le (by omega)
    rw [P.quiverref17_Right.l0, if_neg (by omega), this]
    simp [okFrom]
  | m + 1, i, k + 2, n, s, h, hk, hp => by
    have hi : i < L.length := by omega
    have hs' : 0 ≤ (L[i]).f1 := hs _ (List.getElem_mem hi)
    have hn : 0 ≤ n := by rcases hp with ⟨_, h, _⟩ | ⟨_, _, _, _, h⟩ <;> omega
    rw [P.quiverref17_Right.l0, if_pos (by omega), if_pos (by omega), rd_get L i hi, List.drop_eq_getElem_cons hi, okFrom]
    have hw : wrap64 ((i : Int) + 1) = ((i + 1 : Nat) : Int) := by rw [wrap_id (by omega) (by omega)]; omega
    have ih := fun (h0 : 0 ≤ (L[i]).f0) => right_l0 a L hL hs m (i + 1) k (L[i]).f0 (L[i]).f1 (by omega) (by omega) (.inr ⟨by omega, by simpa using hi, by simp, by simp, h0⟩)
    by_cases h1 : (L[i]).f0 < 1
    · rw [if_pos h1, P.quiverref17_Right.j2, if_pos rfl, if_pos (by omega)]
    by_cases h2 : (L[i]).f0 ≥ a
    · rw [if_neg h1, if_pos h2, P.quiverref17_Right.j2, if_pos rfl]
      simp [h2]
    by_cases h3 : (L[i]).f1 > 1099511627776
    · rw [if_neg h1, if_neg h2, P.quiverref17_Right.j2, if_pos (by simpa using h3)]
      simp [h2, h3]
    rw [if_neg h1, if_neg h2, P.quiverref17_Right.j2, if_neg (by simpa using h3)]
    rcases hp with ⟨rfl, rfl, rfl⟩ | ⟨hi0, hi1, rfl, rfl, _⟩
    · rw [if_neg (by omega), hw, ih (by omega), if_neg (by omega), if_neg h2, if_neg (by omega), if_neg h3]
    · have e1 : wrap64 ((i : Int) - 1) = ((i - 1 : Nat) : Int) := by rw [wrap_id (by omega) (by omega)]; omega
      rw [if_pos (by omega), e1, if_pos (by omega), if_pos (by omega), rd_get L (i - 1) hi1, hw, ih (by omega)]
      by_cases h4 : (L[i - 1]).f0 ≥ (L[i]).f0
      · rw [if_pos h4, if_pos h4]
      by_cases h5 : (L[i - 1]).f1 > (L[i]).f1
      · rw [if_neg h4, if_pos h5, if_neg h4, if_neg h2, if_pos h5]
      rw [if_neg h4, if_neg h5, if_neg h4, if_neg h2, if_neg (by omega), if_neg h3]

theorem right_is (k : Nat) (a : Int) (l : List H) (hs : ∀ h ∈ l, 0 ≤ h.f1) (hk : 2 * l.length + 3 ≤ k) : P.quiverref17_Right.f k a l = some (right a l) := by
  obtain ⟨k, rfl⟩ : ∃ m, k = m + 1 := ⟨k - 1, by omega⟩
  unfold P.quiverref17_Right.f right
  by_cases h1 : a < 1
  · simp [h1, P.quiverref17_Right.j0]
  by_cases h2 : a > 1073741824
  · simp [h1, h2, P.quiverref17_Right.j0]
  by_cases h3 : (l.length : Int) > 64
  · simp [h1, h2, h3, P.quiverref17_Right.j0]
  rw [if_neg h1, if_neg h2, if_neg h1, if_neg h2, if_neg h3, P.quiverref17_Right.j0, if_neg (by simp; omega)]
  exact right_l0 a l (by omega) hs l.length 0 k 0 0 (by omega) (by omega) (.inl ⟨rfl, rfl, rfl⟩)

theorem same_l0 (a b : Int) (L M : List H) (hLM : L.length = M.length) (hL : L.length ≤ 1000) : ∀ (m i k : Nat), L.length = i + m → m + 1 ≤ k →
    P.quiverref17_Same.l0 k (i : Int) a L b M = some (decide (L.drop i = M.drop i))
  | 0, i, k + 1, h, _ => by
    have h1 : L.drop i = [] := List.drop_eq_nil_of_le (by omega)
    have h2 : M.drop i = [] := List.drop_eq_nil_of_le (by omega)
    rw [P.quiverref17_Same.l0, if_neg (by omega), h1, h2]
    simp
  | m + 1, i, k + 1, h, hk => by
    have hi : i < L.length := by omega
    have hi' : i < M.length := by omega
    rw [P.quiverref17_Same.l0, if_pos (by omega), if_pos (by omega), if_pos (by omega), rd_get L i hi, rd_get M i hi', List.drop_eq_getElem_cons hi, List.drop_eq_getElem_cons hi']
    by_cases e : L[i] = M[i]
    · rw [e, if_neg (by simp), wrap_id (by omega) (by omega), show ((i : Int) + 1) = ((i + 1 : Nat) : Int) by omega, same_l0 a b L M hLM hL m (i + 1) k (by omega) (by omega)]
      simp only [List.cons.injEq, true_and]
    · rw [if_pos]
      · simp only [List.cons.injEq, e, false_and, decide_false]
      · have : ¬ ((L[i]).f0 = (M[i]).f0 ∧ (L[i]).f1 = (M[i]).f1) := fun h => e ((H_ext _ _).2 h)
        simp only [Bool.or_eq_true, Bool.not_eq_true', beq_eq_false_iff_ne]
        by_cases e0 : (L[i]).f0 = (M[i]).f0
        · exact .inr fun e1 => this ⟨e0, e1⟩
        · exact .inl e0
theorem same_is (k : Nat) (a b : Int) (L M : List H) (hL : L.length ≤ 1000) (hk : L.length + 2 ≤ k) : P.quiverref17_Same.f k a L b M = some (decide (a = b ∧ L = M)) := by
  obtain ⟨k, rfl⟩ : ∃ m, k = m + 1 := ⟨k - 1, by omega⟩
  unfold P.quiverref17_Same.f
  by_cases h1 : a = b
  · rw [if_pos h1, P.quiverref17_Same.j0]
    by_cases h2 : L.length = M.length
    · rw [if_neg (by simp [h2]), show ((0 : Int)) = ((0 : Nat) : Int) by rfl, same_l0 a b L M h2 hL L.length 0 k (by omega) (by omega)]
      simp [h1]
    · have : L ≠ M := fun e => h2 (by rw [e])
      rw [if_pos (by simp; omega)]
      simp [this]
  · rw [if_neg h1, P.quiverref17_Same.j0, if_pos rfl]
    simp [h1]
theorem eq_l0 (L M : List H) (hLM : L.length = M.length) (hL : L.length ≤ 1000) : ∀ (m i k : Nat), L.length = i + m → m + 1 ≤ k →
    P.api_Handle_26.l0 k L M (L.length : Int) (i : Int) = some (decide (L.drop i = M.drop i))
  | 0, i, k + 1, h, _ => by
    have h1 : L.drop i = [] := List.drop_eq_nil_of_le (by omega)
    have h2 : M.drop i = [] := List.drop_eq_nil_of_le (by omega)
    rw [P.api_Handle_26.l0, if_neg (by omega), h1, h2]
    simp
  | m + 1, i, k + 1, h, hk => by
    have hi : i < L.length := by omega
    have hi' : i < M.length := by omega
    rw [P.api_Handle_26.l0, if_pos (by omega), if_pos (by omega), if_pos (by omega), if_pos (by omega), rd_get L i hi, rd_get M i hi', List.drop_eq_getElem_cons hi, List.drop_eq_getElem_cons hi']
    by_cases e : L[i] = M[i]
    · rw [e, if_neg (by simp), wrap_id (by omega) (by omega), show ((i : Int) + 1) = ((i + 1 : Nat) : Int) by omega, eq_l0 L M hLM hL m (i + 1) k (by omega) (by omega)]
      simp only [List.cons.injEq, true_and]
    · rw [if_pos]
      · simp only [List.cons.injEq, e, false_and, decide_false]
      · have : ¬ ((L[i]).f0 = (M[i]).f0 ∧ (L[i]).f1 = (M[i]).f1) := fun h => e ((H_ext _ _).2 h)
        simp only [Bool.or_eq_true, Bool.not_eq_true', beq_eq_false_iff_ne]
        by_cases e0 : (L[i]).f0 = (M[i]).f0
        · exact .inr fun e1 => this ⟨e0, e1⟩
        · exact .inl e0
theorem snaps_same_is (k : Nat) (a b : Int) (L M : List H) (hL : L.length ≤ 1000) (hk : L.length + 2 ≤ k) : P.snaps_Same.f k a L b M = some (decide (a = b ∧ L = M)) := by
  unfold P.snaps_Same.f P.api_Handle_26.f
  by_cases h1 : a = b
  · rw [if_pos h1]
    by_cases h2 : L.length = M.length
    · rw [if_pos (by omega), show ((0 : Int)) = ((0 : Nat) : Int) by rfl, eq_l0 L M h2 hL L.length 0 k (by omega) (by omega)]
      simp [h1]
    · have : L ≠ M := fun e => h2 (by rw [e])
      rw [if_neg (by omega)]
      simp [this]
  · rw [if_neg h1]
    simp [h1]

theorem place_l0 (num a : Int) (L : List H) (hL : L.length ≤ 1000) : ∀ (m i k : Nat), L.length = i + m → m + 1 ≤ k →
    P.quiverref17_Place.l0 k num (i : Int) a L = some (place num i (L.drop i))
  | 0, i, k + 1, h, _ => by
    have h1 : L.drop i = [] := List.drop_eq_nil_of_le (by omega)
    rw [P.quiverref17_Place.l0, if_neg (by omega), h1]
    simp [place]
  | m + 1, i, k + 1, h, hk => by
    have hi : i < L.length := by omega
    rw [P.quiverref17_Place.l0, if_pos (by omega), if_pos (by omega), rd_get L i hi, List.drop_eq_getElem_cons hi, place]
    split
    · rfl
    · rw [wrap_id (by omega) (by omega), show ((i : Int) + 1) = ((i + 1 : Nat) : Int) by omega, place_l0 num a L hL m (i + 1) k (by omega) (by omega)]
theorem place_is (k : Nat) (a num : Int) (L : List H) (hL : L.length ≤ 1000) (hk : L.length + 1 ≤ k) : P.quiverref17_Place.f k a L num = some (place num 0 L) := by
  unfold P.quiverref17_Place.f
  exact place_l0 num a L hL L.length 0 k (by omega) (by omega)

def skip (j : Nat) : Nat → List H → List H
  | _, [] => []
  | i, h :: l => if i = j then skip j (i + 1) l else h :: skip j (i + 1) l
theorem skip_far (j : Nat) : ∀ (l : List H) (i : Nat), j < i → skip j i l = l
  | [], _, _ => rfl
  | h :: l, i, hi => by rw [skip, if_neg (by omega), skip_far j l (i + 1) (by omega)]
theorem skip_erase (j : Nat) : ∀ (l : List H) (i : Nat), i ≤ j → skip j i l = l.eraseIdx (j - i)
  | [], _, _ => by simp [skip]
  | h :: l, i, hi => by
    rw [skip]
    split
    · subst i
      rw [skip_far j l (j + 1) (by omega)]
      simp
    · rw [skip_erase j l (i + 1) (by omega), show j - i = (j - (i + 1)) + 1 by omega, List.eraseIdx_cons_succ]
theorem end_l0 (j : Nat) (a : Int) (L : List H) (hL : L.length ≤ 1000) : ∀ (m i k : Nat) (acc : List H), L.length = i + m → m + 1 ≤ k → acc.length ≤ i →
    P.quiverref17_End.l0 k (j : Int) acc (i : Int) a L = some (a, acc ++ skip j i (L.drop i))
  | 0, i, k + 1, acc, h, _, _ => by
    have h1 : L.drop i = [] := List.drop_eq_nil_of_le (by omega)
    rw [P.quiverref17_End.l0, if_neg (by omega), h1]
    simp [skip]
  | m + 1, i, k + 1, acc, h, hk, hac => by
    have hi : i < L.length := by omega
    have hw : wrap64 ((i : Int) + 1) = ((i + 1 : Nat) : Int) := by rw [wrap_id (by omega) (by omega)]; omega
    rw [P.quiverref17_End.l0, if_pos (by omega), hw, rd_get L i hi, List.drop_eq_getElem_cons hi, skip]
    by_cases e : i = j
    · rw [if_pos (by omega), if_pos e, end_l0 j a L hL m (i + 1) k acc (by omega) (by omega) (by omega)]
    · rw [if_neg (by omega), if_neg e, if_pos (by omega), if_pos (by omega), end_l0 j a L hL m (i + 1) k _ (by omega) (by omega) (by simp; omega)]
      simp
theorem end_is (k j : Nat) (a : Int) (L : List H) (hL : L.length ≤ 1000) (hk : L.length + 1 ≤ k) : P.quiverref17_End.f k a L (j : Int) = some (a, L.eraseIdx j) := by
  unfold P.quiverref17_End.f
  have := end_l0 j a L hL L.length 0 k [] (by omega) (by omega) (by simp)
  rw [List.drop_zero, skip_erase j L 0 (by omega)] at this
  simpa using this

theorem okFrom_lo (a : Int) : ∀ (l : List H) (n s : Int), okFrom a n s l = true → ∀ x ∈ l, s ≤ x.f1
  | [], _, _, _, x, hx => by simp at hx
  | h :: l, n, s, hok, x, hx => by
    rw [okFrom] at hok
    split at hok
    · cases hok
    split at hok
    · cases hok
    split at hok
    · cases hok
    split at hok
    · cases hok
    rcases List.mem_cons.1 hx with rfl | hx
    · omega
    · have := okFrom_lo a l h.f0 h.f1 hok x hx
      omega
theorem okFrom_num (a : Int) : ∀ (l : List H) (n s : Int), okFrom a n s l = true → ∀ x ∈ l, n < x.f0 ∧ x.f0 < a
  | [], _, _, _, x, hx => by simp at hx
  | h :: l, n, s, hok, x, hx => by
    rw [okFrom] at hok
    split at hok
    · cases hok
    split at hok
    · cases hok
    split at hok
    · cases hok
    split at hok
    · cases hok
    rcases List.mem_cons.1 hx with rfl | hx
    · omega
    · have := okFrom_num a l h.f0 h.f1 hok x hx
      omega
def lastS : Int → List H → Int
  | s, [] => s
  | _, h :: l => lastS h.f1 l
theorem lastS_get : ∀ (l : List H) (s : Int) (h : 0 < l.length), lastS s l = (l[l.length - 1]).f1
  | [h], s, _ => rfl
  | h :: g :: l, s, _ => by
    rw [lastS, lastS_get (g :: l) h.f1 (by simp)]
    simp
theorem okFrom_hi (a : Int) : ∀ (l : List H) (n s : Int), okFrom a n s l = true → s ≤ lastS s l ∧ ∀ x ∈ l, x.f1 ≤ lastS s l
  | [], n, s, _ => ⟨Int.le_refl _, fun x hx => by simp at hx⟩
  | h :: l, n, s, hok => by
    rw [okFrom] at hok
    split at hok
    · cases hok
    split at hok
    · cases hok
    split at hok
    · cases hok
    split at hok
    · cases hok
    obtain ⟨h1, h2⟩ := okFrom_hi a l h.f0 h.f1 hok
    refine ⟨by rw [lastS]; omega, fun x hx => ?_⟩
    rw [lastS]
    rcases List.mem_cons.1 hx with rfl | hx
    · exact h1
    · exact h2 x hx
theorem right_ok {a : Int} {l : List H} (h : right a l = true) : okFrom a 0 0 l = true := by
  unfold right at h
  split at h
  · cases h
  split at h
  · cases h
  split at h
  · cases h
  exact h

theorem last_is (a : Int) (l : List H) (hl : l.length ≤ 1000) : ∃ n, P.snaps_register_last.f a l = some (n, lastS 0 l) := by
  unfold P.snaps_register_last.f
  by_cases h : 0 < l.length
  · have e1 : wrap64 ((l.length : Int) - 1) = ((l.length - 1 : Nat) : Int) := by rw [wrap_id (by omega) (by omega)]; omega
    rw [if_pos (by omega), e1, if_pos (by omega), if_pos (by omega), rd_get l (l.length - 1) (by omega), lastS_get l 0 h]
    exact ⟨_, rfl⟩
  · have : l = [] := List.length_eq_zero_iff.1 (by omega)
    subst this
    exact ⟨0, by simp [lastS]⟩

/-- What Begin gives. -/
def beg (a : Int) (l : List H) (start : Int) : Int × List H × Int × Int :=
  if right a l = true then
    if start > 1099511627776 ∨ start < lastS 0 l then (0, [], 0, 2)
    else if l.length = 64 ∨ a = 1073741824 then (0, [], 0, 6)
    else (a + 1, l ++ [⟨a, start⟩], a, 0)
  else (0, [], 0, 270)
theorem begin_is (k : Nat) (a start : Int) (l : List H) (hk : l.length + 3 ≤ k) : P.snaps_Begin.f k a l start = some (beg a l start) := by
  obtain ⟨k, rfl⟩ : ∃ m, k = m + 1 := ⟨k - 1, by omega⟩
  unfold P.snaps_Begin.f beg
  rw [check_is _ a l hk]
  cases hr : right a l with
  | false => simp
  | true =>
    obtain ⟨hl, h1, h2⟩ := right_len hr
    obtain ⟨n, hn⟩ := last_is a l (by omega)
    simp only [if_true, Option.bind_some]
    by_cases h3 : start > 1099511627776
    · rw [if_pos h3, P.snaps_Begin.j0, if_pos rfl, if_pos (.inl h3)]
    rw [if_neg h3, hn]
    simp only [Option.bind_some]
    by_cases h4 : start < lastS 0 l
    · rw [P.snaps_Begin.j0, if_pos (by simpa using h4), if_pos (.inr h4)]
    have hN : ¬ (start > 1099511627776 ∨ start < lastS 0 l) := by rintro (h | h); exact h3 h; exact h4 h
    rw [P.snaps_Begin.j0, if_neg (by simpa using h4), if_neg hN]
    by_cases h5 : l.length = 64
    · rw [if_pos (by omega), if_pos (.inl h5)]
    rw [if_neg (by omega)]
    by_cases h6 : a = 1073741824
    · rw [if_pos h6, if_pos (.inr h6)]
    rw [if_neg h6, if_neg (by rintro (h | h); exact h5 h; exact h6 h)]
    unfold clone_Handle.f
    rw [if_pos (by omega)]
    simp only [Option.bind_some]
    rw [if_pos (by omega), wrap_id (by omega) (by omega)]

theorem refbegin_l0 (a start : Int) (L : List H) (hL : L.length ≤ 64) (ha : 1 ≤ a ∧ a ≤ 1073741824) : ∀ (m i k : Nat), L.length = i + m → m + 1 ≤ k →
    P.quiverref17_Begin.l0 k start (i : Int) a L = some (if (L.drop i).any (fun h => decide (h.f1 > start)) = true then (0, [], 2) else if L.length = 64 ∨ a = 1073741824 then (0, [], 6) else (a + 1, L ++ [⟨a, start⟩], 0))
  | 0, i, k + 1, h, _ => by
    have h1 : L.drop i = [] := List.drop_eq_nil_of_le (by omega)
    rw [P.quiverref17_Begin.l0, if_neg (by omega), h1]
    simp only [List.any_nil, Bool.false_eq_true, if_false]
    by_cases h5 : L.length = 64
    · rw [if_pos (by omega), if_pos (.inl h5)]
    rw [if_neg (by omega)]
    by_cases h6 : a = 1073741824
    · rw [if_pos h6, if_pos (.inr h6)]
    rw [if_neg h6, if_neg (by omega)]
    simp only [Option.bind_some, List.nil_append, List.length_nil, List.length_singleton]
    rw [if_pos (by omega), if_pos (by omega), wrap_id (by omega) (by omega)]
  | m + 1, i, k + 1, h, hk => by
    have hi : i < L.length := by omega
    rw [P.quiverref17_Begin.l0, if_pos (by omega), if_pos (by omega), rd_get L i hi, List.drop_eq_getElem_cons hi, List.any_cons]
    by_cases h1 : (L[i]).f1 > start
    · rw [if_pos h1]
      simp [h1]
    · rw [if_neg h1, wrap_id (by omega) (by omega), show ((i : Int) + 1) = ((i + 1 : Nat) : Int) by omega, refbegin_l0 a start L hL ha m (i + 1) k (by omega) (by omega)]
      simp [h1]
theorem refbegin_is (k : Nat) (a start : Int) (l : List H) (hk : l.length + 1 ≤ k) (hr : right a l = true) (h0 : 0 ≤ start) : P.quiverref17_Begin.f k a l start = some ((beg a l start).1, (beg a l start).2.1, (beg a l start).2.2.2) := by
  unfold P.quiverref17_Begin.f beg
  obtain ⟨hl, h1, h2⟩ := right_len hr
  rw [if_pos hr]
  by_cases h3 : start > 1099511627776
  · rw [if_pos h3, if_pos (.inl h3)]
  rw [if_neg h3, show ((0 : Int)) = ((0 : Nat) : Int) by rfl, refbegin_l0 a start l (by omega) ⟨h1, h2⟩ l.length 0 k (by omega) (by omega), List.drop_zero]
  have hh := okFrom_hi a l 0 0 (right_ok hr)
  by_cases h4 : start < lastS 0 l
  · have : l.any (fun h => decide (h.f1 > start)) = true := by
      by_cases hz : 0 < l.length
      · rw [lastS_get l 0 hz] at h4
        exact List.any_eq_true.2 ⟨_, List.getElem_mem (by omega : l.length - 1 < l.length), by simpa using h4⟩
      · have : l = [] := List.length_eq_zero_iff.1 (by omega)
        subst this
        simp [lastS] at h4
        omega
    rw [if_pos this, if_pos (.inr (by simpa using h4))]
    rfl
  · have : ¬ l.any (fun h => decide (h.f1 > start)) = true := by
      intro h
      obtain ⟨x, hx, hx2⟩ := List.any_eq_true.1 h
      have := hh.2 x hx
      simp at hx2
      omega
    have hN : ¬ (start > 1099511627776 ∨ start < lastS ((0 : Nat) : Int) l) := by rintro (h | h); exact h3 h; exact h4 h
    rw [if_neg this, if_neg hN]
    by_cases h5 : l.length = 64 ∨ a = 1073741824
    · rw [if_pos h5, if_pos h5]; rfl
    · rw [if_neg h5, if_neg h5]; rfl

theorem wakes_is : P.quiverlaw17_wakes.f 300 = some true := by decide +kernel

end Go.Proofs.Ytfpicgefmgnfnaa.G
