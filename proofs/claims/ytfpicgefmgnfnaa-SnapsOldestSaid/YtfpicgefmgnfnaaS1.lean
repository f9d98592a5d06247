/- What the printed functions of the snapshots compute: plain. -/
import Derived.Test.YtfpicgefmgnfnaaG2
import Derived.Test.YtfpicgefmgnfnaaPx2
namespace Go.Proofs.Ytfpicgefmgnfnaa.G
open Go.RowKit Go.Proofs.YtfpicgefmgnfnaaW.PrintWords Go.Proofs.YtfpicgefmgnfnaaW.PrintLast Go.Proofs.YtfpicgefmgnfnaaW.PrintMore
set_option linter.unusedVariables false
set_option linter.unusedSimpArgs false

theorem wrap_id {i : Int} (h0 : -9223372036854775808 ≤ i) (h1 : i < 9223372036854775808) : wrap64 i = i := by unfold wrap64; omega
theorem rd_get (l : List H) (i : Nat) (hi : i < l.length) : P.rd_T33 l (i : Int) = l[i] := by simp [P.rd_T33, List.getD, hi]

/-- From a last handle on: numbers rise and are less than next, starts do not fall and are not too great. -/
def okFrom (next : Int) : Int → Int → List H → Bool
  | _, _, [] => true
  | n, s, h :: l => if h.f0 ≤ n then false else if h.f0 ≥ next then false else if h.f1 < s then false else if h.f1 > 1099511627776 then false else okFrom next h.f0 h.f1 l
/-- May snapshots be? -/
def right (a : Int) (l : List H) : Bool := if a < 1 then false else if a > 1073741824 then false else if (l.length : Int) > 64 then false else okFrom a 0 0 l

theorem check_l0 (a : Int) (L : List H) (hL : L.length ≤ 64) : ∀ (m i k : Nat) (n s : Int), L.length = i + m → m + 1 ≤ k →
    P.snaps_Check.l0 k L (L.length : Int) (i : Int) a L n s = some (if okFrom a n s (L.drop i) then 0 else 270)
  | 0, i, k + 1, n, s, h, _ => by
    have : L.drop i = [] := List.drop_eq_nil_of_le (by omega)
    rw [P.snaps_Check.l0, if_neg (by omega), this]
    simp [okFrom]
  | m + 1, i, k + 1, n, s, h, hk => by
    have hi : i < L.length := by omega
    rw [P.snaps_Check.l0, if_pos (by omega), if_pos (by omega), if_pos (by omega), rd_get L i hi, List.drop_eq_getElem_cons hi, okFrom]
    split
    · simp
    split
    · simp
    split
    · simp
    split
    · simp
    rw [wrap_id (by omega) (by omega), show ((i : Int) + 1) = ((i + 1 : Nat) : Int) by omega, check_l0 a L hL m (i + 1) k _ _ (by omega) (by omega)]

theorem check_is (k : Nat) (a : Int) (l : List H) (hk : l.length + 3 ≤ k) : P.snaps_Check.f k a l = some (if right a l then 0 else 270) := by
  obtain ⟨k, rfl⟩ : ∃ m, k = m + 1 := ⟨k - 1, by omega⟩
  unfold P.snaps_Check.f right
  by_cases h1 : a < 1
  · simp [h1, P.snaps_Check.j0]
  by_cases h2 : a > 1073741824
  · simp [h1, h2, P.snaps_Check.j0]
  by_cases h3 : (l.length : Int) > 64
  · simp [h1, h2, h3, P.snaps_Check.j0]
  rw [if_neg h1, if_neg h2, if_neg h1, if_neg h2, if_neg h3, P.snaps_Check.j0, if_neg (by simp; omega)]
  exact check_l0 a l (by omega) l.length 0 k 0 0 (by omega) (by omega)
theorem right_len {a : Int} {l : List H} (h : right a l = true) : l.length ≤ 64 ∧ 1 ≤ a ∧ a ≤ 1073741824 := by
  unfold right at h
  split at h
  · cases h
  split at h
  · cases h
  split at h
  · cases h
  omega

end Go.Proofs.Ytfpicgefmgnfnaa.G
