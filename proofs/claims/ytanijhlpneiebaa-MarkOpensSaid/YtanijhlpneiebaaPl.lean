/- The first place at which two rows differ: what mark.Place and bytes.Equal tell: plain. -/
import Derived.Test.YtanijhlpneiebaaG10
import Derived.Lib.Bytes
namespace Go.Proofs.Ytanijhlpneiebaa.G
open Go.RowKit Go.Proofs.YtanijhlpneiebaaW.PrintWords Go.Proofs.YtanijhlpneiebaaW.PrintLast Go.Proofs.YtanijhlpneiebaaW.PrintMore
set_option linter.unusedVariables false
set_option linter.unusedSimpArgs false

theorem wrap_idM {i : Int} (h0 : -9223372036854775808 ≤ i) (h1 : i < 9223372036854775808) : wrap64 i = i := by unfold wrap64; omega
theorem rd_getM (l : List Int) (i : Nat) (hi : i < l.length) : rd l (i : Int) = l[i] := by simp [rd, List.getD, hi]
/-- The first place at which two rows differ; -1: none. -/
def fd : List Int → List Int → Int → Int
  | x :: l, y :: m, i => if x = y then fd l m (i + 1) else i
  | [], [], _ => -1
  | _, _, i => i
theorem fd_comm : ∀ (l m : List Int) (i : Int), fd l m i = fd m l i
  | [], [], _ => rfl
  | [], _ :: _, _ => rfl
  | _ :: _, [], _ => rfl
  | x :: l, y :: m, i => by
    simp only [fd]
    by_cases h : x = y
    · rw [if_pos h, if_pos h.symm, fd_comm l m]
    · rw [if_neg h, if_neg (fun e => h e.symm)]
theorem fd_spec : ∀ (l m : List Int) (i : Int), (l = m ∧ fd l m i = -1) ∨ (l ≠ m ∧ ∃ q : Nat, fd l m i = i + q ∧ q ≤ l.length ∧ q ≤ m.length ∧ l.take q = m.take q ∧ ((q = l.length ∨ q = m.length) ∨ (q < l.length ∧ q < m.length ∧ l.getD q 0 ≠ m.getD q 0)))
  | [], [], _ => .inl ⟨rfl, rfl⟩
  | [], y :: m, i => .inr ⟨by simp, 0, by simp [fd], by simp, by simp, rfl, .inl (.inl rfl)⟩
  | x :: l, [], i => .inr ⟨by simp, 0, by simp [fd], by simp, by simp, rfl, .inl (.inr rfl)⟩
  | x :: l, y :: m, i => by
    simp only [fd]
    by_cases h : x = y
    · subst h
      rw [if_pos rfl]
      rcases fd_spec l m (i + 1) with ⟨rfl, h2⟩ | ⟨h1, q, h2, h3, h4, h5, h6⟩
      · exact .inl ⟨rfl, h2⟩
      · refine .inr ⟨by simpa using h1, q + 1, by omega, by simp; omega, by simp; omega, by simp [h5], ?_⟩
        rcases h6 with (h6 | h6) | ⟨h6, h7, h8⟩
        · exact .inl (.inl (by simp [h6]))
        · exact .inl (.inr (by simp [h6]))
        · exact .inr ⟨by simp; omega, by simp; omega, by simpa using h8⟩
    · rw [if_neg h]
      exact .inr ⟨by simp [h], 0, by simp, by simp, by simp, rfl, .inr ⟨by simp, by simp, by simpa using h⟩⟩
theorem place_l0M (l m : List Int) (hl : l.length ≤ 9223372036854775807) (hm : m.length ≤ 9223372036854775807) : ∀ (d i k : Nat), i + d = min l.length m.length → d + 1 ≤ k →
    P.mark_Place.l0 k l m (mn (l.length : Int) (m.length : Int)) (mn (l.length : Int) (m.length : Int)) (i : Int) = some (fd (l.drop i) (m.drop i) i)
  | 0, i, k + 1, h, _ => by
    have hmn : mn (l.length : Int) (m.length : Int) = i := by unfold mn; split <;> omega
    rw [P.mark_Place.l0, hmn, if_neg (by omega)]
    by_cases e : l.length = m.length
    · rw [if_pos (by omega), List.drop_eq_nil_of_le (by omega), List.drop_eq_nil_of_le (by omega)]
      rfl
    · rw [if_neg (by omega)]
      rcases Nat.lt_or_ge l.length m.length with h1 | h1
      · rw [List.drop_eq_nil_of_le (show l.length ≤ i by omega), List.drop_eq_getElem_cons (show i < m.length by omega)]
        rfl
      · rw [List.drop_eq_nil_of_le (show m.length ≤ i by omega), List.drop_eq_getElem_cons (show i < l.length by omega)]
        rfl
  | d + 1, i, k + 1, h, hk => by
    have hi : i < l.length := by omega
    have hi' : i < m.length := by omega
    have hmn : (i : Int) < mn (l.length : Int) (m.length : Int) := by unfold mn; split <;> omega
    rw [P.mark_Place.l0, if_pos hmn, if_pos (by omega), if_pos (by omega), if_pos (by omega), rd_getM l i hi, rd_getM m i hi', List.drop_eq_getElem_cons hi, List.drop_eq_getElem_cons hi', fd]
    by_cases e : l[i] = m[i]
    · rw [if_pos e, if_pos e, wrap_idM (by omega) (by omega), show ((i : Int) + 1) = ((i + 1 : Nat) : Int) by omega]
      exact place_l0M l m hl hm d (i + 1) k (by omega) (by omega)
    · rw [if_neg e, if_neg e]
theorem place_isM (k : Nat) (l m : List Int) (hl : l.length ≤ 9223372036854775807) (hm : m.length ≤ 9223372036854775807) (hk : l.length + m.length + 1 ≤ k) : P.mark_Place.f k l m = some (fd l m 0) := by
  unfold P.mark_Place.f
  exact place_l0M l m hl hm (min l.length m.length) 0 k (by omega) (by omega)
theorem bytes_inj : ∀ (l m : List Int), (∀ x ∈ l, 0 ≤ x ∧ x ≤ 255) → (∀ x ∈ m, 0 ≤ x ∧ x ≤ 255) → Lib.bytesOf l = Lib.bytesOf m → l = m
  | [], [], _, _, _ => rfl
  | [], y :: m, _, _, h => by simp [Lib.bytesOf] at h
  | x :: l, [], _, _, h => by simp [Lib.bytesOf] at h
  | x :: l, y :: m, hl, hm, h => by
    have hx := hl x (by simp)
    have hy := hm y (by simp)
    have h' : x.toNat.toUInt8 :: Lib.bytesOf l = y.toNat.toUInt8 :: Lib.bytesOf m := h
    injection h' with h1 h2
    have := bytes_inj l m (fun z hz => hl z (by simp [hz])) (fun z hz => hm z (by simp [hz])) h2
    have h3 := congrArg UInt8.toNat h1
    rw [UInt8.toNat_ofNat', UInt8.toNat_ofNat'] at h3
    rw [this, show x = y by omega]
theorem equal_isM (l m : List Int) (hl : ∀ x ∈ l, 0 ≤ x ∧ x ≤ 255) (hm : ∀ x ∈ m, 0 ≤ x ∧ x ≤ 255) : P.bytes_Equal.f l m = some (decide (l = m)) := by
  unfold P.bytes_Equal.f
  rw [Lib.strOfNums_toList, Lib.strOfNums_toList]
  by_cases h : l = m
  · subst h; simp
  · have : Lib.bytesOf l ≠ Lib.bytesOf m := fun e => h (bytes_inj l m hl hm e)
    simp [h, this]

theorem wf_u8M {x : Int} (h : (Lit.int .u8 x).wf = true) : 0 ≤ x ∧ x ≤ 255 := by simpa [Lit.wf, IntKind.min, IntKind.max, IntKind.signed, IntKind.bits] using h

end Go.Proofs.Ytanijhlpneiebaa.G
