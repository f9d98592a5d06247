/- What is taken, and its bytes: plain. -/
import Derived.Test.YtngjaaldidmgjaaD8
import Derived.Test.YtngjaaldidmgjaaPx4
namespace Go.Proofs.Ytngjaaldidmgjaa.G
open Go.Shelf Go.RowKit Go.Proofs.YtngjaaldidmgjaaW.PrintWords Go.Proofs.YtngjaaldidmgjaaW.PrintLast Go.Proofs.YtngjaaldidmgjaaW.PrintMore
set_option linter.unusedVariables false
set_option linter.unusedSimpArgs false

theorem wf_u8 {x : Int} (h : (Lit.int .u8 x).wf = true) : 0 ≤ x ∧ x ≤ 255 := by simpa [Lit.wf, IntKind.min, IntKind.max, IntKind.signed, IntKind.bits] using h
theorem takeVec_f (l : List Int) (hl : l.length ≤ 1000) (hby : ∀ x ∈ l, 0 ≤ x ∧ x ≤ 255) : codec_TakeVec.f l = some (tv l 0) := by
  unfold codec_TakeVec.f
  rw [if_pos ⟨(bytesOk_iff l).2 hby, by omega⟩, takeVR_is]
theorem takeRow_f (l : List Int) (hl : l.length ≤ 1000) (hby : ∀ x ∈ l, 0 ≤ x ∧ x ≤ 255) : codec_TakeRow.f l = some (tr l) := by
  unfold codec_TakeRow.f
  rw [if_pos ⟨(bytesOk_iff l).2 hby, by omega⟩, takeRR_is]
theorem takeVersion_f (l : List Int) (hl : l.length ≤ 1000) (hby : ∀ x ∈ l, 0 ≤ x ∧ x ≤ 255) : codec_TakeVersion.f l = some (tver l) := by
  unfold codec_TakeVersion.f
  rw [if_pos ⟨(bytesOk_iff l).2 hby, by omega⟩, takeVerR_is]
theorem tr_vlen (l : List Int) : (tr l).2.1.length ≤ 4 := by
  unfold tr
  split
  · exact tv_vlen l 8 right
  · simp
theorem tver_vlen (l : List Int) : (tver l).2.2.1.length ≤ 4 := by
  unfold tver
  split
  · split
    · exact tv_vlen l 16 right
    · simp
  · simp
theorem beq_l0 (l m : List Int) (hlm : l.length = m.length) (hl : l.length ≤ 9223372036854775807) : ∀ (d i k : Nat), i + d = l.length → d < k → P.slices_Equal_byte_byte.l0 k l m (l.length : Int) (i : Int) = some (decide (l.drop i = m.drop i))
  | 0, i, k + 1, h, _ => by
    rw [P.slices_Equal_byte_byte.l0, if_neg (by omega), List.drop_eq_nil_of_le (by omega), List.drop_eq_nil_of_le (by omega)]
    rfl
  | d + 1, i, k + 1, h, hk => by
    rw [P.slices_Equal_byte_byte.l0, if_pos (by omega), if_pos (by omega), if_pos (by omega), if_pos (by omega), rd_nat, rd_nat, drop_at l i 0 (by omega), drop_at m i 0 (by omega)]
    by_cases e : l.getD i 0 = m.getD i 0
    · rw [if_pos e, w64 (by omega) (by omega), show ((i : Int) + 1) = ((i + 1 : Nat) : Int) by omega, beq_l0 l m hlm hl d (i + 1) k (by omega) (by omega), e]
      simp
    · rw [if_neg e, decide_eq_false (fun h => e (List.cons.inj h).1)]
theorem beq_is (k : Nat) (l m : List Int) (hk : l.length < k) (hl : l.length ≤ 9223372036854775807) : P.slices_Equal_byte_byte.f k l m = some (decide (l = m)) := by
  unfold P.slices_Equal_byte_byte.f
  by_cases h : l.length = m.length
  · rw [if_pos (by omega)]
    have := beq_l0 l m h hl l.length 0 k (by omega) (by omega)
    rw [List.drop_zero, List.drop_zero] at this
    rw [show (0 : Int) = ((0 : Nat) : Int) from rfl, this]
  · rw [if_neg (by omega)]
    have : l ≠ m := fun e => h (by rw [e])
    simp [this]
/-- A vector that was taken may be, and its bytes are those that were. -/
theorem tv_at (l : List Int) (pl : Nat) (hby : ∀ x ∈ l, 0 ≤ x ∧ x ≤ 255) (h : (tv l pl).2.2 = 0) : right (tv l pl).1 = true ∧ ∃ m : Nat, (tv l pl).2.1 = (m : Int) ∧ pl ≤ m ∧ m ≤ l.length ∧ vecB (tv l pl).1 = (l.drop pl).take (m - pl) ∧ m ≤ pl + 17 := by
  obtain ⟨h1, h2, h3, h4, h5⟩ := tvg_range l pl right h
  have e := vecB_tvg l pl hby h1 h2 h3
  unfold tv
  rw [h5]
  exact ⟨h4, _, rfl, by omega, by omega, by rw [show pl + 1 + 4 * (l.getD pl 0).toNat - pl = 1 + 4 * (l.getD pl 0).toNat by omega]; exact e, by omega⟩
theorem tv_ok (l : List Int) (hby : ∀ x ∈ l, 0 ≤ x ∧ x ≤ 255) (h : (tv l 0).2.2 = 0) : right (tv l 0).1 = true ∧ 0 ≤ (tv l 0).2.1 ∧ (tv l 0).2.1 ≤ (l.length : Int) ∧ (vecB (tv l 0).1).length ≤ 40 ∧ vecB (tv l 0).1 = l.take ((tv l 0).2.1).toNat := by
  obtain ⟨h1, m, h2, h3, h4, h5, h6⟩ := tv_at l 0 hby h
  rw [h2, h5, Int.toNat_natCast, List.drop_zero, Nat.sub_zero]
  exact ⟨h1, by omega, by omega, by rw [List.length_take]; omega, rfl⟩
theorem put8 (l : List Int) (hl : l.length = 8) (hby : ∀ x ∈ l, 0 ≤ x ∧ x ≤ 255) : putBytes 8 (num l) = l := put_num 8 l (by decide) hl hby
theorem tr_ok (l : List Int) (hby : ∀ x ∈ l, 0 ≤ x ∧ x ≤ 255) (h : (tr l).2.2.2 = 0) : right (tr l).2.1 = true ∧ 0 ≤ (tr l).2.2.1 ∧ (tr l).2.2.1 ≤ (l.length : Int) ∧ (rowB (tr l).1 (tr l).2.1).length ≤ 40 ∧ rowB (tr l).1 (tr l).2.1 = l.take ((tr l).2.2.1).toNat := by
  unfold tr at h ⊢
  by_cases hz : (tv l 8).2.2 = 0
  · rw [if_pos hz]
    obtain ⟨h1, m, h2, h3, h4, h5, h6⟩ := tv_at l 8 hby hz
    have e : rowB (num (l.take 8)) (tv l 8).1 = l.take m := by
      rw [rowB, h5, put8 (l.take 8) (by rw [List.length_take]; omega) (fun x hx => hby x (List.mem_of_mem_take hx))]
      rw [show m = 8 + (m - 8) by omega, List.take_add, show 8 + (m - 8) - 8 = m - 8 by omega]
    rw [h2, e, Int.toNat_natCast]
    exact ⟨h1, by omega, by omega, by rw [List.length_take]; omega, rfl⟩
  · rw [if_neg hz] at h
    exact absurd h hz
theorem tver_ok (l : List Int) (hby : ∀ x ∈ l, 0 ≤ x ∧ x ≤ 255) (h : (tver l).2.2.2.2 = 0) : rightVer (tver l).1 (tver l).2.1 (tver l).2.2.1 = true ∧ 0 ≤ (tver l).2.2.2.1 ∧ (tver l).2.2.2.1 ≤ (l.length : Int) ∧ (verB (tver l).1 (tver l).2.1 (tver l).2.2.1).length ≤ 40 ∧ verB (tver l).1 (tver l).2.1 (tver l).2.2.1 = l.take ((tver l).2.2.2.1).toNat := by
  unfold tver at h ⊢
  by_cases hz : (tv l 16).2.2 = 0
  · rw [if_pos hz] at h ⊢
    by_cases hr : rightVer (num (l.take 8)) (num ((l.drop 8).take 8)) (tv l 16).1 = true
    · rw [if_pos hr]
      obtain ⟨h1, m, h2, h3, h4, h5, h6⟩ := tv_at l 16 hby hz
      have e : verB (num (l.take 8)) (num ((l.drop 8).take 8)) (tv l 16).1 = l.take m := by
        rw [verB, h5, put8 (l.take 8) (by rw [List.length_take]; omega) (fun x hx => hby x (List.mem_of_mem_take hx)), put8 ((l.drop 8).take 8) (by rw [List.length_take, List.length_drop]; omega) (fun x hx => hby x (List.mem_of_mem_drop (List.mem_of_mem_take hx))), ← show l.take 16 = l.take 8 ++ (l.drop 8).take 8 from List.take_add (i := 8) (j := 8)]
        rw [show m = 16 + (m - 16) by omega, List.take_add, show 16 + (m - 16) - 16 = m - 16 by omega]
      rw [h2, e, Int.toNat_natCast]
      exact ⟨hr, by omega, by omega, by rw [List.length_take]; omega, rfl⟩
    · rw [if_neg hr] at h
      exact absurd h (by decide)
  · rw [if_neg hz] at h
    exact absurd h hz
theorem tver_no (l : List Int) (h : ¬ (tver l).2.2.2.2 = 0) : tver l = (0, 0, [], 0, (tver l).2.2.2.2) := by
  unfold tver at h ⊢
  by_cases hz : (tv l 16).2.2 = 0
  · rw [if_pos hz] at h ⊢
    by_cases hr : rightVer (num (l.take 8)) (num ((l.drop 8).take 8)) (tv l 16).1 = true
    · rw [if_pos hr] at h; exact absurd rfl h
    · rw [if_neg hr]
  · rw [if_neg hz]

end Go.Proofs.Ytngjaaldidmgjaa.G
