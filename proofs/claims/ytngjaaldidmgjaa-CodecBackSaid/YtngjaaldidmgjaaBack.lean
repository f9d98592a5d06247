/- quiverlaw07.CodecBack answers true for every row, version and tail. -/
import Derived.Test.YtngjaaldidmgjaaW7
import Derived.Test.YtngjaaldidmgjaaPxBack
namespace Go.Proofs.Ytngjaaldidmgjaa.G
open Go.Shelf Go.RowKit Go.Proofs.YtngjaaldidmgjaaW.PrintWords Go.Proofs.YtngjaaldidmgjaaW.PrintLast Go.Proofs.YtngjaaldidmgjaaW.PrintMore
set_option linter.unusedVariables false
set_option linter.unusedSimpArgs false

theorem back_l1 (b e : Int) (v : List Int) (h : rightVer b e v = true) (hv : v.length ≤ 4) : ∀ (d i k : Nat), i + d = (verB b e v).length → d < k → P.quiverlaw07_CodecBack.l1 k (verB b e v) ((verB b e v).length : Int) (i : Int) = some true
  | 0, i, k + 1, hi, _ => by rw [P.quiverlaw07_CodecBack.l1, if_neg (by omega)]
  | d + 1, i, k + 1, hi, hk => by
    have hl := verB_len b e v
    rw [P.quiverlaw07_CodecBack.l1, if_pos (by omega), if_pos (by omega), if_pos (by omega), Int.toNat_natCast, takeVersion_f _ (by rw [List.length_take]; omega) (fun x hx => verB_range b e v x (List.mem_of_mem_take hx)), Option.bind_some, if_pos (tver_short b e v (rightVer_right h) i (by omega)), w64 (by omega) (by omega), show ((i : Int) + 1) = ((i + 1 : Nat) : Int) by omega]
    exact back_l1 b e v h hv d (i + 1) k (by omega) (by omega)
theorem back_j3 (t : List Int) (b e : Int) (v : List Int) (ht : t.length ≤ 100) (hby : ∀ x ∈ t, 0 ≤ x ∧ x ≤ 255) (h0 : 0 ≤ b) (h1 : b ≤ 18446744073709551615) (h2 : 0 ≤ e) (h3 : e ≤ 18446744073709551615) (k : Nat) (hk : 50 ≤ k) : P.quiverlaw07_CodecBack.j3 k t b e v = some true := by
  obtain ⟨k, rfl⟩ : ∃ q, k = q + 2 := ⟨k - 2, by omega⟩
  rw [P.quiverlaw07_CodecBack.j3, codec_Version.f]
  by_cases h : rightVer b e v = true
  · have hl := verB_len b e v
    have hv := (right_range (rightVer_right h)).1
    rw [if_pos h, Option.bind_some, if_pos rfl]
    dsimp only
    rw [slices_Clone.f, if_pos (by omega), Option.bind_some, if_pos (by omega), takeVersion_f _ (by rw [List.length_append]; omega) (fun x hx => by
      rw [List.mem_append] at hx
      rcases hx with hx | hx
      · exact verB_range b e v x hx
      · exact hby x hx), tver_back b e v t h h0 h1 h2 h3, Option.bind_some, if_pos rfl]
    dsimp only
    rw [if_pos rfl, codec_SameVersion.f, Option.bind_some, decide_eq_true ⟨rfl, rfl, rfl⟩, Bool.not_true, P.quiverlaw07_CodecBack.j4, if_neg (by decide)]
    exact back_l1 b e v h hv.2 (verB b e v).length 0 k (by omega) (by omega)
  · rw [if_neg h, Option.bind_some, if_neg (by decide)]
    rfl
theorem back_l0 (t : List Int) (b e : Int) (w : List Int) (ht : t.length ≤ 100) (hby : ∀ x ∈ t, 0 ≤ x ∧ x ≤ 255) (h0 : 0 ≤ b) (h1 : b ≤ 18446744073709551615) (h2 : 0 ≤ e) (h3 : e ≤ 18446744073709551615) (id : Int) (v : List Int) (h : right v = true) (hv : v.length ≤ 4) :
    ∀ (d i k : Nat), i + d = (rowB id v).length → d + 51 < k → P.quiverlaw07_CodecBack.l0 k t (rowB id v) ((rowB id v).length : Int) (i : Int) b e w = some true
  | 0, i, k + 1, hi, hk => by
    rw [P.quiverlaw07_CodecBack.l0, if_neg (by omega)]
    exact back_j3 t b e w ht hby h0 h1 h2 h3 k (by omega)
  | d + 1, i, k + 1, hi, hk => by
    have hl := rowB_len id v
    rw [P.quiverlaw07_CodecBack.l0, if_pos (by omega), if_pos (by omega), if_pos (by omega), Int.toNat_natCast, takeRow_f _ (by rw [List.length_take]; omega) (fun x hx => rowB_range id v x (List.mem_of_mem_take hx)), Option.bind_some, if_pos (tr_short id v h i (by omega)), w64 (by omega) (by omega), show ((i : Int) + 1) = ((i + 1 : Nat) : Int) by omega]
    exact back_l0 t b e w ht hby h0 h1 h2 h3 id v h hv d (i + 1) k (by omega) (by omega)
theorem psamerow_is (k : Nat) (a : Int) (l : List Int) (c : Int) (m : List Int) (hk : l.length < k) (hl : l.length ≤ 9223372036854775807) : P.codec_SameRow.f k a l c m = some (decide (a = c ∧ l = m)) := by
  unfold P.codec_SameRow.f
  rw [same_is k l m hk hl, Option.bind_some]
  by_cases h1 : a = c
  · rw [if_pos h1]; simp [h1]
  · rw [if_neg h1]; simp [h1]
theorem back_pure (id : Int) (v : List Int) (b e : Int) (w t : List Int) (hby : ∀ x ∈ t, 0 ≤ x ∧ x ≤ 255) (hi0 : 0 ≤ id) (hi1 : id ≤ 18446744073709551615) (h0 : 0 ≤ b) (h1 : b ≤ 18446744073709551615) (h2 : 0 ≤ e) (h3 : e ≤ 18446744073709551615) :
    P.quiverlaw07_CodecBack.f 150 id v b e w t = some true := by
  have hj : ∀ x, P.quiverlaw07_CodecBack.j0 150 t true id v b e x = some true := fun x => by rw [P.quiverlaw07_CodecBack.j0, if_pos rfl]
  unfold P.quiverlaw07_CodecBack.f
  rw [wakes07_is, Option.bind_some, if_pos rfl]
  split
  · exact hj w
  · split
    · exact hj w
    · by_cases ht : (t.length : Int) > 100
      · rw [decide_eq_true ht]; exact hj w
      · rw [decide_eq_false ht, P.quiverlaw07_CodecBack.j0, if_neg (by decide), codec_Row.f]
        by_cases h : right v = true
        · have hl := rowB_len id v
          have hv := (right_range h).1
          rw [if_pos h, Option.bind_some, if_pos rfl]
          dsimp only
          rw [slices_Clone.f, if_pos (by omega), Option.bind_some, if_pos (by omega), takeRow_f _ (by rw [List.length_append]; omega) (fun x hx => by
            rw [List.mem_append] at hx
            rcases hx with hx | hx
            · exact rowB_range id v x hx
            · exact hby x hx), tr_back id v t h hi0 hi1, Option.bind_some, if_pos rfl]
          dsimp only
          rw [if_pos rfl, psamerow_is 149 _ _ _ _ (by omega) (by omega), Option.bind_some, decide_eq_true ⟨rfl, rfl⟩, Bool.not_true, P.quiverlaw07_CodecBack.j1, if_neg (by decide)]
          exact back_l0 t b e w (by omega) hby h0 h1 h2 h3 id v h hv.2 (rowB id v).length 0 148 (by omega) (by omega)
        · rw [if_neg h, Option.bind_some, if_neg (by decide)]
          exact back_j3 t b e w (by omega) hby h0 h1 h2 h3 149 (by omega)

theorem codecBack.walk (x : Int × List Int) (cs : Array Value) (y : Int × Int × List Int) (ds : Array Value) (A : Option Addr) (c : Nat) (l : List Int) (W : World) (hK : kRow.K W x cs.toList) (wx : wRow x) (hV : kVer.K W y ds.toList) (wy : wVer y) (hl : l.length ≤ c) (hC : Kd.C (Kd.int .u8) W A l.length l) (hw : ∀ x ∈ l, (Lit.int .u8 x).wf = true) :
    Calls Try.prog 8 #[.agg cs, .agg ds, .slice A l.length c] W fun e w' => e = .returned (.bool true) ∧ Below W.heap.size W w' := by
  obtain ⟨A0, c0, rfl, h0, hC0⟩ := kRow_open hK
  obtain ⟨A1, c1, rfl, h1, hC1⟩ := kVer_open hV
  exact P.quiverlaw07_CodecBack.calls 150 x.1 A0 c0 x.2 y.1 y.2.1 A1 c1 y.2.2 A c l true W hC0 h0 hC1 h1 hC hl (back_pure x.1 x.2 y.1 y.2.1 y.2.2 l (fun x hx => wf_u8 (hw x hx)) (wf_u64 wx.1).1 (wf_u64 wx.1).2 (wf_u64 wy.1).1 (wf_u64 wy.1).2 (wf_u64 wy.2.1).1 (wf_u64 wy.2.1).2)

end Go.Proofs.Ytngjaaldidmgjaa.G
