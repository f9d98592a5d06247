/- quiverlaw07.CodecLays answers true for every row and two versions. -/
import Derived.Test.YtngjaaldidmgjaaD7
import Derived.Test.YtngjaaldidmgjaaD8a
import Derived.Test.YtngjaaldidmgjaaW7
import Derived.Test.YtngjaaldidmgjaaPx3
import Derived.Test.YtngjaaldidmgjaaPxLays
namespace Go.Proofs.Ytngjaaldidmgjaa.G
open Go.Shelf Go.RowKit Go.Proofs.YtngjaaldidmgjaaW.PrintWords Go.Proofs.YtngjaaldidmgjaaW.PrintLast Go.Proofs.YtngjaaldidmgjaaW.PrintMore
set_option linter.unusedVariables false
set_option linter.unusedSimpArgs false

theorem high_l0 (s : Nat) (hs : s ≤ 8) (x : Int) : ∀ (i k : Nat) (acc : List Int), i ≤ s → i < k → acc.length + i ≤ 1000 → P.quiverref07_high.l0 k x acc ((i : Int) - 1) = some (acc ++ putFrom s x (s - i))
  | 0, k + 1, acc, hi, _, hl => by
    rw [P.quiverref07_high.l0, if_neg (by omega), Nat.sub_zero, putFrom_end, List.append_nil]
  | i + 1, k + 1, acc, hi, hk, hl => by
    have e0 : ((i + 1 : Nat) : Int) - 1 = (i : Int) := by omega
    have e1 : wrap64 (8 * (i : Int)) = ((8 * i : Nat) : Int) := by rw [w64 (by omega) (by omega)]; omega
    have e3 : shr .u64 x ((8 * i : Nat) : Int) % 256 = byteAt s x (s - (i + 1)) := by
      unfold shr byteAt
      rw [Int.toNat_natCast, Nat.min_eq_left (show 8 * i ≤ IntKind.u64.bits from by have : IntKind.u64.bits = 64 := rfl; omega), show s - 1 - (s - (i + 1)) = i by omega]
    rw [e0, P.quiverref07_high.l0, if_pos (by omega), e1, if_pos (by omega), if_pos (by omega), e3, w64 (by omega) (by omega),
      high_l0 s hs x i k (acc ++ [byteAt s x (s - (i + 1))]) (by omega) (by omega) (by rw [List.length_append, List.length_singleton]; omega), List.append_assoc, List.singleton_append, show s - i = s - (i + 1) + 1 by omega, ← putFrom_step s x (s - (i + 1)) (by omega)]
theorem high_is (s : Nat) (h1 : 1 ≤ s) (hs : s ≤ 8) (x : Int) (k : Nat) (hk : 9 ≤ k) : P.quiverref07_high.f k x (s : Int) = some (putBytes s x) := by
  unfold P.quiverref07_high.f putBytes
  rw [w64 (by omega) (by omega), high_l0 s hs x s k [] (Nat.le_refl _) (by omega) (by simp; omega), List.nil_append, Nat.sub_self, if_pos (isSize_iff.2 (by omega)), Int.toNat_natCast]
theorem numB_high (x : Int) (k : Nat) (hk : 9 ≤ k) : P.quiverref07_high.f k (x % 4294967296) 4 = some (numB x) := by
  rw [show (4 : Int) = ((4 : Nat) : Int) from rfl, high_is 4 (by omega) (by omega) _ k hk]
  unfold numB
  rw [IntKind.wrap_u64]
  have h := put4_add (x % 4294967296) (x % 18446744073709551616 / 4294967296)
  rw [show x % 4294967296 + 4294967296 * (x % 18446744073709551616 / 4294967296) = x % 18446744073709551616 by omega] at h
  exact congrArg some h.symm
theorem rvec_l0 (v : List Int) (hv : v.length ≤ 1000) : ∀ (d i k : Nat) (acc : List Int), i + d = v.length → d + 12 ≤ k → acc.length + 4 * d ≤ 10000 → P.quiverref07_Vec.l0 k v acc (i : Int) = some (acc ++ vecT (v.drop i))
  | 0, i, k + 1, acc, hi, _, hl => by
    rw [P.quiverref07_Vec.l0, if_neg (by omega), List.drop_eq_nil_of_le (by omega)]
    simp [vecT]
  | d + 1, i, k + 1, acc, hi, hk, hl => by
    rw [P.quiverref07_Vec.l0, if_pos (by omega), if_pos (by omega), rd_nat, numB_high _ k (by omega), Option.bind_some, if_pos (by rw [numB_len]; omega), w64 (by omega) (by omega), show ((i : Int) + 1) = ((i + 1 : Nat) : Int) by omega,
      rvec_l0 v hv d (i + 1) k _ (by omega) (by omega) (by rw [List.length_append, numB_len]; omega), drop_at v i 0 (by omega), List.append_assoc]
    unfold vecT
    rw [List.map_cons, List.flatten_cons]
theorem rvec_is (v : List Int) (hv : v.length ≤ 1000) (k : Nat) (hk : v.length + 12 ≤ k) : P.quiverref07_Vec.f k v = some (vecB v) := by
  unfold P.quiverref07_Vec.f
  rw [show (0 : Int) = ((0 : Nat) : Int) from rfl, rvec_l0 v hv v.length 0 k _ (by omega) hk (by simp; omega), List.drop_zero, vecB]
  rfl
theorem rrow_is (id : Int) (v : List Int) (hv : v.length ≤ 1000) (k : Nat) (hk : v.length + 12 ≤ k) : P.quiverref07_Row.f k id v = some (rowB id v) := by
  unfold P.quiverref07_Row.f
  rw [show (8 : Int) = ((8 : Nat) : Int) from rfl, high_is 8 (by omega) (by omega) id k (by omega), Option.bind_some, rvec_is v hv k hk, Option.bind_some, if_pos (by rw [vecB_len]; have := put8_len id; rw [show ((8 : Nat) : Int) = (8 : Int) from rfl, this]; omega)]
  rfl
theorem rver_is (b e : Int) (v : List Int) (hv : v.length ≤ 1000) (k : Nat) (hk : v.length + 12 ≤ k) : P.quiverref07_Version.f k b e v = some (verB b e v) := by
  unfold P.quiverref07_Version.f
  rw [show (8 : Int) = ((8 : Nat) : Int) from rfl, high_is 8 (by omega) (by omega) b k (by omega), Option.bind_some, high_is 8 (by omega) (by omega) e k (by omega), Option.bind_some]
  rw [show ((8 : Nat) : Int) = (8 : Int) from rfl, if_pos (by rw [put8_len, put8_len]; omega), Option.bind_some, rvec_is v hv k hk, Option.bind_some, if_pos (by rw [List.length_append, put8_len, put8_len, vecB_len]; omega)]
  rfl
theorem sbytes_l0 (l m : List Int) (hlm : l.length = m.length) (hl : l.length ≤ 9223372036854775807) : ∀ (d i k : Nat), i + d = l.length → d < k → P.quiverref07_SameBytes.l0 k l m (i : Int) = some (decide (l.drop i = m.drop i))
  | 0, i, k + 1, h, _ => by
    rw [P.quiverref07_SameBytes.l0, if_neg (by omega), List.drop_eq_nil_of_le (by omega), List.drop_eq_nil_of_le (by omega)]
    rfl
  | d + 1, i, k + 1, h, hk => by
    rw [P.quiverref07_SameBytes.l0, if_pos (by omega), if_pos (by omega), if_pos (by omega), rd_nat, rd_nat, drop_at l i 0 (by omega), drop_at m i 0 (by omega)]
    by_cases e : l.getD i 0 = m.getD i 0
    · rw [if_pos e, w64 (by omega) (by omega), show ((i : Int) + 1) = ((i + 1 : Nat) : Int) by omega, sbytes_l0 l m hlm hl d (i + 1) k (by omega) (by omega), e]
      simp
    · rw [if_neg e, decide_eq_false (fun h => e (List.cons.inj h).1)]
theorem sbytes_is (k : Nat) (l : List Int) (hk : l.length < k) (hl : l.length ≤ 9223372036854775807) : P.quiverref07_SameBytes.f k l l = some true := by
  unfold P.quiverref07_SameBytes.f
  rw [if_pos rfl]
  have := sbytes_l0 l l rfl hl l.length 0 k (by omega) (by omega)
  rw [show (0 : Int) = ((0 : Nat) : Int) from rfl, this, decide_eq_true rfl]
theorem ckrow2_is (id : Int) (v : List Int) : P.codec_CheckRow.f id v = some (if right v = true then 0 else 170) := by
  unfold P.codec_CheckRow.f vec_Check.f checkV
  by_cases h : right v = true
  · rw [if_pos h, if_pos h]; rfl
  · rw [if_neg h, if_neg h]; rfl
theorem prow_is (k : Nat) (a : Int) (l : List Int) (c : Int) (m : List Int) (hk : l.length < k) (hl : l.length ≤ 9223372036854775807) : P.codec_SameRow.f k a l c m = some (decide (a = c ∧ l = m)) := by
  unfold P.codec_SameRow.f
  rw [same_is k l m hk hl, Option.bind_some]
  by_cases h1 : a = c
  · rw [if_pos h1]; simp [h1]
  · rw [if_neg h1]; simp [h1]
theorem lays_j2 (b e : Int) (v : List Int) (hv : v.length ≤ 100) (k : Nat) (hk : 200 ≤ k) : P.lawLays.j2 k (if rightVer b e v = true then verB b e v else []) (if rightVer b e v = true then 0 else 171) (if rightVer b e v = true then 0 else 171) b e v = some true := by
  obtain ⟨k, rfl⟩ : ∃ q, k = q + 1 := ⟨k - 1, by omega⟩
  rw [P.lawLays.j2, refver_is k b e v (by omega) (by omega), Option.bind_some]
  by_cases h : rightVer b e v = true
  · have hr := (right_range (rightVer_right h)).1
    simp only [if_pos h, if_true]
    rw [rver_is b e v (by omega) k (by omega), Option.bind_some, sbytes_is k _ (by rw [verB_len]; omega) (by rw [verB_len]; omega), Option.bind_some]
  · simp only [if_neg h, if_true]
    rw [if_pos (by rfl)]
    rfl
theorem lays_j1 (id : Int) (u : List Int) (b e : Int) (v : List Int) (hu : u.length ≤ 100) (hv : v.length ≤ 100) (k : Nat) (hk : 201 ≤ k) : P.lawLays.j1 k (if right u = true then vecB u else []) (if right u = true then 0 else 150) (if right u = true then rowB id u else []) (if right u = true then 0 else 170) (if rightVer b e v = true then verB b e v else []) (if rightVer b e v = true then 0 else 171) (if right u = true then 0 else 170) (if rightVer b e v = true then 0 else 171) false id u b e v = some true := by
  obtain ⟨k, rfl⟩ : ∃ q, k = q + 1 := ⟨k - 1, by omega⟩
  rw [P.lawLays.j1, if_neg (by decide), right_is k u (by omega) (by omega), Option.bind_some]
  by_cases h : right u = true
  · have hr := (right_range h).1
    simp only [if_pos h, if_true]
    rw [rvec_is u (by omega) k (by omega), Option.bind_some, sbytes_is k _ (by rw [vecB_len]; omega) (by rw [vecB_len]; omega), Option.bind_some, if_pos rfl, rrow_is id u (by omega) k (by omega), Option.bind_some, sbytes_is k _ (by rw [rowB_len]; omega) (by rw [rowB_len]; omega), Option.bind_some, if_pos rfl]
    exact lays_j2 b e v hv k (by omega)
  · simp only [if_neg h, if_true]
    rw [if_pos (by rfl), if_pos (by rfl)]
    exact lays_j2 b e v hv k (by omega)
theorem vec_f (u : List Int) : codec_Vec.f u = some ((if right u = true then vecB u else []), (if right u = true then 0 else 150)) := by
  unfold codec_Vec.f
  by_cases h : right u = true
  · rw [if_pos h, if_pos h, if_pos h]
  · rw [if_neg h, if_neg h, if_neg h]
theorem row_f (id : Int) (u : List Int) : codec_Row.f id u = some ((if right u = true then rowB id u else []), (if right u = true then 0 else 170)) := by
  unfold codec_Row.f
  by_cases h : right u = true
  · rw [if_pos h, if_pos h, if_pos h]
  · rw [if_neg h, if_neg h, if_neg h]
theorem version_f (b e : Int) (v : List Int) : codec_Version.f b e v = some ((if rightVer b e v = true then verB b e v else []), (if rightVer b e v = true then 0 else 171)) := by
  unfold codec_Version.f
  by_cases h : rightVer b e v = true
  · rw [if_pos h, if_pos h, if_pos h]
  · rw [if_neg h, if_neg h, if_neg h]
theorem lays_pure (id : Int) (u : List Int) (b e : Int) (v : List Int) (b2 e2 : Int) (v2 : List Int) : P.lawLays.f 210 id u b e v b2 e2 v2 = some true := by
  have hj : P.lawLays.j0 210 true id u b e v b2 e2 v2 = some true := by rw [P.lawLays.j0, if_pos rfl]
  unfold P.lawLays.f
  rw [wakes07_is, Option.bind_some, if_pos rfl]
  by_cases h1 : (u.length : Int) > 100
  · rw [if_pos h1]; exact hj
  · rw [if_neg h1]
    by_cases h2 : (v.length : Int) > 100
    · rw [if_pos h2]; exact hj
    · rw [if_neg h2]
      by_cases h3 : (v2.length : Int) > 100
      · rw [decide_eq_true h3]; exact hj
      · rw [decide_eq_false h3, P.lawLays.j0, if_neg (by decide), vec_f, Option.bind_some, row_f, Option.bind_some, version_f, Option.bind_some, ckrow2_is, Option.bind_some, checkver_is, Option.bind_some, codec_SameVersion.f, Option.bind_some, samever_is 209 _ _ _ _ _ _ (by omega) (by omega), Option.bind_some, if_neg (by simp),
          codec_SameVersion.f, Option.bind_some, if_pos (by simp), prow_is 209 _ _ _ _ (by omega) (by omega), Option.bind_some, if_pos (by simp), prow_is 209 _ _ _ _ (by omega) (by omega), Option.bind_some, refsame_is 209 _ _ (by omega) (by omega), Option.bind_some]
        rw [show (decide (id = id ∧ u = v) != decide (u = v)) = false by simp]
        exact lays_j1 id u b e v (by omega) (by omega) 209 (by omega)
theorem codecLays.walk (x : Int × List Int) (cs : Array Value) (y : Int × Int × List Int) (ds : Array Value) (z : Int × Int × List Int) (es : Array Value) (W : World) (hK : kRow.K W x cs.toList) (wx : wRow x) (hV : kVer.K W y ds.toList) (wy : wVer y) (hZ : kVer.K W z es.toList) (wz : wVer z) :
    Calls Try.prog 7 #[.agg cs, .agg ds, .agg es] W fun e w' => e = .returned (.bool true) ∧ Below W.heap.size W w' := by
  obtain ⟨A0, c0, rfl, h0, hC0⟩ := kRow_open hK
  obtain ⟨A1, c1, rfl, h1, hC1⟩ := kVer_open hV
  obtain ⟨A2, c2, rfl, h2, hC2⟩ := kVer_open hZ
  exact P.lawLays.calls 210 x.1 A0 c0 x.2 y.1 y.2.1 A1 c1 y.2.2 z.1 z.2.1 A2 c2 z.2.2 true W hC0 h0 hC1 h1 hC2 h2 (lays_pure x.1 x.2 y.1 y.2.1 y.2.2 z.1 z.2.1 z.2.2)

end Go.Proofs.Ytngjaaldidmgjaa.G
