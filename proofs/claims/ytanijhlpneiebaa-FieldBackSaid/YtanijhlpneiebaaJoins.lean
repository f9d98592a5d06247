/- quiverlaw01.FieldJoins answers true, for every bytes and two sizes: two fields side by side are one of both sizes together. -/
import Derived.Test.YtanijhlpneiebaaG9
import Derived.Test.YtanijhlpneiebaaS1
namespace Go.Proofs.Ytanijhlpneiebaa.G
open Go.RowKit Go.Proofs.YtanijhlpneiebaaW.PrintWords Go.Proofs.YtanijhlpneiebaaW.PrintLast Go.Proofs.YtanijhlpneiebaaW.PrintMore
set_option linter.unusedVariables false
set_option linter.unusedSimpArgs false

theorem wf_u8 {x : Int} (h : (Lit.int .u8 x).wf = true) : 0 ≤ x ∧ x ≤ 255 := by simpa [Lit.wf, IntKind.min, IntKind.max, IntKind.signed, IntKind.bits] using h
theorem wf_u64 {x : Int} (h : (Lit.int .u64 x).wf = true) : 0 ≤ x ∧ x ≤ 18446744073709551615 := by simpa [Lit.wf, IntKind.min, IntKind.max, IntKind.signed, IntKind.bits] using h
theorem wf_i64 {x : Int} (h : (Lit.int .i64 x).wf = true) : -9223372036854775808 ≤ x ∧ x ≤ 9223372036854775807 := by simpa [Lit.wf, IntKind.min, IntKind.max, IntKind.signed, IntKind.bits] using h

/-- The tests ahead of FieldJoins' own work: which one says that nothing is asked. -/
def joinsOut (l : List Int) (m n : Int) : Prop := 5000 < l.length ∨ m < 1 ∨ n < 1 ∨ 8 < m ∨ 8 < n ∨ 8 < m + n

set_option maxHeartbeats 2000000 in
set_option maxRecDepth 100000 in
theorem fieldJoins_out (A : Option Addr) (c : Nat) (l : List Int) (m n : Int) (w : World) (hl : l.length ≤ c) (hC : Kd.C (Kd.int .u8) w A l.length l) (hm : -9223372036854775808 ≤ m ∧ m ≤ 9223372036854775807) (hn : -9223372036854775808 ≤ n ∧ n ≤ 9223372036854775807) (h : joinsOut l m n) :
    Calls Try.prog 5 #[.slice A l.length c, .int .i64 m, .int .i64 n] w fun e w' => e = .returned (.bool true) ∧ Below w.heap.size w w' := by
  have hmax := Kd.C_max hC
  clear hC
  unfold joinsOut at h
  by_cases c1 : 5000 < l.length
  case pos =>
    clear h
    go_enter Try.func5, Try.ntmps5
    go_wp2_with fail
    refine (wakes01.calls true _ rfl).mono ?_
    rintro e w1 ⟨rfl, hb1⟩
    have HB1 := Aside0.mk hb1
    clear hb1
    go_wp2_with fail
    go_returns
    exact ⟨rfl, HB1.out⟩
  by_cases c2 : m < 1
  case pos =>
    clear h
    go_enter Try.func5, Try.ntmps5
    go_wp2_with fail
    refine (wakes01.calls true _ rfl).mono ?_
    rintro e w1 ⟨rfl, hb1⟩
    have HB1 := Aside0.mk hb1
    clear hb1
    go_wp2_with fail
    go_returns
    exact ⟨rfl, HB1.out⟩
  by_cases c3 : n < 1
  case pos =>
    clear h
    go_enter Try.func5, Try.ntmps5
    go_wp2_with fail
    refine (wakes01.calls true _ rfl).mono ?_
    rintro e w1 ⟨rfl, hb1⟩
    have HB1 := Aside0.mk hb1
    clear hb1
    go_wp2_with fail
    go_returns
    exact ⟨rfl, HB1.out⟩
  by_cases c4 : 8 < m
  case pos =>
    clear h
    go_enter Try.func5, Try.ntmps5
    go_wp2_with fail
    refine (wakes01.calls true _ rfl).mono ?_
    rintro e w1 ⟨rfl, hb1⟩
    have HB1 := Aside0.mk hb1
    clear hb1
    go_wp2_with fail
    go_returns
    exact ⟨rfl, HB1.out⟩
  by_cases c5 : 8 < n
  case pos =>
    clear h
    go_enter Try.func5, Try.ntmps5
    go_wp2_with fail
    refine (wakes01.calls true _ rfl).mono ?_
    rintro e w1 ⟨rfl, hb1⟩
    have HB1 := Aside0.mk hb1
    clear hb1
    go_wp2_with fail
    go_returns
    exact ⟨rfl, HB1.out⟩
  have c6 : 8 < m + n := by omega
  clear h
  go_enter Try.func5, Try.ntmps5
  go_wp2_with fail
  refine (wakes01.calls true _ rfl).mono ?_
  rintro e w1 ⟨rfl, hb1⟩
  have HB1 := Aside0.mk hb1
  clear hb1
  go_wp2_with fail
  go_returns
  exact ⟨rfl, HB1.out⟩

theorem or_two (x y : Int) (m n : Nat) (h : m + n ≤ 8) (hx : 0 ≤ x) (hx1 : x < 256 ^ m) (hy : 0 ≤ y) (hy1 : y < 256 ^ n) : bits .or .u64 (IntKind.u64.wrap (x * 2 ^ (8 * n))) y = x * 256 ^ n + y := by
  have e : (2 : Int) ^ (8 * n) = 256 ^ n := by rw [Int.pow_mul]; rfl
  have hp := Int.pow_pos (n := 256) (m := n) (by decide)
  have hle : (x + 1) * 256 ^ n ≤ 256 ^ m * 256 ^ n := Int.mul_le_mul_of_nonneg_right (by omega) (by omega)
  rw [← Int.pow_add, Int.add_mul, Int.one_mul] at hle
  have h8 : (256 : Int) ^ (m + n) ≤ 256 ^ 8 := pow_le256 h
  have h8' : (256 : Int) ^ 8 = 18446744073709551616 := by decide
  have hnn : 0 ≤ x * 256 ^ n := Int.mul_nonneg hx (by omega)
  rw [e, IntWalk.u64_in _ (by omega)]
  refine bits_join .u64 64 (by decide) (fun z h h' => IntWalk.u64_in _ (by omega)) (8 * n) (x * 256 ^ n) y hnn (by rw [e]; exact Int.mul_emod_left _ _) (by omega) hy (by rw [e]; exact hy1) (by omega)

/-- What both scans tell, and that it fits together: the plain law of FieldJoins. -/
theorem joins_law (l : List Int) (m n : Nat) (hby : ∀ x ∈ l, 0 ≤ x ∧ x ≤ 255) (hm : 1 ≤ m) (hn : 1 ≤ n) (hmn : m + n ≤ 8) (h : m + n ≤ l.length) :
    num (l.take (m + n)) = num (l.take m) * 256 ^ n + num ((l.drop m).take n) ∧ putBytes m (num (l.take m)) ++ putBytes n (num ((l.drop m).take n)) = putBytes ((m : Int) + n) (num (l.take (m + n))) := by
  have e : l.take (m + n) = l.take m ++ (l.drop m).take n := List.take_add
  have hl2 : ((l.drop m).take n).length = n := by rw [List.length_take, List.length_drop]; omega
  refine ⟨by rw [e, num_append, hl2], ?_⟩
  rw [put_num m (l.take m) (isSize_iff.2 (by omega)) (by rw [List.length_take]; omega) (fun x hx => hby x (List.mem_of_mem_take hx)),
    put_num n _ (isSize_iff.2 (by omega)) (by rw [hl2]; omega) (fun x hx => hby x (List.mem_of_mem_drop (List.mem_of_mem_take hx))),
    put_num ((m : Int) + n) (l.take (m + n)) (isSize_iff.2 (by omega)) (by rw [List.length_take]; omega) (fun x hx => hby x (List.mem_of_mem_take hx)), e]

set_option maxHeartbeats 2000000 in
set_option maxRecDepth 100000 in
theorem fieldJoins_in (A : Option Addr) (c : Nat) (l : List Int) (m n : Nat) (w : World) (hl : l.length ≤ c) (hC : Kd.C (Kd.int .u8) w A l.length l) (hby : ∀ x ∈ l, 0 ≤ x ∧ x ≤ 255) (hm : 1 ≤ m) (hn : 1 ≤ n) (hmn : m + n ≤ 8) (h5 : l.length ≤ 5000) :
    Calls Try.prog 5 #[.slice A l.length c, .int .i64 m, .int .i64 n] w fun e w' => e = .returned (.bool true) ∧ Below w.heap.size w w' := by
  have HC := Aside0.mk hC
  have HBy := Aside0.mk hby
  clear hC hby
  go_enter Try.func5, Try.ntmps5
  go_wp2_with fail
  refine (wakes01.calls true _ rfl).mono ?_
  rintro e w1 ⟨rfl, hb1⟩
  have HB1 := Aside0.mk hb1
  clear hb1
  go_wp2_with fail
  refine (ScRead A c l w1 (Kd.C_below HC.out HB1.out) hl (by omega) HBy.out).mono ?_
  rintro e w2 ⟨g, rfl, hI, hb2⟩
  have HI := Aside0.mk hI
  have HB2 := Aside0.mk (below_step HB1.out hb2)
  clear hI hb2
  go_wp2_with fail
  refine (ScRead A c l w2 (Kd.C_below HC.out HB2.out) hl (by omega) HBy.out).mono ?_
  rintro e w3 ⟨g2, rfl, hI2, hb3⟩
  have HIs := Aside0.mk (show IsScan w3 w.heap.size (fun k => k < w2.heap.size) g l 0 false from ((HI.out.bound.mono (fun k h => h.2.2)).lower HB1.out.size).step (fun k hk _ => hb3.block k hk))
  have HIt := Aside0.mk (show IsScan w3 w.heap.size (fun k => w2.heap.size ≤ k) g2 l 0 false from (hI2.bound.mono (fun k h => h.2.1)).lower HB2.out.size)
  have HB3 := Aside0.mk (below_step HB2.out hb3)
  clear hI2 hb3 HI
  go_wp2_with fail
  have HG := Aside0.mk HIs.out.ge
  have HG2 := Aside0.mk HIt.out.ge
  rcases Nat.lt_or_ge l.length m with hk | hk
  · have F1 := fits_no l.length 0 m (by omega)
    have hn1 := ScNum w.heap.size _ g l 0 false m w3 HIs.out
    rw [sizeOr_yes (isSize_iff.2 (by omega)), scTake_no F1, scPl_no F1, scBad_no F1] at hn1
    (try rw [List.drop_zero] at hn1)
    (try rw [Nat.zero_add] at hn1)
    have HN1 := Aside0.mk hn1
    clear hn1 F1
    refine HN1.out.mono ?_
    rintro e V1 ⟨rfl, hi1, hf1⟩
    have F2 := fits_bad l.length 0 n
    have hn2 := ScNum w.heap.size _ g l 0 true n V1 hi1
    rw [sizeOr_yes (isSize_iff.2 (by omega)), scTake_no F2, scPl_no F2, scBad_no F2] at hn2
    (try rw [List.drop_zero] at hn2)
    (try rw [Nat.zero_add] at hn2)
    have HN2 := Aside0.mk hn2
    clear hn2 F2
    have HT1 := Aside0.mk (HIt.out.fr hf1 (fun k hk e => by subst e; exact absurd HIs.out.ok_g (by omega)))
    have HB4 := Aside0.mk (HB3.out.trans (hf1.toBelow (Nat.le_of_lt (Nat.lt_of_le_of_lt HG.out HIs.out.lt)) (fun k hk => by subst hk; exact HG.out)))
    clear hi1 hf1 HN1
    go_wp2_with fail
    refine HN2.out.mono ?_
    rintro e V2 ⟨rfl, hi2, hf2⟩
    have HT2 := Aside0.mk (HT1.out.fr hf2 (fun k hk e => by subst e; exact absurd HIs.out.ok_g (by omega)))
    have HB5 := Aside0.mk (HB4.out.trans (hf2.toBelow HB4.out.size (fun k hk => by subst hk; exact HG.out)))
    have HS2 := Aside0.mk hi2
    clear hi2 hf2 HN2
    go_wp2_with fail
    have F3 := fits_no l.length 0 ((m + n : Nat) : Int) (by omega)
    have hn3 := ScNum w.heap.size _ g2 l 0 false ((m + n : Nat) : Int) V2 HT2.out
    rw [sizeOr_yes (isSize_iff.2 (by omega)), scTake_no F3, scPl_no F3, scBad_no F3] at hn3
    (try rw [List.drop_zero] at hn3)
    (try rw [Nat.zero_add] at hn3)
    have HN3 := Aside0.mk hn3
    clear hn3 F3
    rw [show ((m : Int) + n) = ((m + n : Nat) : Int) from by omega]
    refine HN3.out.mono ?_
    rintro e V3 ⟨rfl, hi3, hf3⟩
    have HS3 := Aside0.mk (HS2.out.fr hf3 (fun k hk e => by subst e; exact absurd HIt.out.ok_g (by omega)))
    have HB6 := Aside0.mk (HB5.out.trans (hf3.toBelow HB5.out.size (fun k hk => by subst hk; exact HG2.out)))
    have HT3 := Aside0.mk hi3
    clear hi3 hf3 HN3
    go_wp2_with fail
    refine (ScBadq _ _ g l _ _ V3 HS3.out).mono ?_
    rintro e V4 ⟨rfl, ⟨⟨n4, rfl⟩⟩⟩
    go_wp2_with fail
    refine (ScBadq _ _ g2 l _ _ _ (HT3.out.drewN n4)).mono ?_
    rintro e V5 ⟨rfl, ⟨⟨n5, rfl⟩⟩⟩
    have e0 : num [] = 0 := rfl
    rw [e0]
    clear e0
    go_wp2_with fail
    refine (ScPlace _ _ g2 l _ _ _ (HT3.out.drewN _)).mono ?_
    rintro e V6 ⟨rfl, ⟨⟨n6, rfl⟩⟩⟩
    go_wp2_with fail
    go_returns
    exact ⟨rfl, pw_below_drewN HB6.out _⟩
  rcases Nat.lt_or_ge l.length (m + n) with hk2 | hk2
  · have F1 := fits_yes l 0 m (by omega) (by omega)
    have hn1 := ScNum w.heap.size _ g l 0 false m w3 HIs.out
    rw [sizeOr_yes (isSize_iff.2 (by omega)), scTake_yes F1, scPl_yes F1, scBad_yes F1] at hn1
    (try rw [List.drop_zero] at hn1)
    (try rw [Nat.zero_add] at hn1)
    have HN1 := Aside0.mk hn1
    clear hn1 F1
    refine HN1.out.mono ?_
    rintro e V1 ⟨rfl, hi1, hf1⟩
    have F2 := fits_no l.length m n (by omega)
    have hn2 := ScNum w.heap.size _ g l m false n V1 hi1
    rw [sizeOr_yes (isSize_iff.2 (by omega)), scTake_no F2, scPl_no F2, scBad_no F2] at hn2
    (try rw [List.drop_zero] at hn2)
    (try rw [Nat.zero_add] at hn2)
    have HN2 := Aside0.mk hn2
    clear hn2 F2
    have HT1 := Aside0.mk (HIt.out.fr hf1 (fun k hk e => by subst e; exact absurd HIs.out.ok_g (by omega)))
    have HB4 := Aside0.mk (HB3.out.trans (hf1.toBelow (Nat.le_of_lt (Nat.lt_of_le_of_lt HG.out HIs.out.lt)) (fun k hk => by subst hk; exact HG.out)))
    clear hi1 hf1 HN1
    go_wp2_with fail
    refine HN2.out.mono ?_
    rintro e V2 ⟨rfl, hi2, hf2⟩
    have HT2 := Aside0.mk (HT1.out.fr hf2 (fun k hk e => by subst e; exact absurd HIs.out.ok_g (by omega)))
    have HB5 := Aside0.mk (HB4.out.trans (hf2.toBelow HB4.out.size (fun k hk => by subst hk; exact HG.out)))
    have HS2 := Aside0.mk hi2
    clear hi2 hf2 HN2
    go_wp2_with fail
    have F3 := fits_no l.length 0 ((m + n : Nat) : Int) (by omega)
    have hn3 := ScNum w.heap.size _ g2 l 0 false ((m + n : Nat) : Int) V2 HT2.out
    rw [sizeOr_yes (isSize_iff.2 (by omega)), scTake_no F3, scPl_no F3, scBad_no F3] at hn3
    (try rw [List.drop_zero] at hn3)
    (try rw [Nat.zero_add] at hn3)
    have HN3 := Aside0.mk hn3
    clear hn3 F3
    rw [show ((m : Int) + n) = ((m + n : Nat) : Int) from by omega]
    refine HN3.out.mono ?_
    rintro e V3 ⟨rfl, hi3, hf3⟩
    have HS3 := Aside0.mk (HS2.out.fr hf3 (fun k hk e => by subst e; exact absurd HIt.out.ok_g (by omega)))
    have HB6 := Aside0.mk (HB5.out.trans (hf3.toBelow HB5.out.size (fun k hk => by subst hk; exact HG2.out)))
    have HT3 := Aside0.mk hi3
    clear hi3 hf3 HN3
    go_wp2_with fail
    refine (ScBadq _ _ g l _ _ V3 HS3.out).mono ?_
    rintro e V4 ⟨rfl, ⟨⟨n4, rfl⟩⟩⟩
    go_wp2_with fail
    refine (ScBadq _ _ g2 l _ _ _ (HT3.out.drewN n4)).mono ?_
    rintro e V5 ⟨rfl, ⟨⟨n5, rfl⟩⟩⟩
    have e0 : num [] = 0 := rfl
    rw [e0]
    clear e0
    go_wp2_with fail
    refine (ScPlace _ _ g2 l _ _ _ (HT3.out.drewN _)).mono ?_
    rintro e V6 ⟨rfl, ⟨⟨n6, rfl⟩⟩⟩
    go_wp2_with fail
    go_returns
    exact ⟨rfl, pw_below_drewN HB6.out _⟩
  have F1 := fits_yes l 0 m (by omega) (by omega)
  have hn1 := ScNum w.heap.size _ g l 0 false m w3 HIs.out
  rw [sizeOr_yes (isSize_iff.2 (by omega)), scTake_yes F1, scPl_yes F1, scBad_yes F1] at hn1
  (try rw [List.drop_zero] at hn1)
  (try rw [Nat.zero_add] at hn1)
  have HN1 := Aside0.mk hn1
  clear hn1 F1
  refine HN1.out.mono ?_
  rintro e V1 ⟨rfl, hi1, hf1⟩
  have F2 := fits_yes l m n (by omega) (by omega)
  have hn2 := ScNum w.heap.size _ g l m false n V1 hi1
  rw [sizeOr_yes (isSize_iff.2 (by omega)), scTake_yes F2, scPl_yes F2, scBad_yes F2] at hn2
  (try rw [List.drop_zero] at hn2)
  (try rw [Nat.zero_add] at hn2)
  have HN2 := Aside0.mk hn2
  clear hn2 F2
  have HT1 := Aside0.mk (HIt.out.fr hf1 (fun k hk e => by subst e; exact absurd HIs.out.ok_g (by omega)))
  have HB4 := Aside0.mk (HB3.out.trans (hf1.toBelow (Nat.le_of_lt (Nat.lt_of_le_of_lt HG.out HIs.out.lt)) (fun k hk => by subst hk; exact HG.out)))
  clear hi1 hf1 HN1
  go_wp2_with fail
  refine HN2.out.mono ?_
  rintro e V2 ⟨rfl, hi2, hf2⟩
  have HT2 := Aside0.mk (HT1.out.fr hf2 (fun k hk e => by subst e; exact absurd HIs.out.ok_g (by omega)))
  have HB5 := Aside0.mk (HB4.out.trans (hf2.toBelow HB4.out.size (fun k hk => by subst hk; exact HG.out)))
  have HS2 := Aside0.mk hi2
  clear hi2 hf2 HN2
  go_wp2_with fail
  have F3 := fits_yes l 0 (m + n) (by omega) (by omega)
  have hn3 := ScNum w.heap.size _ g2 l 0 false ((m + n : Nat) : Int) V2 HT2.out
  rw [sizeOr_yes (isSize_iff.2 (by omega)), scTake_yes F3, scPl_yes F3, scBad_yes F3] at hn3
  (try rw [List.drop_zero] at hn3)
  (try rw [Nat.zero_add] at hn3)
  have HN3 := Aside0.mk hn3
  clear hn3 F3
  rw [show ((m : Int) + n) = ((m + n : Nat) : Int) from by omega]
  refine HN3.out.mono ?_
  rintro e V3 ⟨rfl, hi3, hf3⟩
  have HS3 := Aside0.mk (HS2.out.fr hf3 (fun k hk e => by subst e; exact absurd HIt.out.ok_g (by omega)))
  have HB6 := Aside0.mk (HB5.out.trans (hf3.toBelow HB5.out.size (fun k hk => by subst hk; exact HG2.out)))
  have HT3 := Aside0.mk hi3
  clear hi3 hf3 HN3
  go_wp2_with fail
  refine (ScBadq _ _ g l _ _ V3 HS3.out).mono ?_
  rintro e V4 ⟨rfl, ⟨⟨n4, rfl⟩⟩⟩
  go_wp2_with fail
  refine (ScBadq _ _ g2 l _ _ _ (HT3.out.drewN n4)).mono ?_
  rintro e V5 ⟨rfl, ⟨⟨n5, rfl⟩⟩⟩
  have J1 := (joins_law l m n HBy.out hm hn hmn hk2).1
  have J2 := Aside0.mk (joins_law l m n HBy.out hm hn hmn hk2).2
  have R1 := num_range (l.take m) (fun x hx => HBy.out x (List.mem_of_mem_take hx))
  have R2 := num_range ((l.drop m).take n) (fun x hx => HBy.out x (List.mem_of_mem_drop (List.mem_of_mem_take hx)))
  have hq := or_two (num (l.take m)) (num ((l.drop m).take n)) m n hmn R1.1 (by rw [List.length_take, Nat.min_eq_left hk] at R1; exact R1.2) R2.1 (by rw [List.length_take, List.length_drop, Nat.min_eq_left (by omega)] at R2; exact R2.2)
  rw [← J1] at hq
  clear J1 R1 R2
  go_wp2_with fail
  refine (P.field_Put.calls 20 none 0 [] m _ (putBytes m (num (l.take m))) _ (Kd.C_nil _ _) (Nat.le_refl _) (put_is [] m _ 20 (by decide) (by decide))).mono ?_
  rintro e V6 ⟨v6, rfl, hv6, hb6⟩
  obtain ⟨A6, c6, rfl, hl6, hC6⟩ := Kd.R_reads hv6
  have HC6 := Aside0.mk hC6
  have HB7 := Aside0.mk (below_step (pw_below_drewN HB6.out _) hb6)
  have hlm := Aside0.mk (show (putBytes m (num (l.take m))).length = m by rw [putBytes_length, if_pos (isSize_iff.2 (by omega))]; rfl)
  clear hv6 hb6 hC6
  go_wp2_with fail
  refine (P.field_Put.calls 20 A6 c6 (putBytes m (num (l.take m))) n _ (putBytes m (num (l.take m)) ++ putBytes n (num ((l.drop m).take n))) _ HC6.out hl6 (put_is _ n _ 20 (by decide) (by rw [hlm.out]; omega))).mono ?_
  rintro e V7 ⟨v7, rfl, hv7, hb7⟩
  obtain ⟨A7, c7, rfl, hl7, hC7⟩ := Kd.R_reads hv7
  have HC7 := Aside0.mk hC7
  have HB8 := Aside0.mk (below_step HB7.out hb7)
  clear hv7 hb7 hC7
  go_wp2_with fail
  refine (P.field_Put.calls 20 none 0 [] ((m : Int) + n) _ (putBytes ((m : Int) + n) (num (l.take (m + n)))) _ (Kd.C_nil _ _) (Nat.le_refl _) (put_is [] _ _ 20 (by decide) (by decide))).mono ?_
  rintro e V8 ⟨v8, rfl, hv8, hb8⟩
  obtain ⟨A8, c8, rfl, hl8, hC8⟩ := Kd.R_reads hv8
  have he := (P.bytes_Equal.calls A7 c7 _ A8 c8 _ true V8 (Kd.C_below HC7.out hb8) hl7 hC8 hl8 (by rw [J2.out]; unfold P.bytes_Equal.f; simp))
  rw [List.length_append] at he
  have HE := Aside0.mk he
  clear he
  have HB9 := Aside0.mk (below_step HB8.out hb8)
  clear hv8 hb8 hC8
  go_wp2_with fail
  refine HE.out.mono ?_
  rintro e V9 ⟨rfl, hd⟩
  have HB10 := Aside0.mk (below_step HB9.out hd.below)
  clear hd
  go_wp2_with fail
  go_returns
  exact ⟨rfl, HB10.out⟩


set_option maxHeartbeats 1000000 in
theorem fieldJoins.walk (A : Option Addr) (c : Nat) (l : List Int) (m n : Int) (w : World) (hl : l.length ≤ c) (hC : Kd.C (Kd.int .u8) w A l.length l) (hw : ∀ x ∈ l, (Lit.int .u8 x).wf = true) (wm : (Lit.int .i64 m).wf = true) (wn : (Lit.int .i64 n).wf = true) :
    Calls Try.prog 5 #[.slice A l.length c, .int .i64 m, .int .i64 n] w fun e w' => e = .returned (.bool true) ∧ Below w.heap.size w w' := by
  by_cases h : joinsOut l m n
  · exact fieldJoins_out A c l m n w hl hC (wf_i64 wm) (wf_i64 wn) h
  · unfold joinsOut at h
    obtain ⟨a, rfl⟩ := Int.eq_ofNat_of_zero_le (show 0 ≤ m by omega)
    obtain ⟨b, rfl⟩ := Int.eq_ofNat_of_zero_le (show 0 ≤ n by omega)
    exact fieldJoins_in A c l a b w hl hC (fun x hx => wf_u8 (hw x hx)) (by omega) (by omega) (by omega) (by omega)
end Go.Proofs.Ytanijhlpneiebaa.G
