/- quiverlaw03.wakes is true, in whatever memory. -/
import Derived.Test.YtanijhlpneiebaaG8
namespace Go.Proofs.Ytanijhlpneiebaa.G
open Go.RowKit Go.Proofs.YtanijhlpneiebaaW.PrintWords Go.Proofs.YtanijhlpneiebaaW.PrintLast Go.Proofs.YtanijhlpneiebaaW.PrintMore
set_option linter.unusedVariables false
set_option linter.unusedSimpArgs false

theorem wseal : P.mark_Seal.f 20 [7] = some [7, 175, 99, 186, 76, 134, 1, 178, 198] := by decide +kernel
theorem wopen : mark_Open.f [7, 175, 99, 186, 76, 134, 1, 178, 198] = some ([7], 0) := by decide +kernel
theorem wopen2 : mark_Open.f [1] = some ([], 7) := by decide +kernel
theorem wof : P.mark_Of.f [] = some 14695981039346656037 := by decide +kernel
def won : Int := [7].foldl onStep 5
theorem won_is : mark_On.f 5 [7] = some won := by decide +kernel
theorem wback : mark_Back.f won [7] = some 5 := by decide +kernel
theorem wplace : P.mark_Place.f 20 [1] [1, 2] = some 1 := by decide +kernel
theorem C_none (w : World) : Kd.C (Kd.int .u8) w none ([] : List Int).length [] := by
  obtain ⟨A, c, e, _, h⟩ := Kd.R_reads (Kd.R_nil (Kd.int .u8) 5 w 0 (fun _ => True))
  cases e
  exact h

def wakes03.f : Option Bool := some true
set_option maxHeartbeats 2000000 in
set_option maxRecDepth 100000 in
theorem wakes03.calls (r : Bool) (w : World) (h : wakes03.f = some r) : Calls Try.prog 38 #[] w fun e w' => e = .returned (.bool r) ∧ Below w.heap.size w w' := by
  obtain rfl := Option.some.inj h
  clear h
  have HP := Aside0.mk (P.mark_Seal.calls 20 (some ⟨w.heap.size, 0, none⟩) 1 [7] _ (w.alloc (.cells #[.int .u8 7] 5)) (C_lit .u8 w [7] 5 (by decide)) (Nat.le_refl _) wseal)
  go_enter Try.func38, Try.ntmps38
  go_wp2_with fail
  refine HP.out.mono ?_
  rintro e w1 ⟨v1, rfl, hv1, hb1⟩
  obtain ⟨A1, c1, rfl, hl1, hC1⟩ := Kd.R_reads hv1
  have HL := Aside0.mk (mark_Open.calls A1 c1 _ _ _ w1 hC1 hl1 wopen)
  have HB1 := Aside0.mk (below_step (below_alloc (Below.refl _ w) _) hb1)
  clear hv1 hb1 hC1 hl1 HP
  go_wp2_with fail
  refine HL.out.mono ?_
  rintro e w2 ⟨v2, rfl, hv2, hb2⟩
  obtain ⟨A2, c2, e2⟩ := Kd.R_slice hv2
  subst e2
  have HB2 := Aside0.mk (below_step HB1.out hb2)
  have HO := Aside0.mk (mark_Open.calls (some ⟨w2.heap.size, 0, none⟩) 1 [1] _ _ (w2.alloc (.cells #[.int .u8 1] 5)) (C_lit .u8 w2 [1] 5 (by decide)) (Nat.le_refl _) wopen2)
  clear hv2 hb2 HL HB1
  go_wp2_with fail
  refine HO.out.mono ?_
  rintro e w3 ⟨v3, rfl, hv3, hb3⟩
  have HB3 := Aside0.mk (below_step (below_alloc HB2.out _) hb3)
  obtain ⟨A3, c3, e3⟩ := Kd.R_slice hv3
  subst e3
  clear hv3 hb3 HO HB2
  go_wp2_with fail
  refine (P.mark_Of.calls none 0 [] _ w3 (C_none w3) (Nat.le_refl _) wof).mono ?_
  rintro e w4 ⟨rfl, hb4⟩
  have HB4 := Aside0.mk (below_step HB3.out hb4)
  have HN := Aside0.mk (mark_On.calls 5 (some ⟨w4.heap.size, 0, none⟩) 1 [7] _ (w4.alloc (.cells #[.int .u8 7] 5)) (C_lit .u8 w4 [7] 5 (by decide)) (Nat.le_refl _) won_is)
  clear hb4 HB3
  go_wp2_with fail
  refine HN.out.mono ?_
  rintro e w5 ⟨rfl, hb5⟩
  have HB5 := Aside0.mk (below_step (below_alloc HB4.out _) hb5)
  have HK := Aside0.mk (mark_Back.calls won (some ⟨w5.heap.size, 0, none⟩) 1 [7] _ (w5.alloc (.cells #[.int .u8 7] 5)) (C_lit .u8 w5 [7] 5 (by decide)) (Nat.le_refl _) wback)
  clear hb5 HB4 HN
  go_wp2_with fail
  refine HK.out.mono ?_
  rintro e w6 ⟨rfl, hb6⟩
  have HB6 := Aside0.mk (below_step (below_alloc HB5.out _) hb6)
  have HPl := Aside0.mk (P.mark_Place.calls 20 (some ⟨w6.heap.size, 0, none⟩) 1 [1] (some ⟨w6.heap.size + 1, 0, none⟩) 2 [1, 2] _ ((w6.alloc (.cells #[.int .u8 1] 5)).alloc (.cells #[.int .u8 1, .int .u8 2] 5)) (Kd.C_alloc (C_lit .u8 w6 [1] 5 (by decide)) _) (Nat.le_refl _) (by have := C_lit .u8 (w6.alloc (.cells #[.int .u8 1] 5)) [1, 2] 5 (by decide); simpa using this) (Nat.le_refl _) wplace)
  clear hb6 HB5 HK
  go_wp2_with fail
  refine HPl.out.mono ?_
  rintro e w7 ⟨rfl, hb7⟩
  have HB7 := Aside0.mk (below_step (below_alloc (below_alloc HB6.out _) _) hb7)
  clear hb7 HB6 HPl
  go_wp2_with fail
  go_returns
  exact ⟨rfl, HB7.out⟩

end Go.Proofs.Ytanijhlpneiebaa.G
