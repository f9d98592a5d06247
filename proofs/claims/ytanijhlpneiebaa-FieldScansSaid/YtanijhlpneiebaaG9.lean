/- quiverlaw01.wakes is true, in whatever memory. -/
import Derived.Test.YtanijhlpneiebaaG5
import Derived.Test.YtanijhlpneiebaaPxL0
namespace Go.Proofs.Ytanijhlpneiebaa.G
open Go.RowKit Go.Proofs.YtanijhlpneiebaaW.PrintWords Go.Proofs.YtanijhlpneiebaaW.PrintLast Go.Proofs.YtanijhlpneiebaaW.PrintMore
set_option linter.unusedVariables false
set_option linter.unusedSimpArgs false

theorem wput : P.field_Put.f 10 [7] 2 258 = some [7, 1, 2] := by decide +kernel
theorem wlay : P.field_Lay.f 10 [7, 1, 2] 3 (-2) = some [7, 1, 2, 255, 255, 254] := by decide +kernel
theorem wfits : P.field_Fits.f 1 256 = some false := by decide +kernel
theorem wfitsInt : P.field_FitsInt.f 1 (-128) = some true := by decide +kernel

def wakes01.f : Option Bool := some true
set_option maxHeartbeats 2000000 in
set_option maxRecDepth 100000 in
theorem wakes01.calls (r : Bool) (w : World) (h : wakes01.f = some r) : Calls Try.prog 17 #[] w fun e w' => e = .returned (.bool r) ∧ Below w.heap.size w w' := by
  obtain rfl := Option.some.inj h
  clear h
  have HP := Aside0.mk (P.field_Put.calls 10 (some ⟨w.heap.size, 0, none⟩) 1 [7] 2 258 [7, 1, 2] (w.alloc (.cells #[.int .u8 7] 5)) (C_lit .u8 w [7] 5 (by decide)) (Nat.le_refl _) wput)
  go_enter Try.func17, Try.ntmps17
  go_wp2_with fail
  refine HP.out.mono ?_
  rintro e w1 ⟨v1, rfl, hv1, hb1⟩
  obtain ⟨A1, c1, rfl, hl1, hC1⟩ := Kd.R_reads hv1
  have HL := Aside0.mk (P.field_Lay.calls 10 A1 c1 [7, 1, 2] 3 (-2) [7, 1, 2, 255, 255, 254] w1 hC1 hl1 wlay)
  have HB1 := Aside0.mk (below_step (below_alloc (Below.refl _ w) _) hb1)
  clear hv1 hb1 hC1 hl1 HP
  go_wp2_with fail
  refine HL.out.mono ?_
  rintro e w2 ⟨v2, rfl, hv2, hb2⟩
  obtain ⟨A2, c2, rfl, hl2, hC2⟩ := Kd.R_reads hv2
  have HRd := Aside0.mk (ScRead A2 c2 [7, 1, 2, 255, 255, 254] w2 hC2 hl2 (by decide) (by decide))
  have HB2 := Aside0.mk (below_step HB1.out hb2)
  have HC2 := Aside0.mk hC2
  clear hv2 hb2 HL HB1 hC2
  go_wp2_with fail
  refine HRd.out.mono ?_
  rintro e w3 ⟨g, rfl, hI, hb3⟩
  have HB3 := Aside0.mk (below_step HB2.out hb3)
  have HB2' := Aside0.mk HB2.out.size
  have HC3 := Aside0.mk (Kd.C_below HC2.out hb3)
  obtain ⟨ad, rfl, q1⟩ := C_byte HC3.out 1 (by decide)
  obtain ⟨_, e5, q5⟩ := C_byte HC3.out 5 (by decide)
  cases e5
  have q1' : w3.cell? { block := ad.block, off := ad.off + 1 } = some (.int .u8 1) := q1
  have q5' : w3.cell? { block := ad.block, off := ad.off + 5 } = some (.int .u8 254) := q5
  have HI := Aside0.mk hI
  clear hI hb3 HRd HB2 HC2 q1 q5
  have HG := Aside0.mk (show w.heap.size ≤ g from by
    obtain ⟨v, _, hg, _⟩ := HI.out
    exact Nat.le_trans HB2'.out hg)
  have hN1 := ScNum w2.heap.size (fun _ => True) g [7, 1, 2, 255, 255, 254] 0 false 1 w3 HI.out
  rw [show num (scTake [7, 1, 2, 255, 255, 254] 0 false (sizeOr 1)) = 7 from by decide +kernel, show scPl ([7, 1, 2, 255, 255, 254] : List Int).length 0 false (sizeOr 1) = 1 from by decide +kernel, show scBad ([7, 1, 2, 255, 255, 254] : List Int).length 0 false (sizeOr 1) = false from by decide +kernel] at hN1
  have HN1 := Aside0.mk hN1
  clear hN1
  go_wp2_with fail
  refine HN1.out.mono ?_
  rintro e W1 ⟨rfl, hi1, hf1⟩
  have HI1 := Aside0.mk hi1
  have HB4 := Aside0.mk (HB3.out.trans (hf1.toBelow (Nat.le_of_lt (Nat.lt_of_le_of_lt HG.out HI.out.lt)) (fun k hk => by subst hk; exact HG.out)))
  clear hi1 hf1 HN1
  have hN2 := ScNum w2.heap.size (fun _ => True) g [7, 1, 2, 255, 255, 254] 1 false 2 W1 HI1.out
  rw [show num (scTake [7, 1, 2, 255, 255, 254] 1 false (sizeOr 2)) = 258 from by decide +kernel, show scPl ([7, 1, 2, 255, 255, 254] : List Int).length 1 false (sizeOr 2) = 3 from by decide +kernel, show scBad ([7, 1, 2, 255, 255, 254] : List Int).length 1 false (sizeOr 2) = false from by decide +kernel] at hN2
  have HN2 := Aside0.mk hN2
  clear hN2
  go_wp2_with fail
  refine HN2.out.mono ?_
  rintro e W2 ⟨rfl, hi2, hf2⟩
  have HI2 := Aside0.mk hi2
  have HB5 := Aside0.mk (HB4.out.trans (hf2.toBelow (Nat.le_of_lt (Nat.lt_of_le_of_lt HG.out HI1.out.lt)) (fun k hk => by subst hk; exact HG.out)))
  clear hi2 hf2 HN2
  have hN3 := ScInt w2.heap.size (fun _ => True) g [7, 1, 2, 255, 255, 254] 3 false 3 W2 HI2.out
  rw [show signed 3 (num (scTake [7, 1, 2, 255, 255, 254] 3 false (sizeOr 3))) = -2 from by decide +kernel, show scPl ([7, 1, 2, 255, 255, 254] : List Int).length 3 false (sizeOr 3) = 6 from by decide +kernel, show scBad ([7, 1, 2, 255, 255, 254] : List Int).length 3 false (sizeOr 3) = false from by decide +kernel] at hN3
  have HN3 := Aside0.mk hN3
  clear hN3
  go_wp2_with fail
  refine HN3.out.mono ?_
  rintro e W3 ⟨rfl, hi3, hf3⟩
  have HI3 := Aside0.mk hi3
  have HB6 := Aside0.mk (HB5.out.trans (hf3.toBelow (Nat.le_of_lt (Nat.lt_of_le_of_lt HG.out HI2.out.lt)) (fun k hk => by subst hk; exact HG.out)))
  clear hi3 hf3 HN3
  go_wp2_with fail
  refine (ScBadq _ _ g [7, 1, 2, 255, 255, 254] 6 false W3 HI3.out).mono ?_
  rintro e W4 ⟨rfl, ⟨⟨n4, rfl⟩⟩⟩
  go_wp2_with fail
  refine (ScLeft _ _ g [7, 1, 2, 255, 255, 254] 6 false _ (HI3.out.drewN n4)).mono ?_
  rintro e W5 ⟨rfl, ⟨⟨n5, rfl⟩⟩⟩
  have e0 : ((([7, 1, 2, 255, 255, 254] : List Int).length : Int) - (6 : Nat)) = 0 := by decide
  rw [e0]
  clear e0
  go_wp2_with fail
  refine (P.field_Fits.calls 1 256 false _ wfits).mono ?_
  rintro e W6 ⟨rfl, ⟨⟨n6, rfl⟩⟩⟩
  go_wp2_with fail
  refine (P.field_FitsInt.calls 1 (-128) true _ wfitsInt).mono ?_
  rintro e W7 ⟨rfl, ⟨⟨n7, rfl⟩⟩⟩
  go_wp2_with fail
  go_returns
  exact ⟨rfl, pw_below_drewN HB6.out _⟩

end Go.Proofs.Ytanijhlpneiebaa.G
