/- quiverlaw05.VecMeans answers true, for every row of vectors. -/
import Derived.Test.YtbdoeikdoohagaaVMeansP
import Derived.Test.YtbdoeikdoohagaaVNears
import Derived.BigQuiet
namespace Go.Proofs.Ytbdoeikdoohagaa.G
open Go.Shelf Go.RowKit Go.Proofs.YtbdoeikdoohagaaW.PrintWords Go.Proofs.YtbdoeikdoohagaaW.PrintLast Go.Proofs.YtbdoeikdoohagaaW.PrintMore
set_option linter.unusedVariables false
set_option linter.unusedSimpArgs false

set_option maxHeartbeats 4000000 in
set_option maxRecDepth 100000 in
theorem vecMeans.go (A : Option Addr) (c : Nat) (l : List (List Int)) (w : World) (hr : Kd.C kR w A l.length l) (hc : l.length ≤ c) :
    Calls Try.prog 3 #[.slice A l.length c] w fun e w' => e = .returned (.bool true) ∧ Below w.heap.size w w' := by
  have HR := Aside0.mk hr
  have HC := Aside0.mk hc
  have hml := Kd.C_max hr
  have HOV := Aside0.mk (over_is l 200 (by omega))
  clear hr hc
  cases ho : over l with
  | true =>
    rw [ho] at HOV
    go_enter Try.func3, Try.ntmps3
    go_wp2_with fail
    refine (wakes05.calls true _ rfl).mono ?_
    rintro e w1 ⟨rfl, hb1⟩
    have HB1 := Aside0.mk hb1
    clear hb1
    go_wp2_with fail
    refine (P.quiverlaw05_over.calls 200 A c l true w1 (Kd.C_below HR.out HB1.out) HC.out HOV.out).mono ?_
    rintro e w2 ⟨rfl, hb2⟩
    have HB2 := Aside0.mk (bd HB1.out hb2)
    clear hb2
    go_wp2_with fail
    go_returns
    exact ⟨rfl, HB2.out⟩
  | false =>
  rw [ho] at HOV
  obtain ⟨hl80, hv100⟩ := over_no ho
  clear ho
  obtain ⟨⟨m1, m2⟩, hm⟩ : ∃ p, p = meanR l := ⟨_, rfl⟩
  have HM := Aside0.mk (show vec_Mean.f l = some (m1, m2) by unfold vec_Mean.f; rw [if_pos (by omega), hm])
  unfold meanR at hm
  have HHM := Aside0.mk hm
  clear hm hv100
  go_enter Try.func3, Try.ntmps3
  go_wp2_with fail
  refine (wakes05.calls true _ rfl).mono ?_
  rintro e w1 ⟨rfl, hb1⟩
  have HB1 := Aside0.mk hb1
  clear hb1
  go_wp2_with fail
  refine (P.quiverlaw05_over.calls 200 A c l false w1 (Kd.C_below HR.out HB1.out) HC.out HOV.out).mono ?_
  rintro e w2 ⟨rfl, hb2⟩
  have HB2 := Aside0.mk (bd HB1.out hb2)
  clear hb2
  go_wp2_with fail
  refine (vec_Mean.calls A c l _ _ w2 (Kd.C_below HR.out HB2.out) HC.out HM.out).mono ?_
  rintro e w4 ⟨vm, rfl, hm4, hb4⟩
  have HB4 := Aside0.mk (below_step HB2.out hb4)
  obtain ⟨A4, c4, rfl, hl4, hC4⟩ := Kd.R_reads hm4
  have hm4' := Kd.C_max hC4
  have HC4 := Aside0.mk hC4
  have HL4 := Aside0.mk hl4
  have HR4 := Aside0.mk (Kd.C_below HR.out HB4.out)
  clear hb4 hm4 hC4 hl4 HM
  have hm := HHM.out
  clear HHM
  by_cases h0 : l.length = 0
  · rw [if_pos h0] at hm
    obtain ⟨rfl, rfl⟩ := Prod.mk.inj hm
    clear hm
    go_wp2_with fail
    go_returns
    exact ⟨rfl, HB4.out⟩
  rw [if_neg h0] at hm
  by_cases hz : allErr l = 0
  case neg =>
    rw [if_neg hz] at hm
    obtain ⟨rfl, hm2⟩ := Prod.mk.inj hm
    have e2 : (m2 != 0) = true := by rw [bne_iff_ne, hm2]; exact hz
    clear hm
    go_wp2_with fail
    go_returns
    exact ⟨rfl, HB4.out⟩
  rw [if_pos hz] at hm
  obtain ⟨hm1, rfl⟩ := Prod.mk.inj hm
  clear hm
  have h0n : 0 < l.length := by omega
  have h0z : (0 : Int) < (l.length : Int) := by omega
  obtain ⟨hz1, hz2⟩ := (allErr_zero l).1 hz
  have HZ1 := Aside0.mk hz1
  have HZ2 := Aside0.mk hz2
  have HM1 := Aside0.mk hm1
  have HREV := Aside0.mk (meanR_rev l h0n hz)
  rw [← hm1] at HREV
  have HONE := Aside0.mk (meanR_one l h0n hz)
  have HRM := Aside0.mk (right_mean l h0n hz)
  rw [← hm1] at HRM
  have hdim : m1.length = (l.getD 0 []).length := by rw [hm1, meanV_len]
  have HDIM := Aside0.mk hdim
  have HAT := Aside0.mk (fun i => meanV_at l i)
  rw [← hm1] at HAT
  have HLA := Aside0.mk (len_at l hz2)
  have HSM := Aside0.mk (same_is (m1.length + 1) m1 m1 (by omega) hm4')
  clear h0 hz hz1 hz2 hm1 hdim
  obtain ⟨ad, A0, c0, hA, hcell0, hlc0, hC0⟩ := C_row HR4.out 0 h0n
  subst hA
  have HLC0 := Aside0.mk hlc0
  have HC0 := Aside0.mk hC0
  have hmax0 := Kd.C_max hC0
  rw [add0] at hcell0
  have HCL0 := Aside0.mk hcell0
  clear hlc0 hC0 hcell0
  generalize hx0 : l.getD 0 [] = x0 at *
  have HX0 := Aside0.mk hx0
  have HSX := Aside0.mk (same_is (x0.length + 1) x0 x0 (by omega) hmax0)
  clear hx0
  go_wp2_with fail
  go_loopg [5, 6] l.length (fun gg v5 s6 wr => ∃ (m : Nat) (x : Int), m ≤ l.length ∧ l.length - m ≤ gg ∧ s6 = .int .i64 x ∧ x = (l.length : Int) - 1 - m ∧ Aside0 (Kd.R (Kd.fixed kR w4) 25 wr w4.heap.size (fun _ => True) v5 (bk l m)) ∧ Aside0 (Below w4.heap.size w4 wr))
  case atStart => exact ⟨0, _, Nat.zero_le _, by omega, rfl, by omega, ⟨by rw [bk_zero]; exact Kd.R_nil _ _ _ _ _⟩, ⟨Below.refl _ _⟩⟩
  case round =>
    obtain ⟨m, x, hm, hg, rfl, hx, HO, HB⟩ := hrel
    by_cases hlt : m < l.length
    · obtain ⟨p, hp⟩ : ∃ p : Nat, p + m + 1 = l.length := ⟨l.length - 1 - m, by omega⟩
      obtain rfl : x = (p : Int) := by omega
      have hpl : p < l.length := by omega
      have hpz : (p : Int) < (l.length : Int) := by omega
      obtain ⟨ad', A', c', hA, hcell2, hlc', hC⟩ := C_row HR4.out p hpl
      injection hA with hA
      subst hA
      replace hcell2 := (HB.out.cell (World.block_lt_of_cell? w4 _ hcell2)).trans hcell2
      have HKK := Aside0.mk (show kR.K w4 (l.getD p []) [.slice A' (l.getD p []).length c'] from ⟨A', c', rfl, hlc', hC⟩)
      have HPS := Aside0.mk (bk_snoc l p m hp)
      have HP := Aside0.mk hp
      have hp0 : (0 : Int) ≤ (p : Int) := by omega
      have HLN := Aside0.mk (bk_len l m hm)
      clear hlc' hC hx hp
      generalize l.getD p [] = y at *
      go_wp2_with ((with_reducible refine gate_builtin (b := .append) (xs := #[.tmp 38, .tmp 43]) rfl ?_); at_builtin; refine Kd.R_append (Kd.fixed kR w4) (w0 := w4) w4.heap.size rfl (.tmp 38) (.tmp 43) 22 25 (.slice none 0 0) 24 rfl Try.underlying22 info_row rfl (show 0 < 1 by decide) (by omega) u5 (bk l m) y [.slice A' y.length c'] (fun _ => True) (fun _ => False) rfl rfl HKK.out (fun _ hk => hk.elim) (fun _ _ => trivial) HO.out HB.out (below_size HB.out) (by rw [HLN.out]; omega) ?_; intro v5 w5 ho hb hg2 hat; rw [HPS.out] at ho; have HO2 := Aside0.mk ho; have HB2 := Aside0.mk hb; clear ho hb hg2 hat)
      go_roundg (l.length - (m + 1))
      case measure => omega
      case rel => exact ⟨m + 1, _, hlt, by omega, rfl, by have := HP.out; omega, HO2, HB2⟩
    · obtain rfl : m = l.length := by omega
      obtain rfl : x = -1 := by omega
      have hO := HO.out
      rw [bk_all] at hO
      obtain ⟨rv, hrv⟩ : ∃ rv, rv = l.reverse := ⟨_, rfl⟩
      rw [← hrv] at hO
      obtain ⟨A5, c5, e5, hl5, hC5⟩ := Kd.R_reads hO
      subst e5
      have HC5 := Aside0.mk (ReadsRow.imp_ hC5 (Below.refl _ _) (fun _ _ hp => kR.K_below HB.out hp) : Kd.C kR wr A5 rv.length rv)
      have HL5 := Aside0.mk hl5
      have HMR := Aside0.mk (show vec_Mean.f rv = some (m1, 0) by rw [hrv]; unfold vec_Mean.f; rw [if_pos (by rw [List.length_reverse]; omega), HREV.out])
      have HMO := Aside0.mk (show vec_Mean.f (l.take 1) = some (x0, 0) by unfold vec_Mean.f; rw [if_pos (by rw [List.length_take]; omega), HONE.out])
      have hc1 : (1 : Int) ≤ (c : Int) := by have := HC.out; omega
      have ht1 : (l.take 1).length = 1 := by rw [List.length_take]; omega
      have HT1 := Aside0.mk ht1
      clear hO hC5 hl5 ht1 HO hrv hx
      clear HREV HONE
      go_wp2_with fail
      refine (vec_Mean.calls A5 c5 rv m1 0 wr HC5.out HL5.out HMR.out).mono ?_
      rintro e w6 ⟨v6, rfl, ho6, hb6⟩
      have HB6 := Aside0.mk (below_step HB.out hb6)
      obtain ⟨A6, c6, rfl, hl6, hC6⟩ := Kd.R_reads ho6
      have HC6 := Aside0.mk hC6
      have HL6 := Aside0.mk hl6
      clear ho6 hb6 hC6 hl6
      go_wp2_with fail
      have HMC := vec_Mean.calls (some ad) c (l.take 1) x0 0 w6 (Kd.C_take (Kd.C_below HR4.out HB6.out) (by omega)) (by rw [HT1.out]; omega) HMO.out
      rw [HT1.out] at HMC
      refine HMC.mono ?_
      clear HMC
      rintro e w7 ⟨v7, rfl, ho7, hb7⟩
      have HB7 := Aside0.mk (below_step HB6.out hb7)
      obtain ⟨A7, c7, rfl, hl7, hC7⟩ := Kd.R_reads ho7
      have HC7 := Aside0.mk hC7
      have HL7 := Aside0.mk hl7
      have HC67 := Aside0.mk (Kd.C_below HC6.out hb7)
      have HC47 := Aside0.mk (Kd.C_below HC4.out HB7.out)
      clear ho7 hb7 hC7 hl7 HMR HMO hc1 HT1
      go_wp2_with fail
      refine (P.vec_Same.calls (m1.length + 1) A4 c4 m1 A6 c6 m1 true w7 HC47.out HL4.out HC67.out HL6.out HSM.out).mono ?_
      rintro e w8 ⟨rfl, hd8⟩
      have HB8 := Aside0.mk (bd HB7.out hd8)
      have HC78 := Aside0.mk (Kd.C_below HC7.out (bd (Below.refl _ _) hd8))
      have hcl8 := (HB8.out.cell (World.block_lt_of_cell? w4 _ HCL0.out)).trans HCL0.out
      clear hd8
      go_wp2_with fail
      refine (P.vec_Same.calls (x0.length + 1) A7 c7 x0 A0 c0 x0 true w8 HC78.out HL7.out (Kd.C_below HC0.out HB8.out) HLC0.out HSX.out).mono ?_
      rintro e w9 ⟨rfl, hd9⟩
      have HB9 := Aside0.mk (bd HB8.out hd9)
      clear hd9 hcl8
      go_wp2_with fail
      refine (vec_Check.calls A4 c4 m1 0 w9 (Kd.C_below HC4.out HB9.out) HL4.out (by unfold vec_Check.f checkV; rw [HRM.out]; rfl)).mono ?_
      rintro e w10 ⟨rfl, hd10⟩
      have HB10 := Aside0.mk (bd HB9.out hd10)
      have hcl10 := (HB10.out.cell (World.block_lt_of_cell? w4 _ HCL0.out)).trans HCL0.out
      have e10 : ((m1.length : Int) != (x0.length : Int)) = false := by rw [HDIM.out]; simp
      clear hd10
      go_wp2_with fail
      go_loopg [92] m1.length (fun gg s92 wr => ∃ i : Nat, i ≤ m1.length ∧ m1.length - i ≤ gg ∧ s92 = .int .i64 i ∧ Aside0 (Below w4.heap.size w4 wr))
      case atStart => exact ⟨0, Nat.zero_le _, by omega, rfl, HB10⟩
      case round =>
        obtain ⟨i, hi, hgi, rfl, HBi⟩ := hrel
        by_cases hit : i < m1.length
        · have hiz : (i : Int) < (m1.length : Int) := by omega
          have hix : i < x0.length := by have := HDIM.out; omega
          have hixz : (i : Int) < (x0.length : Int) := by omega
          have hi0 : (0 : Int) ≤ (i : Int) := by omega
          obtain ⟨ad4, hA4, hc4⟩ := C_byte' HC4.out i hit
          subst hA4
          replace hc4 := (HBi.out.cell (World.block_lt_of_cell? w4 _ hc4)).trans hc4
          obtain ⟨ad0, hA0, hc0⟩ := C_byte' HC0.out i hix
          subst hA0
          replace hc0 := (HBi.out.cell (World.block_lt_of_cell? w4 _ hc0)).trans hc0
          have hcli := (HBi.out.cell (World.block_lt_of_cell? w4 _ HCL0.out)).trans HCL0.out
          have HY := Aside0.mk (HAT.out i hit)
          have HMB := Aside0.mk (mean_between l h0n i)
          generalize m1.getD i 0 = y at *
          generalize x0.getD i 0 = x at *
          obtain ⟨wo, rfl⟩ : ∃ wo, wo = wr := ⟨_, rfl⟩
          go_wp2_with fail
          go_quiet (fail)
          have HBq := Aside0.mk (pw_below_drewN HBi.out nq)
          clear hc4 hc0 hcli
          go_wp2_with fail
          go_loopg [13, 14, 111] l.length (fun gg v13 v14 s111 wi => ∃ (j : Nat) (lo hi : Int), j ≤ l.length ∧ l.length - j ≤ gg ∧ v13 = .int .i32 lo ∧ v14 = .int .i32 hi ∧ s111 = .int .i64 j ∧ Aside0 (∀ k, k < j → lo ≤ (l.getD k []).getD i 0 ∧ (l.getD k []).getD i 0 ≤ hi) ∧ Aside0 (Below w4.heap.size w4 wi))
          case atStart => exact ⟨0, x, x, Nat.zero_le _, by omega, rfl, rfl, rfl, ⟨fun k hk => absurd hk (Nat.not_lt_zero k)⟩, HBq⟩
          case round =>
            obtain ⟨j, lo, hi', hj, hgj, rfl, rfl, rfl, HLH, HBj⟩ := hrel
            by_cases hjt : j < l.length
            · have hjz : (j : Int) < (l.length : Int) := by omega
              obtain ⟨ad', Aj, cj, hA, hcj, hlcj, hCj⟩ := C_row HR4.out j hjt
              injection hA with hA
              subst hA
              have hlj := HLA.out j hjt
              obtain ⟨adj, hAj, hcij⟩ := C_byte' hCj i (by omega)
              subst hAj
              rw [hlj] at hcj
              replace hcj := (HBj.out.cell (World.block_lt_of_cell? w4 _ hcj)).trans hcj
              replace hcij := (HBj.out.cell (World.block_lt_of_cell? w4 _ hcij)).trans hcij
              obtain ⟨z, hz⟩ : ∃ z, z = (l.getD j []).getD i 0 := ⟨_, rfl⟩
              rw [← hz] at hcij
              have HZ := Aside0.mk hz
              clear hz hlcj hCj hlj
              go_wp2_with fail
              go_quiet (fail)
              have HBk := Aside0.mk (pw_below_drewN HBj.out nq)
              go_wp2_with fail
              all_goals
                go_roundg (l.length - (j + 1))
                case measure => omega
                case rel =>
                  refine ⟨j + 1, _, _, hjt, by omega, rfl, rfl, by go_num, ⟨fun k hk => ?_⟩, HBk⟩
                  rcases Nat.lt_succ_iff_lt_or_eq.1 hk with h | rfl
                  · have := HLH.out k h
                    constructor <;> omega
                  · rw [← HZ.out]
                    constructor <;> omega
            · obtain rfl : j = l.length := by omega
              obtain ⟨g1, g2⟩ := HMB.out lo hi' HLH.out
              rw [← HY.out] at g1 g2
              go_wp2_with fail
              go_roundg (m1.length - (i + 1))
              case measure => omega
              case rel => exact ⟨i + 1, hit, by omega, by go_num, HBj⟩
        · obtain rfl : i = m1.length := by omega
          have HBe := Aside0.mk (below_step HB4.out HBi.out)
          go_wp2_with fail
          go_returns
          exact ⟨rfl, HBe.out⟩

theorem vecMeans.walk (A : Option Addr) (c : Nat) (l : List (List Int)) (W : World) (hl : l.length ≤ c) (hC : Kd.C (Kd.slice 21 (Kd.int .i32)) W A l.length l) (wl : ∀ x ∈ l, ∀ y ∈ x, (Lit.int .i32 y).wf = true) :
    Calls Try.prog 3 #[.slice A l.length c] W fun e W' => e = .returned (.bool true) ∧ Below W.heap.size W W' :=
  vecMeans.go A c l W hC hl

end Go.Proofs.Ytbdoeikdoohagaa.G
