/- quiverlaw12.MeansWithin answers true, for every row of vectors and draws. -/
import Derived.Test.YtbdoeikdoohagaaLw
namespace Go.Proofs.Ytbdoeikdoohagaa.G
open Go.Shelf Go.RowKit Go.Proofs.YtbdoeikdoohagaaW.PrintWords Go.Proofs.YtbdoeikdoohagaaW.PrintLast Go.Proofs.YtbdoeikdoohagaaW.PrintMore
set_option linter.unusedVariables false
set_option linter.unusedSimpArgs false

theorem within_at {I : List (List Int)} {D : List Int} {d : Nat} (hI : okV d I) (h0 : 0 < I.length) (i : Nat) (hi : i < d) (lo hi' : Int) (h : ∀ k, k < I.length → lo ≤ (I.getD k []).getD i 0 ∧ (I.getD k []).getD i 0 ≤ hi') (j : Nat) (hj : j < (trainL I 4 (pick I D)).length) :
    ((trainL I 4 (pick I D)).getD j []).length = d ∧ lo ≤ ((trainL I 4 (pick I D)).getD j []).getD i 0 ∧ ((trainL I 4 (pick I D)).getD j []).getD i 0 ≤ hi' := by
  have hin : inB i lo hi' I := fun x hx => by
    obtain ⟨k, hk, rfl⟩ := List.getElem_of_mem hx
    have := h k hk
    rwa [getD_of_lt I k [] hk] at this
  have hp : inB i lo hi' (pick I D) := fun x hx => hin x (pick_mem h0 hx)
  have hm : (trainL I 4 (pick I D)).getD j [] ∈ trainL I 4 (pick I D) := by rw [getD_of_lt _ j [] hj]; exact List.getElem_mem hj
  exact ⟨(train_ok hI 4 _ (pick_ok h0 hI) _ hm).2, train_in hi hI hin 4 _ hp _ hm⟩

set_option maxHeartbeats 4000000 in
set_option maxRecDepth 100000 in
theorem meansWithin.go (A : Option Addr) (c : Nat) (l : List (List Int)) (B : Option Addr) (d : Nat) (ds : List Int) (w : World) (hr : Kd.C kR w A l.length l) (hc : l.length ≤ c) (hr' : Kd.C (Kd.int .i64) w B ds.length ds) (hc' : ds.length ≤ d) :
    Calls Try.prog 13 #[.slice A l.length c, .slice B ds.length d] w fun e w' => e = .returned (.bool true) ∧ Below w.heap.size w w' := by
  have HR := Aside0.mk hr
  have HC := Aside0.mk hc
  have HR' := Aside0.mk hr'
  have HC' := Aside0.mk hc'
  have hml := Kd.C_max hr
  have hml' := Kd.C_max hr'
  clear hr hc hr' hc'
  go_enter Try.func13, Try.ntmps13
  go_wp2_with fail
  refine (wakes12.calls true _ rfl).mono ?_
  rintro e w1 ⟨rfl, hb1⟩
  have HB1 := Aside0.mk hb1
  clear hb1
  go_wp2_with fail
  refine (few_go A c l 96 96 rfl (by decide) w1 (Kd.C_below HR.out HB1.out) HC.out).mono ?_
  rintro e w2 ⟨A2, c2, rfl, hl2, hC2, hb2⟩
  have hI96 := few_len 96 l
  generalize fewV 96 l = I at *
  have HB2 := Aside0.mk (below_step HB1.out hb2)
  have HI2 := Aside0.mk hC2
  have HL2 := Aside0.mk hl2
  clear hb2 hC2 hl2
  go_wp2_with fail
  refine (some_go B d ds w2 (Kd.C_below HR'.out HB2.out) HC'.out).mono ?_
  rintro e w3 ⟨A3, c3, rfl, hl3, hC3, hb3⟩
  have hD7 : (someV ds).length ≤ 7 := by unfold someV; rw [List.length_take]; omega
  generalize someV ds = D at *
  have HB3 := Aside0.mk (below_step HB2.out hb3)
  have HTR := Aside0.mk (train_go A2 c2 I A3 c3 D w3 (Kd.C_below HI2.out hb3) HL2.out hC3 hl3)
  have HI3 := Aside0.mk (Kd.C_below HI2.out hb3)
  clear hb3 hC3 hl3
  go_wp2_with fail
  refine HTR.out.mono ?_
  rintro e w4 ⟨A4, c4, rfl, hl4, hC4, hb4⟩
  have HB4 := Aside0.mk (below_step HB3.out hb4)
  have HI4 := Aside0.mk (Kd.C_below HI3.out hb4)
  have HNE := Aside0.mk (fun h => trainR_ne (l := I) (ds := D) h)
  have HOK := Aside0.mk (fun h => trainR_ok (l := I) (ds := D) h)
  generalize trainR I D = tt at *
  obtain ⟨t, te⟩ := tt
  simp only at *
  have HT4 := Aside0.mk hC4
  have hmt := Kd.C_max hC4
  clear hb4 hC4 HTR hl4
  by_cases hz : te = 0
  case neg =>
    obtain rfl : t = [] := HNE.out hz
    have e1 : (te != 0) = true := by rw [bne_iff_ne]; exact hz
    clear hz
    go_wp2_with fail
    go_returns
    exact ⟨rfl, HB4.out⟩
  subst hz
  obtain ⟨⟨hd1, hd6⟩, ⟨hi1, hi2⟩, hok, hst, ht, hdr⟩ := HOK.out rfl
  have htl : t.length = D.length := by rw [ht, train_len, pick_len]
  have e9 : ((t.length : Int) == (D.length : Int)) = true := by rw [beq_iff_eq, htl]
  have HW := Aside0.mk (fun i hi lo hi' h j => within_at (D := D) hok hi1 i hi lo hi' h j)
  rw [← ht] at HW
  have HLI := Aside0.mk (fun k (hk : k < I.length) => (hok _ (by rw [getD_of_lt I k [] hk]; exact List.getElem_mem hk : I.getD k [] ∈ I)).2)
  have h0z : (0 : Int) < (I.length : Int) := by omega
  obtain ⟨ad, A0, c0, rfl, hcell0, hlc0, hC0⟩ := C_row HI4.out 0 hi1
  have HC0 := Aside0.mk hC0
  have hmax0 := Kd.C_max hC0
  rw [add0] at hcell0
  have HCL0 := Aside0.mk hcell0
  clear hlc0 hC0 hst ht htl hdr hok HNE HOK
  generalize hx0 : I.getD 0 [] = x0 at *
  clear hx0
  have HBr := Aside0.mk (Below.refl w4.heap.size w4)
  go_wp2_with fail
  go_loopg [37] x0.length (fun gg s37 wr => ∃ i : Nat, i ≤ x0.length ∧ x0.length - i ≤ gg ∧ s37 = .int .i64 i ∧ Aside0 (Below w4.heap.size w4 wr))
  case atStart => exact ⟨0, Nat.zero_le _, by omega, rfl, HBr⟩
  case round =>
    obtain ⟨i, hi, hgi, rfl, HBi⟩ := hrel
    clear hcell0
    by_cases hit : i < x0.length
    · have hiz : (i : Int) < (x0.length : Int) := by omega
      have hi0 : (0 : Int) ≤ (i : Int) := by omega
      obtain ⟨ad0, hA0, hc0⟩ := C_byte' HC0.out i hit
      subst hA0
      replace hc0 := (HBi.out.cell (World.block_lt_of_cell? w4 _ hc0)).trans hc0
      have hcli := (HBi.out.cell (World.block_lt_of_cell? w4 _ HCL0.out)).trans HCL0.out
      have HWi := Aside0.mk (HW.out i hit)
      generalize x0.getD i 0 = x at *
      obtain ⟨wo, rfl⟩ : ∃ wo, wo = wr := ⟨_, rfl⟩
      go_wp2_with fail
      go_quiet (fail)
      have HBq := Aside0.mk (pw_below_drewN HBi.out nq)
      clear hc0 hcli
      go_wp2_with fail
      go_loopg [10, 11, 54] I.length (fun gg v13 v14 s111 wi => ∃ (j : Nat) (lo hi : Int), j ≤ I.length ∧ I.length - j ≤ gg ∧ v13 = .int .i32 lo ∧ v14 = .int .i32 hi ∧ s111 = .int .i64 j ∧ Aside0 (∀ k, k < j → lo ≤ (I.getD k []).getD i 0 ∧ (I.getD k []).getD i 0 ≤ hi) ∧ Aside0 (Below w4.heap.size w4 wi))
      case atStart => exact ⟨0, x, x, Nat.zero_le _, by omega, rfl, rfl, rfl, ⟨fun k hk => absurd hk (Nat.not_lt_zero k)⟩, HBq⟩
      case round =>
        obtain ⟨j, lo, hi', hj, hgj, rfl, rfl, rfl, HLH, HBj⟩ := hrel
        by_cases hjt : j < I.length
        · have hjz : (j : Int) < (I.length : Int) := by omega
          obtain ⟨ad', Aj, cj, hA, hcj, hlcj, hCj⟩ := C_row HI4.out j hjt
          injection hA with hA
          subst hA
          have hlj := HLI.out j hjt
          obtain ⟨adj, hAj, hcij⟩ := C_byte' hCj i (by omega)
          subst hAj
          rw [hlj] at hcj
          replace hcj := (HBj.out.cell (World.block_lt_of_cell? w4 _ hcj)).trans hcj
          replace hcij := (HBj.out.cell (World.block_lt_of_cell? w4 _ hcij)).trans hcij
          obtain ⟨z, hz⟩ : ∃ z, z = (I.getD j []).getD i 0 := ⟨_, rfl⟩
          rw [← hz] at hcij
          have HZ := Aside0.mk hz
          clear hz hlcj hCj hlj
          go_wp2_with fail
          go_quiet (fail)
          have HBk := Aside0.mk (pw_below_drewN HBj.out nq)
          go_wp2_with fail
          all_goals
            go_roundg (I.length - (j + 1))
            case measure => omega
            case rel =>
              refine ⟨j + 1, _, _, hjt, by omega, rfl, rfl, by go_num, ⟨fun k hk => ?_⟩, HBk⟩
              rcases Nat.lt_succ_iff_lt_or_eq.1 hk with h | rfl
              · have := HLH.out k h
                constructor <;> omega
              · rw [← HZ.out]
                constructor <;> omega
        · obtain rfl : j = I.length := by omega
          have HWt := Aside0.mk (HWi.out lo hi' HLH.out)
          obtain ⟨wo2, rfl⟩ : ∃ wo2, wo2 = wr := ⟨_, rfl⟩
          go_wp2_with fail
          go_loopg [73] t.length (fun gg s73 wi => ∃ j : Nat, j ≤ t.length ∧ t.length - j ≤ gg ∧ s73 = .int .i64 j ∧ Aside0 (Below w4.heap.size w4 wi))
          case atStart => exact ⟨0, Nat.zero_le _, by omega, rfl, HBj⟩
          case round =>
            obtain ⟨m, hm, hgm, rfl, HBm⟩ := hrel
            by_cases hmt : m < t.length
            · have hmz : (m : Int) < (t.length : Int) := by omega
              obtain ⟨hlm, g1, g2⟩ := HWt.out m hmt
              obtain ⟨adt, Am, cm, hA, hcm, hlcm, hCm⟩ := C_row HT4.out m hmt
              subst hA
              obtain ⟨adm, hAm, hcim⟩ := C_byte' hCm i (by omega)
              subst hAm
              rw [hlm] at hcm
              replace hcm := (HBm.out.cell (World.block_lt_of_cell? w4 _ hcm)).trans hcm
              replace hcim := (HBm.out.cell (World.block_lt_of_cell? w4 _ hcim)).trans hcim
              have hcl0 := (HBm.out.cell (World.block_lt_of_cell? w4 _ HCL0.out)).trans HCL0.out
              generalize (t.getD m []).getD i 0 = z at *
              have e1 : ((x0.length : Int) != (x0.length : Int)) = false := by simp
              clear hlcm hCm hlm
              go_wp2_with fail
              go_roundg (t.length - (m + 1))
              case measure => omega
              case rel => exact ⟨m + 1, hmt, by omega, by go_num, HBm⟩
            · obtain rfl : m = t.length := by omega
              go_wp2_with fail
              go_roundg (x0.length - (i + 1))
              case measure => omega
              case rel => exact ⟨i + 1, hit, by omega, by go_num, HBm⟩
    · obtain rfl : i = x0.length := by omega
      have HBe := Aside0.mk (below_step HB4.out HBi.out)
      go_wp2_with fail
      go_returns
      exact ⟨rfl, HBe.out⟩

theorem meansWithin.walk (A : Option Addr) (c : Nat) (l : List (List Int)) (B : Option Addr) (d : Nat) (ds : List Int) (W : World) (hl : l.length ≤ c) (hC : Kd.C (Kd.slice 21 (Kd.int .i32)) W A l.length l) (wl : ∀ x ∈ l, ∀ y ∈ x, (Lit.int .i32 y).wf = true) (hd : ds.length ≤ d) (hD : Kd.C (Kd.int .i64) W B ds.length ds) (wd : ∀ x ∈ ds, (Lit.int .i64 x).wf = true) :
    Calls Try.prog 13 #[.slice A l.length c, .slice B ds.length d] W fun e W' => e = .returned (.bool true) ∧ Below W.heap.size W W' :=
  meansWithin.go A c l B d ds W hC hl hD hd

end Go.Proofs.Ytbdoeikdoohagaa.G
