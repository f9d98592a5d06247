/- quiverlaw12.MeansStay answers true, for every row of vectors and draws. -/
import Derived.Test.YtbdoeikdoohagaaLw
namespace Go.Proofs.Ytbdoeikdoohagaa.G
open Go.Shelf Go.RowKit Go.Proofs.YtbdoeikdoohagaaW.PrintWords Go.Proofs.YtbdoeikdoohagaaW.PrintLast Go.Proofs.YtbdoeikdoohagaaW.PrintMore
set_option linter.unusedVariables false
set_option linter.unusedSimpArgs false

theorem trainR_of {l : List (List Int)} {ds : List Int} (h : startR l ds = (pick l ds, 0)) : trainR l ds = (trainL l 4 (pick l ds), 0) := by
  unfold trainR
  rw [h, if_pos rfl]

set_option maxHeartbeats 4000000 in
set_option maxRecDepth 100000 in
theorem meansStay.go (A : Option Addr) (c : Nat) (l : List (List Int)) (B : Option Addr) (d : Nat) (ds : List Int) (w : World) (hr : Kd.C kR w A l.length l) (hc : l.length ≤ c) (hr' : Kd.C (Kd.int .i64) w B ds.length ds) (hc' : ds.length ≤ d) :
    Calls Try.prog 14 #[.slice A l.length c, .slice B ds.length d] w fun e w' => e = .returned (.bool true) ∧ Below w.heap.size w w' := by
  have HR := Aside0.mk hr
  have HC := Aside0.mk hc
  have HR' := Aside0.mk hr'
  have HC' := Aside0.mk hc'
  have hml := Kd.C_max hr
  have hml' := Kd.C_max hr'
  clear hr hc hr' hc'
  go_enter Try.func14, Try.ntmps14
  go_wp2_with fail
  refine (wakes12.calls true _ rfl).mono ?_
  rintro e w1 ⟨rfl, hb1⟩
  have HB1 := Aside0.mk hb1
  clear hb1
  go_wp2_with fail
  refine (few_go A c l 96 96 rfl (by decide) w1 (Kd.C_below HR.out HB1.out) HC.out).mono ?_
  rintro e w2 ⟨A2, c2, rfl, hl2, hC2, hb2⟩
  have hI96 := few_len 96 l
  generalize fewV 96 l = I at *
  have HB2 := Aside0.mk (below_step HB1.out hb2)
  have HI2 := Aside0.mk hC2
  have HL2 := Aside0.mk hl2
  clear hb2 hC2 hl2
  go_wp2_with fail
  refine (some_go B d ds w2 (Kd.C_below HR'.out HB2.out) HC'.out).mono ?_
  rintro e w3 ⟨A3, c3, rfl, hl3, hC3, hb3⟩
  have hD7 : (someV ds).length ≤ 7 := by unfold someV; rw [List.length_take]; omega
  generalize someV ds = D at *
  have HB3 := Aside0.mk (below_step HB2.out hb3)
  have HI3 := Aside0.mk (Kd.C_below HI2.out hb3)
  have HD3 := Aside0.mk hC3
  have HLD := Aside0.mk hl3
  clear hb3 hC3 hl3
  go_wp2_with fail
  refine (start_go' A2 c2 I A3 c3 D w3 HI3.out HL2.out HD3.out HLD.out).mono ?_
  rintro e w4 ⟨A4, c4, rfl, hl4, hC4, hb4⟩
  have HB4 := Aside0.mk (below_step HB3.out hb4)
  have HI4 := Aside0.mk (Kd.C_below HI3.out hb4)
  have HD4 := Aside0.mk (Kd.C_below HD3.out hb4)
  have HNE := Aside0.mk (fun h => startR_ne (l := I) (ds := D) h)
  have HOK := Aside0.mk (fun h => start_ok (l := I) (ds := D) h)
  have HTO := Aside0.mk (fun h => trainR_of (l := I) (ds := D) h)
  generalize startR I D = tt at *
  obtain ⟨t, te⟩ := tt
  simp only at *
  have hmt := Kd.C_max hC4
  have HC4 := Aside0.mk hC4
  have HL4 := Aside0.mk hl4
  clear hb4 hC4 hl4
  by_cases hz : te = 0
  case neg =>
    obtain rfl : t = [] := HNE.out hz
    have e1 : (te != 0) = true := by rw [bne_iff_ne]; exact hz
    clear hz
    go_wp2_with fail
    go_returns
    exact ⟨rfl, HB4.out⟩
  subst hz
  obtain ⟨hdr, hi1, hi2, hae, hpe⟩ := HOK.out rfl
  obtain rfl : t = pick I D := (Prod.mk.inj hpe).1
  have HTR := Aside0.mk (HTO.out rfl)
  have HAE := Aside0.mk (ok_of_err hae)
  have hd6 : 1 ≤ D.length ∧ D.length ≤ 6 := by
    unfold drawsOk at hdr
    rw [Bool.and_eq_true] at hdr
    exact of_decide_eq_true hdr.1
  have HPL := Aside0.mk (pick_len I D)
  obtain ⟨hd1, hd2⟩ := hd6
  have HPK := Aside0.mk (pick_ok (ds := D) hi1 HAE.out)
  clear hae hpe hdr HNE HOK HTO
  generalize hpk : pick I D = pk at *
  clear hpk
  go_wp2_with fail
  refine (train_go A2 c2 I A3 c3 D w4 HI4.out HL2.out HD4.out HLD.out).mono ?_
  rintro e w5 ⟨A5, c5, rfl, hl5, hC5, hb5⟩
  rw [HTR.out] at hl5 hC5 ⊢
  simp only at hl5 hC5 ⊢
  have HB5 := Aside0.mk (below_step HB4.out hb5)
  have HI5 := Aside0.mk (Kd.C_below HI4.out hb5)
  have HC45 := Aside0.mk (Kd.C_below HC4.out hb5)
  have HC5 := Aside0.mk hC5
  have HL5 := Aside0.mk hl5
  have hm5 := Kd.C_max hC5
  have HT := Aside0.mk (Eq.refl (trainL I 4 pk))
  clear hb5 hC5 hl5 HTR
  obtain ⟨t, ht⟩ : ∃ t, t = trainL I 4 pk := ⟨_, rfl⟩
  rw [← ht] at HC5 HL5 hm5 ⊢
  have HTE := Aside0.mk ht
  clear ht HT
  go_wp2_with fail
  go_loopg [7, 37] 4 (fun gg v7 s37 wr => ∃ (kk : Nat) (cc : List (List Int)) (A7 : Option Addr) (c7 : Nat), kk ≤ 4 ∧ 4 - kk ≤ gg ∧ s37 = .int .i64 kk ∧ v7 = .slice A7 cc.length c7 ∧ Aside0 (cc.length ≤ c7) ∧ Aside0 (Kd.C kR wr A7 cc.length cc) ∧ Aside0 (cc.length = D.length) ∧ Aside0 (okV (I.getD 0 []).length cc) ∧ Aside0 (t = trainL I (4 - kk) cc) ∧ Aside0 (Below w5.heap.size w5 wr))
  case atStart => exact ⟨0, pk, A4, c4, by omega, by omega, rfl, rfl, HL4, HC45, HPL, HPK, HTE, ⟨Below.refl _ _⟩⟩
  case round =>
    obtain ⟨kk, cc, A7, c7, hkk, hg, rfl, rfl, HL7, HC7, HLC, HOKc, HT, HB⟩ := hrel
    have hm7 := Kd.C_max HC7.out
    by_cases hlt : kk < 4
    · have hltz : (kk : Int) < (4 : Int) := by omega
      have hcl := HLC.out
      have HRR := Aside0.mk (roundR_of (c := cc) (l := I) (by omega) (by omega) hi1 hi2 HOKc.out HAE.out)
      have HRL := Aside0.mk ((round_len cc I).trans hcl)
      have HRK := Aside0.mk (round_ok HOKc.out HAE.out)
      have HT2 := Aside0.mk (show t = trainL I (4 - (kk + 1)) (roundV cc I) by rw [HT.out, show 4 - kk = (4 - (kk + 1)) + 1 by omega]; rfl)
      have HFX := Aside0.mk (fun (h : roundV cc I = cc) => HT.out.trans (train_fix h (4 - kk)))
      clear hcl
      go_wp2_with fail
      refine (round_go A7 c7 cc A2 c2 I wr HC7.out HL7.out (Kd.C_below HI5.out HB.out) HL2.out).mono ?_
      rintro e w6 ⟨A6, c6, rfl, hl6, hC6, hb6⟩
      rw [HRR.out] at hl6 hC6 ⊢
      simp only at hl6 hC6 ⊢
      have HB6 := Aside0.mk (below_step HB.out hb6)
      have HC6 := Aside0.mk hC6
      have HL6 := Aside0.mk hl6
      have HC76 := Aside0.mk (Kd.C_below HC7.out hb6)
      have hm6 := Kd.C_max hC6
      clear hb6 hC6 hl6
      go_wp2_with fail
      refine (same_go A6 c6 (roundV cc I) A7 c7 cc w6 HC6.out HL6.out HC76.out HL7.out).mono ?_
      rintro e w7 ⟨rfl, ⟨⟨q, rfl⟩⟩⟩
      by_cases he : roundV cc I = cc
      · rw [decide_eq_true he]
        have HTC := Aside0.mk (HFX.out he)
        clear he
        go_wp2_with fail
        refine (same_go A7 c7 cc A5 c5 t _ (Kd.C_drewN HC76.out q) HL7.out (Kd.C_drewN (Kd.C_below HC5.out HB6.out) q) HL5.out).mono ?_
        rintro e w8 ⟨rfl, ⟨⟨q2, rfl⟩⟩⟩
        rw [decide_eq_true HTC.out.symm]
        have HBe := Aside0.mk (below_step HB5.out (pw_below_drewN HB6.out (q + q2)))
        go_wp2_with fail
        go_returns
        exact ⟨rfl, HBe.out⟩
      · rw [decide_eq_false he]
        have HB7 := Aside0.mk (pw_below_drewN HB6.out q)
        have HC67 := Aside0.mk (Kd.C_drewN HC6.out q)
        clear he
        go_wp2_with fail
        go_roundg (4 - (kk + 1))
        case measure => omega
        case rel => exact ⟨kk + 1, roundV cc I, A6, c6, by omega, by omega, by go_num, rfl, HL6, HC67, HRL, HRK, HT2, HB7⟩
    · obtain rfl : kk = 4 := by omega
      have HTC := Aside0.mk (show t = cc from HT.out)
      go_wp2_with fail
      refine (same_go A7 c7 cc A5 c5 t _ HC7.out HL7.out (Kd.C_below HC5.out HB.out) HL5.out).mono ?_
      rintro e w8 ⟨rfl, ⟨⟨q2, rfl⟩⟩⟩
      rw [decide_eq_true HTC.out.symm]
      have HBe := Aside0.mk (below_step HB5.out (pw_below_drewN HB.out q2))
      go_wp2_with fail
      go_returns
      exact ⟨rfl, HBe.out⟩

theorem meansStay.walk (A : Option Addr) (c : Nat) (l : List (List Int)) (B : Option Addr) (d : Nat) (ds : List Int) (W : World) (hl : l.length ≤ c) (hC : Kd.C (Kd.slice 21 (Kd.int .i32)) W A l.length l) (wl : ∀ x ∈ l, ∀ y ∈ x, (Lit.int .i32 y).wf = true) (hd : ds.length ≤ d) (hD : Kd.C (Kd.int .i64) W B ds.length ds) (wd : ∀ x ∈ ds, (Lit.int .i64 x).wf = true) :
    Calls Try.prog 14 #[.slice A l.length c, .slice B ds.length d] W fun e W' => e = .returned (.bool true) ∧ Below W.heap.size W W' :=
  meansStay.go A c l B d ds W hC hl hD hd

end Go.Proofs.Ytbdoeikdoohagaa.G
