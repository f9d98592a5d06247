/- Contract of means.Train: a training. -/
import Derived.WalkMore
import Derived.Test.YtbdoeikdoohagaaG9R
namespace Go.Proofs.Ytbdoeikdoohagaa.G
open Go.Shelf Go.RowKit Go.Proofs.YtbdoeikdoohagaaW.PrintWords Go.Proofs.YtbdoeikdoohagaaW.PrintLast Go.Proofs.YtbdoeikdoohagaaW.PrintMore
set_option linter.unusedVariables false
set_option linter.unusedSimpArgs false

theorem partsR_of {d : Nat} {c l : List (List Int)} (h1 : 0 < c.length) (h2 : c.length ≤ 6) (h3 : 1 ≤ l.length) (h4 : l.length ≤ 96) (hc : okV d c) (hl : okV d l) : partsR c l = (partsV c l, 0) := by
  have e1 : centErr c = 0 := by unfold centErr; rw [if_neg (by omega), if_neg (by omega)]
  have e2 : manyErr l = 0 := by unfold manyErr; rw [if_neg (by omega), if_neg (by omega)]
  unfold partsR
  rw [if_pos e1, if_pos e2, if_pos (err_of_ok (ok_append.2 ⟨hc, hl⟩))]
theorem roundR_of {d : Nat} {c l : List (List Int)} (h1 : 0 < c.length) (h2 : c.length ≤ 6) (h3 : 1 ≤ l.length) (h4 : l.length ≤ 96) (hc : okV d c) (hl : okV d l) : roundR c l = (roundV c l, 0) := by
  unfold roundR
  rw [partsR_of h1 h2 h3 h4 hc hl, if_pos rfl]
def means_Train.f (l : List (List Int)) (ds : List Int) : Option (List (List Int) × Int) := some (trainR l ds)

set_option maxHeartbeats 2000000 in
set_option maxRecDepth 100000 in
theorem means_Train.calls (A : Option Addr) (c : Nat) (l : List (List Int)) (B : Option Addr) (d : Nat) (ds : List Int) (r1 : List (List Int)) (r2 : Int) (w : World) (hr : Kd.C (Kd.slice 21 (Kd.int .i32)) w A l.length l) (hc : l.length ≤ c) (hr' : Kd.C (Kd.int .i64) w B ds.length ds) (hc' : ds.length ≤ d) (h : means_Train.f l ds = some (r1, r2)) :
    Calls Try.prog 38 #[.slice A l.length c, .slice B ds.length d] w fun e w' => ∃ v0_ : Value, e = .returned (.tuple #[v0_, .int .i64 r2]) ∧ Kd.R (Kd.slice 21 (Kd.int .i32)) 25 w' w.heap.size (fun _ => True) v0_ r1 ∧ Below w.heap.size w w' := by
  replace h := Option.some.inj h
  unfold trainR at h
  obtain ⟨pp, hpp⟩ : ∃ pp, pp = startR l ds := ⟨_, rfl⟩
  obtain ⟨p1, p2⟩ := pp
  rw [← hpp] at h
  have HPP := Aside0.mk hpp
  have HR := Aside0.mk hr
  have HCc := Aside0.mk hc
  have hm := Kd.C_max hr
  have H := Aside0.mk h
  have HST := Aside0.mk (means_Start.calls A c l B d ds p1 p2 w hr hc hr' hc' (congrArg some hpp.symm))
  clear hr hr' h hpp hc hc'
  go_enter Try.func38, Try.ntmps38
  go_wp2_with fail
  go_step3
  go_wp2_with fail
  refine HST.out.mono ?_
  rintro e w1 ⟨v1, rfl, ho1, hb1⟩
  have h := H.out
  by_cases hz : p2 = 0
  case neg =>
    simp only [hz, if_false] at h
    obtain ⟨rfl, rfl⟩ := Prod.mk.inj h
    have e3 : (p2 != 0) = true := by rw [bne_iff_ne]; exact hz
    have HB1 := Aside0.mk hb1
    clear h H hz ho1 hb1
    go_wp2_with fail
    rw [Exit.noGoto_ret]
    go_returns
    exact ⟨_, rfl, Kd.R_nil _ _ _ _ _, HB1.out⟩
  simp only [hz, if_true] at h
  subst hz
  obtain ⟨rfl, rfl⟩ := Prod.mk.inj h
  obtain ⟨hdr, hl1, hl2, hae, hpe⟩ := start_ok (l := l) (ds := ds) (by rw [← HPP.out])
  obtain rfl : p1 = pick l ds := by rw [← HPP.out] at hpe; exact (Prod.mk.inj hpe).1
  have hd6 : 1 ≤ ds.length ∧ ds.length ≤ 6 := by
    unfold drawsOk at hdr
    rw [Bool.and_eq_true] at hdr
    exact of_decide_eq_true hdr.1
  obtain ⟨hd1, hd2⟩ := hd6
  have HOK := Aside0.mk (ok_of_err hae)
  have HO1 := Aside0.mk ho1
  have HB1 := Aside0.mk hb1
  clear h H hpe hae ho1 hb1 HPP hdr
  go_wp2_with fail
  go_step3
  go_wp2_with fail
  go_loopg [6, 19] 4 (fun gg v6 s19 wr => ∃ (kk : Nat) (cc : List (List Int)), kk ≤ 4 ∧ 4 - kk ≤ gg ∧ s19 = .int .i64 kk ∧ Aside0 (cc.length = ds.length) ∧ Aside0 (okV (l.getD 0 []).length cc) ∧ Aside0 (trainL l 4 (pick l ds) = trainL l (4 - kk) cc) ∧ Aside0 (Kd.R kR 25 wr w.heap.size (fun _ => True) v6 cc) ∧ Aside0 (Below w.heap.size w wr))
  case atStart => exact ⟨0, pick l ds, by omega, by omega, rfl, ⟨pick_len l ds⟩, ⟨pick_ok hl1 HOK.out⟩, ⟨rfl⟩, HO1, HB1⟩
  case round =>
    obtain ⟨kk, cc, hkk, hg, rfl, HL, HK, HT, HO, HB⟩ := hrel
    by_cases hlt : kk < 4
    · have hltz : (kk : Int) < (4 : Int) := by omega
      obtain ⟨A6, c6, rfl, hl6, hC6⟩ := Kd.R_reads HO.out
      have hcl := HL.out
      have HRD := Aside0.mk (means_Round.calls A6 c6 cc A c l (roundV cc l) 0 wr hC6 hl6 (Kd.C_below HR.out HB.out) HCc.out (by unfold means_Round.f; rw [roundR_of (d := (l.getD 0 []).length) (by omega) (by omega) hl1 hl2 HK.out HOK.out]))
      have HC6 := Aside0.mk hC6
      have HL6 := Aside0.mk hl6
      have HRL := Aside0.mk ((round_len cc l).trans hcl)
      have HRK := Aside0.mk (round_ok HK.out HOK.out)
      have HT2 := Aside0.mk (show trainL l (4 - kk) cc = trainL l (4 - (kk + 1)) (roundV cc l) by rw [show 4 - kk = (4 - (kk + 1)) + 1 by omega]; rfl)
      have HFX := Aside0.mk (fun (h : roundV cc l = cc) => train_fix h (4 - kk))
      have hm6 := Kd.C_max hC6
      clear hC6 hl6 hcl
      go_wp2_with fail
      refine HRD.out.mono ?_
      rintro e w5 ⟨v5, rfl, ho5, hb5⟩
      obtain ⟨A5, c5, rfl, hl5, hC5⟩ := Kd.R_reads ho5
      have HO5 := Aside0.mk (Kd.R_lower ho5 HB.out.size)
      have HO := Aside0.mk (Kd.R_below HO.out hb5)
      have HB5 := Aside0.mk (below_step HB.out hb5)
      have hm5 := Kd.C_max hC5
      have hsame := means_Same.calls A5 c5 (roundV cc l) A6 c6 cc (decide (roundV cc l = cc)) w5 hC5 hl5 (Kd.C_below HC6.out hb5) HL6.out
      clear hC5 hl5 ho5 hb5
      by_cases he : roundV cc l = cc
      · rw [decide_eq_true he] at hsame
        have HS := Aside0.mk (hsame (by unfold means_Same.f; rw [decide_eq_true he]))
        have HE := Aside0.mk (by rw [HT.out]; exact HFX.out he : trainL l 4 (pick l ds) = cc)
        clear hsame he
        generalize (roundV cc l).length = n5 at *
        generalize cc.length = n6 at *
        go_wp2_with fail
        refine HS.out.mono ?_
        rintro e w7 ⟨rfl, ⟨⟨q, rfl⟩⟩⟩
        go_wp2_with fail
        rw [Exit.noGoto_ret]
        go_returns
        exact ⟨_, rfl, by rw [HE.out]; exact Kd.R_drewN HO.out q, pw_below_drewN HB5.out q⟩
      · rw [decide_eq_false he] at hsame
        have HS := Aside0.mk (hsame (by unfold means_Same.f; rw [decide_eq_false he]))
        have HE := Aside0.mk (by rw [HT.out]; exact HT2.out : trainL l 4 (pick l ds) = trainL l (4 - (kk + 1)) (roundV cc l))
        clear hsame he
        generalize hn5 : (roundV cc l).length = n5 at *
        generalize cc.length = n6 at *
        have HN5 := Aside0.mk hn5
        clear hn5
        go_wp2_with fail
        refine HS.out.mono ?_
        rintro e w7 ⟨rfl, ⟨⟨q, rfl⟩⟩⟩
        go_wp2_with fail
        go_roundg (4 - (kk + 1))
        case measure => omega
        case rel => exact ⟨kk + 1, roundV cc l, by omega, by omega, by go_num, ⟨HN5.out.trans HRL.out⟩, HRK, HE, ⟨Kd.R_drewN HO5.out q⟩, ⟨pw_below_drewN HB5.out q⟩⟩
    · obtain rfl : kk = 4 := by omega
      have HE := Aside0.mk (show trainL l 4 (pick l ds) = cc from HT.out)
      go_wp2_with fail
      rw [Exit.noGoto_ret]
      go_returns
      exact ⟨_, rfl, by rw [HE.out]; exact HO.out, HB.out⟩

end Go.Proofs.Ytbdoeikdoohagaa.G
