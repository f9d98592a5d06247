/- quiverlaw12.MeansStarts answers true, for every vectors and draws. -/
import Derived.Test.YtbdoeikdoohagaaE12
namespace Go.Proofs.Ytbdoeikdoohagaa.G
open Go.Shelf Go.RowKit Go.Proofs.YtbdoeikdoohagaaW.PrintWords Go.Proofs.YtbdoeikdoohagaaW.PrintLast Go.Proofs.YtbdoeikdoohagaaW.PrintMore
set_option linter.unusedVariables false
set_option linter.unusedSimpArgs false

theorem few_less {n m : Nat} {l : List (List Int)} (h : (fewV n l).length ≤ m) (hm : m < n) : fewV m l = fewV n l := by
  unfold fewV at h ⊢
  rw [List.length_map, List.length_take] at h
  rw [List.take_of_length_le (by omega), List.take_of_length_le (by omega)]
theorem few_V (A : Option Addr) (c : Nat) (l : List (List Int)) (a : Int) (n : Nat) (ha : a = (n : Int)) (hn : n ≤ 1000) (W : World) (hC : Kd.C kR W A l.length l) (hl : l.length ≤ c) :
    Calls Try.prog 35 #[.slice A l.length c, .int .i64 a] W fun e w' => ∃ A' c', e = .returned (.slice A' (fewV n l).length c') ∧ (fewV n l).length ≤ c' ∧ Kd.V kR 25 w' 0 (fun _ => True) (.slice A' (fewV n l).length c') (fewV n l) ∧ Below W.heap.size W w' := by
  subst ha
  refine (P.quiverlaw12_few.calls (l.length + 1) A c l n (fewV n l) W hC hl (few_is _ l n hn (Kd.C_max hC) (by omega))).mono ?_
  rintro e w' ⟨v, rfl, ho, hb⟩
  have hV := Kd.V_mono (Kd.S_V (base' := 0) ho) (ok' := fun _ => True) (fun _ _ => trivial)
  obtain ⟨A', c', rfl, hl', hC'⟩ := Kd.S_reads ho
  exact ⟨A', c', rfl, hl', hV, hb⟩
theorem C_num {k : IntKind} {w : World} {A : Option Addr} {l : List Int} (h : Kd.C (Kd.int k) w A l.length l) (j : Nat) (hj : j < l.length) : ∃ ad, A = some ad ∧ w.cell? (ad.add j) = some (.int k (l.getD j 0)) := by
  obtain ⟨ad, cc, hA, _, hK, hcell⟩ := Kd.C_get h 0 (j : Int) (by omega) (by omega)
  rw [Int.toNat_natCast] at hK hcell
  have hK' : cc = [.int k (l.getD j 0)] := hK
  subst hK'
  exact ⟨ad, hA, by simpa using (show w.cell? (ad.add (j * 1 + 0)) = _ from hcell 0 _ rfl)⟩
theorem rows_short {dd : Nat} {l : List (List Int)} (h : okV dd l) : ∀ i, (l.getD i []).length ≤ 100 := fun i => by
  by_cases hi : i < l.length
  · rw [getD_of_lt _ i [] hi]
    have := right_len _ (h _ (List.getElem_mem hi)).1
    omega
  · rw [List.getD_eq_getElem?_getD, List.getElem?_eq_none (by omega)]; exact Nat.zero_le _
theorem ok_both {dd : Nat} {c l : List (List Int)} (hc : okV dd c) (hl : okV dd l) : allErr (c ++ l) = 0 := err_of_ok (d := dd) (fun x hx => by
  rcases List.mem_append.1 hx with hx | hx
  · exact hc x hx
  · exact hl x hx)
theorem draws_get {ds : List Int} (h : drawsOk ds = true) : (1 ≤ ds.length ∧ ds.length ≤ 6) ∧ ∀ i, 0 ≤ ds.getD i 0 := by
  unfold drawsOk at h
  rw [Bool.and_eq_true] at h
  refine ⟨of_decide_eq_true h.1, fun i => ?_⟩
  by_cases hi : i < ds.length
  · rw [getD_of_lt _ i 0 hi]
    have := List.all_eq_true.1 h.2 _ (List.getElem_mem hi)
    unfold okD at this
    exact (of_decide_eq_true this).1
  · rw [List.getD_eq_getElem?_getD, List.getElem?_eq_none (by omega)]; exact Int.le_refl _
theorem trainL_len (l : List (List Int)) : ∀ (k : Nat) (c : List (List Int)), (trainL l k c).length = c.length
  | 0, c => rfl
  | k + 1, c => by rw [trainL, trainL_len l k, round_len]

set_option maxHeartbeats 4000000 in
set_option maxRecDepth 100000 in
theorem train12_go (A : Option Addr) (c : Nat) (l : List (List Int)) (B : Option Addr) (d : Nat) (ds : List Int) (w : World) (hv : Kd.V kR 25 w 0 (fun _ => True) (.slice A l.length c) l) (hr' : Kd.C (Kd.int .i64) w B ds.length ds) (hc' : ds.length ≤ d) (hl0 : 1 ≤ l.length) (hl : l.length ≤ 96) (hae : allErr l = 0) (hds : drawsOk ds = true) :
    Calls Try.prog 43 #[.slice A l.length c, .slice B ds.length d] w fun e w' => ∃ A' c', e = .returned (.slice A' (trainL l 4 (pick l ds)).length c') ∧ (trainL l 4 (pick l ds)).length ≤ c' ∧ Kd.C kR w' A' (trainL l 4 (pick l ds)).length (trainL l 4 (pick l ds)) ∧ Below w.heap.size w w' := by
  obtain ⟨_, hlc, hC⟩ := Kd.V_reads' hv
  have HV := Aside0.mk hv
  have HC := Aside0.mk hC
  have HL := Aside0.mk hlc
  have HR' := Aside0.mk hr'
  have HC' := Aside0.mk hc'
  have hml := Kd.C_max hC
  have hml' := Kd.C_max hr'
  obtain ⟨⟨hd1, hd2⟩, hdn⟩ := draws_get hds
  have HAE := Aside0.mk (ok_of_err hae)
  have HPK := Aside0.mk (pick_ok (ds := ds) hl0 HAE.out)
  have HPL := Aside0.mk (pick_len l ds)
  have HST := Aside0.mk (start12_is l ds (by omega) (by omega) (rows_short HAE.out) (by omega) hdn)
  generalize pick l ds = pk at *
  obtain ⟨t, ht⟩ : ∃ t, t = trainL l 4 pk := ⟨_, rfl⟩
  rw [← ht]
  have HT := Aside0.mk ht
  clear hv hC hlc hr' hc' hdn hds hae ht
  go_enter Try.func43, Try.ntmps43
  go_wp2_with fail
  refine (P.quiverref12_Start.calls 200 A c l B d ds pk w HC.out HL.out HR'.out HC'.out HST.out).mono ?_
  rintro e w1 ⟨v1, rfl, ho1, hb1⟩
  obtain ⟨A1, c1, rfl, hl1, hC1⟩ := Kd.S_reads ho1
  have HB1 := Aside0.mk hb1
  have HC1 := Aside0.mk hC1
  have HL1 := Aside0.mk hl1
  clear hb1 hC1 hl1 ho1
  go_wp2_with fail
  go_loopg [5, 9] 4 (fun gg v5 s9 wr => ∃ (kk : Nat) (cc : List (List Int)) (A7 : Option Addr) (c7 : Nat), kk ≤ 4 ∧ 4 - kk ≤ gg ∧ s9 = .int .i64 kk ∧ v5 = .slice A7 cc.length c7 ∧ Aside0 (cc.length ≤ c7) ∧ Aside0 (Kd.C kR wr A7 cc.length cc) ∧ Aside0 (cc.length = ds.length) ∧ Aside0 (okV (l.getD 0 []).length cc) ∧ Aside0 (t = trainL l (4 - kk) cc) ∧ Aside0 (Below w.heap.size w wr))
  case atStart => exact ⟨0, pk, A1, c1, by omega, by omega, rfl, rfl, HL1, HC1, HPL, HPK, HT, HB1⟩
  case round =>
    obtain ⟨kk, cc, A7, c7, hkk, hg, rfl, rfl, HL7, HC7, HLC, HOKc, HTc, HB⟩ := hrel
    have hm7 := Kd.C_max HC7.out
    by_cases hlt : kk < 4
    · have hltz : (kk : Int) < (4 : Int) := by omega
      have HRN := Aside0.mk (round12_is cc l (by have := HLC.out; omega) (by have := HLC.out; omega) hl (ok_both HOKc.out HAE.out))
      have HRL := Aside0.mk ((round_len cc l).trans HLC.out)
      have HRK := Aside0.mk (round_ok HOKc.out HAE.out)
      have HT2 := Aside0.mk (show t = trainL l (4 - (kk + 1)) (roundV cc l) by rw [HTc.out, show 4 - kk = (4 - (kk + 1)) + 1 by omega]; rfl)
      generalize roundV cc l = nn at *
      go_wp2_with fail
      refine (P.quiverref12_Round.calls 2000 A7 c7 cc (fun _ => True) A c l nn wr HC7.out HL7.out (Kd.V_below HV.out HB.out) HRN.out).mono ?_
      rintro e w2 ⟨v2, rfl, ho2, hb2⟩
      obtain ⟨A2, c2, rfl, hl2, hC2⟩ := Kd.N_reads ho2
      have HB2 := Aside0.mk (below_step HB.out hb2)
      have HC2 := Aside0.mk hC2
      have HL2 := Aside0.mk hl2
      clear hb2 hC2 hl2 ho2
      go_wp2_with fail
      go_roundg (4 - (kk + 1))
      case measure => omega
      case rel => exact ⟨kk + 1, nn, A2, c2, by omega, by omega, by go_num, rfl, HL2, HC2, HRL, HRK, HT2, HB2⟩
    · have hltz : ¬ (kk : Int) < (4 : Int) := by omega
      obtain rfl : kk = 4 := by omega
      obtain rfl : t = cc := HTc.out
      go_wp2_with fail
      go_returns
      exact ⟨A7, c7, rfl, HL7.out, HC7.out, HB.out⟩

theorem idx0 (a b c d : Nat) (A B : Option Addr) (W : World) : (Instr.index 59 (.agg #[.slice A a b, .slice B c d]) (.int .i64 0)).run Try.prog W = .ok (.slice A a b) W := by
  kernel_rfl
theorem idx1 (a b c d : Nat) (A B : Option Addr) (W : World) : (Instr.index 59 (.agg #[.slice A a b, .slice B c d]) (.int .i64 1)).run Try.prog W = .ok (.slice B c d) W := by
  kernel_rfl

set_option maxHeartbeats 4000000 in
set_option maxRecDepth 100000 in
theorem meansStarts.go (A : Option Addr) (c : Nat) (l : List (List Int)) (B : Option Addr) (d : Nat) (ds : List Int) (w : World) (hr : Kd.C kR w A l.length l) (hc : l.length ≤ c) (hr' : Kd.C (Kd.int .i64) w B ds.length ds) (hc' : ds.length ≤ d) :
    Calls Try.prog 9 #[.slice A l.length c, .slice B ds.length d] w fun e w' => e = .returned (.bool true) ∧ Below w.heap.size w w' := by
  have HR := Aside0.mk hr
  have HC := Aside0.mk hc
  have HR' := Aside0.mk hr'
  have HC' := Aside0.mk hc'
  have hml := Kd.C_max hr
  have hml' := Kd.C_max hr'
  clear hr hc hr' hc'
  go_enter Try.func9, Try.ntmps9
  go_wp2_with fail
  refine (wakes12.calls true _ rfl).mono ?_
  rintro e w1 ⟨rfl, hb1⟩
  have HB1 := Aside0.mk hb1
  clear hb1
  go_wp2_with fail
  refine (few_go A c l 97 97 rfl (by decide) w1 (Kd.C_below HR.out HB1.out) HC.out).mono ?_
  rintro e w2 ⟨A2, c2, rfl, hl2, hC2, hb2⟩
  have hi97 := few_len 97 l
  have HSI := Aside0.mk (few_short' 97 l)
  have HY := Aside0.mk (fun h : (fewV 97 l).length ≤ 96 => few_less h (by decide))
  generalize fewV 97 l = I at *
  have HB2 := Aside0.mk (below_step HB1.out hb2)
  have HI2 := Aside0.mk hC2
  have HL2 := Aside0.mk hl2
  clear hb2 hC2 hl2
  go_wp2_with fail
  refine (some_go B d ds w2 (Kd.C_below HR'.out HB2.out) HC'.out).mono ?_
  rintro e w3 ⟨A3, c3, rfl, hl3, hC3, hb3⟩
  have hD7 : (someV ds).length ≤ 7 := by unfold someV; rw [List.length_take]; omega
  generalize someV ds = D at *
  have HB3 := Aside0.mk (below_step HB2.out hb3)
  have HI3 := Aside0.mk (Kd.C_below HI2.out hb3)
  have HD3 := Aside0.mk hC3
  have HLD := Aside0.mk hl3
  clear hb3 hC3 hl3
  go_wp2_with fail
  refine (means_Start.calls A2 c2 I A3 c3 D (startR I D).1 (startR I D).2 w3 HI3.out HL2.out HD3.out HLD.out rfl).mono ?_
  rintro e w4 ⟨v4, rfl, ho4, hb4⟩
  obtain ⟨A4, c4, ev, hl4, hC4⟩ := Kd.R_reads ho4
  subst ev
  have HM4 := Aside0.mk (mut_of ho4)
  have HB4 := Aside0.mk (below_step HB3.out hb4)
  have HI4 := Aside0.mk (Kd.C_below HI3.out hb4)
  have HD4 := Aside0.mk (Kd.C_below HD3.out hb4)
  have H34 := Aside0.mk hb4
  have HC4 := Aside0.mk hC4
  have HL4 := Aside0.mk hl4
  have hmc := Kd.C_max hC4
  clear hb4 hC4 hl4 ho4
  go_wp2_with fail
  refine (means_Train.calls A2 c2 I A3 c3 D (trainR I D).1 (trainR I D).2 w4 HI4.out HL2.out HD4.out HLD.out rfl).mono ?_
  rintro e w5 ⟨v5, rfl, ho5, hb5⟩
  have ho5' := Kd.R_lower ho5 (show w3.heap.size ≤ w4.heap.size from H34.out.size)
  obtain ⟨A5, c5, ev, hl5, hC5⟩ := Kd.R_reads ho5
  subst ev
  have HMt5 := Aside0.mk (mut_of ho5')
  have HMc5 := Aside0.mk (HM4.out.kept hb5)
  have HB5 := Aside0.mk (below_step HB4.out hb5)
  have HD5 := Aside0.mk (Kd.C_below HD4.out hb5)
  have HI5 := Aside0.mk (Kd.C_below HI4.out hb5)
  have H35 := Aside0.mk (below_step H34.out hb5)
  have HC5 := Aside0.mk (Kd.C_below HC4.out hb5)
  have HT5 := Aside0.mk hC5
  have HLT := Aside0.mk hl5
  have hmt := Kd.C_max hC5
  clear hb5 hC5 hl5 ho5 ho5'
  have HDR := Aside0.mk (draws12_is D (by omega))
  have hSE : startR I D = if drawsOk D = true then (if vecErr I = 0 then (pick I D, 0) else ([], vecErr I)) else ([], 2) := by
    unfold startR vecErr
    by_cases h1 : drawsOk D = true
    · rw [if_pos h1, if_pos h1]
      by_cases h2 : manyErr I = 0
      · rw [if_pos h2, if_pos h2]
      · rw [if_neg h2, if_neg h2, if_neg h2]
    · rw [if_neg h1, if_neg h1]
  have hTE : trainR I D = if (startR I D).2 = 0 then (trainL I 4 (pick I D), 0) else ([], (startR I D).2) := rfl
  have HOK := Aside0.mk (fun h => start_ok (l := I) (ds := D) h)
  by_cases hdr : drawsOk D = true
  case neg =>
    rw [if_neg hdr] at hSE
    rw [hSE, if_neg (by decide)] at hTE
    have hdf : drawsOk D = false := by simpa using hdr
    rw [hdf] at HDR
    rw [hSE, hTE]
    clear hSE hTE hdr hmc hmt HC4 HC5 HT5 HLT HL4 HMc5 HMt5 HM4 HOK hdf
    simp only
    go_wp2_with fail
    refine (P.quiverref12_Draws.calls 200 A3 c3 D false w5 HD5.out HLD.out HDR.out).mono ?_
    rintro e w6 ⟨rfl, hb6⟩
    have HB6 := Aside0.mk (bdr HB5.out hb6)
    clear hb6
    go_wp2_with fail
    go_returns
    exact ⟨rfl, HB6.out⟩
  rw [if_pos hdr] at hSE
  rw [hdr] at HDR
  have HVE := Aside0.mk (vectors12_is I (by omega) (fun i => by have := HSI.out i; omega))
  by_cases hve : vecErr I = 0
  case neg =>
    rw [if_neg hve] at hSE
    rw [hSE, if_neg hve] at hTE
    rw [hSE, hTE]
    have e1 : (vecErr I != 0) = true := by rw [bne_iff_ne]; exact hve
    clear hSE hTE hdr hmc hmt HC4 HC5 HT5 HLT HL4 HMc5 HMt5 HM4 HOK hve
    generalize vecErr I = ve at *
    simp only
    go_wp2_with fail
    refine (P.quiverref12_Draws.calls 200 A3 c3 D true w5 HD5.out HLD.out HDR.out).mono ?_
    rintro e w6 ⟨rfl, hb6⟩
    have HB6 := Aside0.mk (bdr HB5.out hb6)
    have HI6 := Aside0.mk (Kd.C_below HI5.out hb6.below)
    clear hb6
    go_wp2_with fail
    refine (P.quiverref12_Vectors.calls 1000 A2 c2 I ve w6 HI6.out HL2.out HVE.out).mono ?_
    rintro e w7 ⟨rfl, hb7⟩
    have HB7 := Aside0.mk (bdr HB6.out hb7)
    clear hb7
    go_wp2_with fail
    go_returns
    exact ⟨rfl, HB7.out⟩
  rw [if_pos hve] at hSE
  rw [hSE, if_pos rfl] at hTE
  obtain ⟨_, hi1, hi2, hae, _⟩ := HOK.out (by rw [hSE])
  obtain ⟨⟨hd1, hd2⟩, hdn⟩ := draws_get hdr
  have HAE := Aside0.mk (ok_of_err hae)
  have HPK := Aside0.mk (pick_ok (ds := D) hi1 HAE.out)
  have HTK := Aside0.mk (train_ok HAE.out 4 (pick I D) HPK.out)
  have hpl := pick_len I D
  have htl := (trainL_len I 4 (pick I D)).trans hpl
  have HYY := Aside0.mk (HY.out hi2)
  have HSTd := Aside0.mk (start12_is I D (by omega) (by omega) (rows_short HAE.out) (by omega) hdn)
  have HTRd := Aside0.mk (fun (Ax : Option Addr) (cx : Nat) (wx : World) (h1 : Kd.V kR 25 wx 0 (fun _ => True) (.slice Ax I.length cx) I) (h2 : Kd.C (Kd.int .i64) wx A3 D.length D) => train12_go Ax cx I A3 c3 D wx h1 h2 HLD.out hi1 hi2 hae hdr)
  have HSC := Aside0.mk (rows_short HPK.out)
  have HST := Aside0.mk (rows_short HTK.out)
  have HSS1 := Aside0.mk (refsameR_is 1000 (pick I D) (pick I D) 100 HSC.out (by omega) (by omega) (by omega))
  have HSS2 := Aside0.mk (refsameR_is 1000 (trainL I 4 (pick I D)) (trainL I 4 (pick I D)) 100 HST.out (by omega) (by omega) (by omega))
  have HSII := Aside0.mk (refsameR_is 1000 I I 100 (fun i => by have := HSI.out i; omega) (by omega) (by omega) (by omega))
  rw [decide_eq_true rfl] at HSS1 HSS2 HSII
  rw [hve] at HVE
  rw [hSE, hTE]
  rw [hSE] at HMc5 HC5 HL4 hmc
  rw [hTE] at HMt5 HT5 HLT hmt
  clear hSE hTE HC4 HM4 HOK hdn HPK HTK hve hdr hae
  simp only at *
  generalize trainL I 4 (pick I D) = T at *
  generalize pick I D = C at *
  have hc6 : C.length ≤ 6 := by omega
  have ht6 : T.length ≤ 6 := by omega
  clear hpl htl
  go_wp2_with fail
  refine (P.quiverref12_Draws.calls 200 A3 c3 D true w5 HD5.out HLD.out HDR.out).mono ?_
  rintro e w6 ⟨rfl, hb6⟩
  have HB6 := Aside0.mk (bdr HB5.out hb6)
  have HI6 := Aside0.mk (Kd.C_below HI5.out hb6.below)
  have HD6 := Aside0.mk (Kd.C_below HD5.out hb6.below)
  have HC6 := Aside0.mk (Kd.C_below HC5.out hb6.below)
  have HT6 := Aside0.mk (Kd.C_below HT5.out hb6.below)
  have HMc6 := Aside0.mk (HMc5.out.kept hb6.below)
  have HMt6 := Aside0.mk (HMt5.out.kept hb6.below)
  have H36 := Aside0.mk (below_step H35.out hb6.below)
  clear hb6
  go_wp2_with fail
  refine (P.quiverref12_Vectors.calls 1000 A2 c2 I 0 w6 HI6.out HL2.out HVE.out).mono ?_
  rintro e w7 ⟨rfl, hb7⟩
  have HB7 := Aside0.mk (bdr HB6.out hb7)
  have HD7 := Aside0.mk (Kd.C_below HD6.out hb7.below)
  have HC7 := Aside0.mk (Kd.C_below HC6.out hb7.below)
  have HT7 := Aside0.mk (Kd.C_below HT6.out hb7.below)
  have HMc7 := Aside0.mk (HMc6.out.kept hb7.below)
  have HMt7 := Aside0.mk (HMt6.out.kept hb7.below)
  have H37 := Aside0.mk (below_step H36.out hb7.below)
  clear hb7
  go_wp2_with fail
  refine (few_go A c l 96 96 rfl (by decide) w7 (Kd.C_below HR.out HB7.out) HC.out).mono ?_
  rintro e w8 ⟨A8, c8, rfl, hl8, hC8, hb8⟩
  rw [HYY.out] at hl8 hC8 ⊢
  have HB8 := Aside0.mk (below_step HB7.out hb8)
  have HD8 := Aside0.mk (Kd.C_below HD7.out hb8)
  have HC8 := Aside0.mk (Kd.C_below HC7.out hb8)
  have HT8 := Aside0.mk (Kd.C_below HT7.out hb8)
  have HMc8 := Aside0.mk (HMc7.out.kept hb8)
  have HMt8 := Aside0.mk (HMt7.out.kept hb8)
  have H38 := Aside0.mk (below_step H37.out hb8)
  have HF8 := Aside0.mk hC8
  have HFL := Aside0.mk hl8
  clear hb8 hC8 hl8
  go_wp2_with fail
  refine (P.quiverref12_Start.calls 200 A8 c8 I A3 c3 D C w8 HF8.out HFL.out HD8.out HLD.out HSTd.out).mono ?_
  rintro e w9 ⟨v9, rfl, ho9, hb9⟩
  obtain ⟨A9, c9, rfl, hl9, hC9⟩ := Kd.S_reads ho9
  have HB9 := Aside0.mk (below_step HB8.out hb9)
  have HD9 := Aside0.mk (Kd.C_below HD8.out hb9)
  have HC9 := Aside0.mk (Kd.C_below HC8.out hb9)
  have HT9 := Aside0.mk (Kd.C_below HT8.out hb9)
  have HMc9 := Aside0.mk (HMc8.out.kept hb9)
  have HMt9 := Aside0.mk (HMt8.out.kept hb9)
  have H39 := Aside0.mk (below_step H38.out hb9)
  have HF9 := Aside0.mk hC9
  have HFM := Aside0.mk hl9
  clear hb9 hC9 hl9 ho9
  go_wp2_with fail
  refine (P.quiverref12_Same.calls 1000 A4 c4 C A9 c9 C true w9 HC9.out HL4.out HF9.out HFM.out HSS1.out).mono ?_
  rintro e wa ⟨rfl, hba⟩
  have HBa := Aside0.mk (bdr HB9.out hba)
  have HDa := Aside0.mk (Kd.C_below HD9.out hba.below)
  have HTa := Aside0.mk (Kd.C_below HT9.out hba.below)
  have HMca := Aside0.mk (HMc9.out.kept hba.below)
  have HMta := Aside0.mk (HMt9.out.kept hba.below)
  have H3a := Aside0.mk (below_step H39.out hba.below)
  clear hba
  go_wp2_with fail
  refine (few_V A c l 96 96 rfl (by decide) wa (Kd.C_below HR.out HBa.out) HC.out).mono ?_
  rintro e wb ⟨Ab, cb, rfl, hlb, hVb, hbb⟩
  rw [HYY.out] at hlb hVb ⊢
  have HBb := Aside0.mk (below_step HBa.out hbb)
  have HDb := Aside0.mk (Kd.C_below HDa.out hbb)
  have HTb := Aside0.mk (Kd.C_below HTa.out hbb)
  have HMcb := Aside0.mk (HMca.out.kept hbb)
  have HMtb := Aside0.mk (HMta.out.kept hbb)
  have H3b := Aside0.mk (below_step H3a.out hbb)
  have HVb := Aside0.mk hVb
  clear hbb hVb hlb
  go_wp2_with fail
  refine (HTRd.out Ab cb wb HVb.out HDb.out).mono ?_
  rintro e wd ⟨Ad, cd, rfl, hld, hCd, hbd⟩
  have HBd := Aside0.mk (below_step HBb.out hbd)
  have HTd := Aside0.mk (Kd.C_below HTb.out hbd)
  have HMcd := Aside0.mk (HMcb.out.kept hbd)
  have HMtd := Aside0.mk (HMtb.out.kept hbd)
  have H3d := Aside0.mk (below_step H3b.out hbd)
  have HFd := Aside0.mk hCd
  have HFLd := Aside0.mk hld
  clear hbd hCd hld
  go_wp2_with fail
  refine (P.quiverref12_Same.calls 1000 A5 c5 T Ad cd T true wd HTd.out HLT.out HFd.out HFLd.out HSS2.out).mono ?_
  rintro e we ⟨rfl, hbe⟩
  have HMce := Aside0.mk (HMcd.out.kept hbe.below)
  have HMte := Aside0.mk (HMtd.out.kept hbe.below)
  have H3e := Aside0.mk (below_step H3d.out hbe.below)
  clear hbe
  go_wp2_with fail
  go_loopg [98] 2 (fun gg s98 wr => ∃ kk : Nat, kk ≤ 2 ∧ 2 - kk ≤ gg ∧ s98 = .int .i64 kk ∧ Aside0 (Mut wr w3.heap.size A4 C) ∧ Aside0 (Mut wr w3.heap.size A5 T) ∧ Aside0 (Below w3.heap.size w3 wr))
  case atStart => exact ⟨0, by omega, by omega, rfl, HMce, HMte, H3e⟩
  case round =>
    obtain ⟨kk, hkk, hg, rfl, HMc, HMt, HB3x⟩ := hrel
    have hix0 := idx0 C.length c4 T.length c5 A4 A5
    have hix1 := idx1 C.length c4 T.length c5 A4 A5
    by_cases hlt : kk < 2
    · by_cases hk0 : kk = 0
      · subst hk0
        have hltk : (0 : Int) < (2 : Int) := by omega
        obtain ⟨wo, rfl⟩ : ∃ wo, wo = wr := ⟨_, rfl⟩
        go_wp2_with fail
        clear hix0 hix1
        go_loopg [103] C.length (fun gg s103 wq => ∃ jj : Nat, jj ≤ C.length ∧ C.length - jj ≤ gg ∧ s103 = .int .i64 jj ∧ Aside0 (Mut wq w3.heap.size A4 C) ∧ Aside0 (Mut wq w3.heap.size A5 T) ∧ Aside0 (Below w3.heap.size w3 wq))
        case atStart => exact ⟨0, by omega, by omega, rfl, HMc, HMt, HB3x⟩
        case round =>
          obtain ⟨jj, hjj, hg, rfl, HMc, HMt, HB3x⟩ := hrel
          by_cases hlt2 : jj < C.length
          · have hltz2 : (jj : Int) < (C.length : Int) := by omega
            obtain ⟨ad5, A', c', hA5, _, hcell, _⟩ := HMc.out jj hlt2
            have HA5 := Aside0.mk hA5
            have HAA : A4 = some ad5 := hA5
            obtain ⟨m, hm⟩ : ∃ m, m = (C.getD jj []).length := ⟨_, rfl⟩
            rw [← hm] at hcell
            have hm5 : m ≤ 100 := by rw [hm]; exact HSC.out jj
            obtain ⟨wo, rfl⟩ : ∃ wo, wo = wr := ⟨_, rfl⟩
            have HMM := Aside0.mk hm
            clear hm hA5
            subst HAA
            go_wp2_with fail
            go_loopg [111] m (fun gg s111 wi => ∃ ii : Nat, ii ≤ m ∧ m - ii ≤ gg ∧ s111 = .int .i64 ii ∧ Aside0 (Mut wi w3.heap.size (some ad5) C) ∧ Aside0 (Mut wi w3.heap.size A5 T) ∧ Aside0 (Below w3.heap.size w3 wi))
            case atStart => exact ⟨0, by omega, by omega, rfl, HMc, HMt, HB3x⟩
            case round =>
              obtain ⟨ii, hii, hg, rfl, HMc, HMt, HB3x⟩ := hrel
              by_cases hlt3 : ii < m
              · have hltz3 : (ii : Int) < (m : Int) := by omega
                obtain ⟨ad7, A7', c7', e7, _, hc7', A8', c8', e8, hrow⟩ := HMc.out jj hlt2
                injection e7 with e7
                subst e7
                injection e8 with e8 _
                injection e8 with e8 _ _
                subst e8
                obtain ⟨g, rfl, hgb, ⟨cur, hcur⟩, y, hy⟩ := hrow ii (by have := HMM.out; omega)
                rw [← HMM.out] at hc7'
                have hf := blk_frozen hcur ii
                have HS1 := Aside0.mk (fun z => HMc.out.set (k := ii) hcur z)
                have HS2 := Aside0.mk (fun z => HMt.out.set (k := ii) hcur z)
                have HSB := Aside0.mk (fun u => HB3x.out.setCell (p := ⟨g, ii, none⟩) hgb u)
                obtain ⟨wo2, rfl⟩ : ∃ wo2, wo2 = wr := ⟨_, rfl⟩
                clear hrow hcur hgb hcell
                go_wp2_with fail
                go_roundg (m - (ii + 1))
                case measure => omega
                case rel => exact ⟨ii + 1, by omega, by omega, by go_num, ⟨HS1.out _⟩, ⟨HS2.out _⟩, ⟨HSB.out _⟩⟩
              · have hltz3 : ¬ (ii : Int) < (m : Int) := by omega
                clear hcell
                go_wp2_with fail
                go_roundg (C.length - (jj + 1))
                case measure => omega
                case rel => exact ⟨jj + 1, by omega, by omega, by go_num, HMc, HMt, HB3x⟩
          · have hltz2 : ¬ (jj : Int) < (C.length : Int) := by omega
            go_wp2_with fail
            go_roundg (2 - (0 + 1))
            case measure => omega
            case rel => exact ⟨0 + 1, by omega, by omega, rfl, HMc, HMt, HB3x⟩
      · obtain rfl : kk = 1 := by omega
        have hltk : (1 : Int) < (2 : Int) := by omega
        obtain ⟨wo, rfl⟩ : ∃ wo, wo = wr := ⟨_, rfl⟩
        go_wp2_with fail
        clear hix0 hix1
        go_loopg [103] T.length (fun gg s103 wq => ∃ jj : Nat, jj ≤ T.length ∧ T.length - jj ≤ gg ∧ s103 = .int .i64 jj ∧ Aside0 (Mut wq w3.heap.size A4 C) ∧ Aside0 (Mut wq w3.heap.size A5 T) ∧ Aside0 (Below w3.heap.size w3 wq))
        case atStart => exact ⟨0, by omega, by omega, rfl, HMc, HMt, HB3x⟩
        case round =>
          obtain ⟨jj, hjj, hg, rfl, HMc, HMt, HB3x⟩ := hrel
          by_cases hlt2 : jj < T.length
          · have hltz2 : (jj : Int) < (T.length : Int) := by omega
            obtain ⟨ad5, A', c', hA5, _, hcell, _⟩ := HMt.out jj hlt2
            have HA5 := Aside0.mk hA5
            have HAA : A5 = some ad5 := hA5
            obtain ⟨m, hm⟩ : ∃ m, m = (T.getD jj []).length := ⟨_, rfl⟩
            rw [← hm] at hcell
            have hm5 : m ≤ 100 := by rw [hm]; exact HST.out jj
            obtain ⟨wo, rfl⟩ : ∃ wo, wo = wr := ⟨_, rfl⟩
            have HMM := Aside0.mk hm
            clear hm hA5
            subst HAA
            go_wp2_with fail
            go_loopg [111] m (fun gg s111 wi => ∃ ii : Nat, ii ≤ m ∧ m - ii ≤ gg ∧ s111 = .int .i64 ii ∧ Aside0 (Mut wi w3.heap.size A4 C) ∧ Aside0 (Mut wi w3.heap.size (some ad5) T) ∧ Aside0 (Below w3.heap.size w3 wi))
            case atStart => exact ⟨0, by omega, by omega, rfl, HMc, HMt, HB3x⟩
            case round =>
              obtain ⟨ii, hii, hg, rfl, HMc, HMt, HB3x⟩ := hrel
              by_cases hlt3 : ii < m
              · have hltz3 : (ii : Int) < (m : Int) := by omega
                obtain ⟨ad7, A7', c7', e7, _, hc7', A8', c8', e8, hrow⟩ := HMt.out jj hlt2
                injection e7 with e7
                subst e7
                injection e8 with e8 _
                injection e8 with e8 _ _
                subst e8
                obtain ⟨g, rfl, hgb, ⟨cur, hcur⟩, y, hy⟩ := hrow ii (by have := HMM.out; omega)
                rw [← HMM.out] at hc7'
                have hf := blk_frozen hcur ii
                have HS1 := Aside0.mk (fun z => HMc.out.set (k := ii) hcur z)
                have HS2 := Aside0.mk (fun z => HMt.out.set (k := ii) hcur z)
                have HSB := Aside0.mk (fun u => HB3x.out.setCell (p := ⟨g, ii, none⟩) hgb u)
                obtain ⟨wo2, rfl⟩ : ∃ wo2, wo2 = wr := ⟨_, rfl⟩
                clear hrow hcur hgb hcell
                go_wp2_with fail
                go_roundg (m - (ii + 1))
                case measure => omega
                case rel => exact ⟨ii + 1, by omega, by omega, by go_num, ⟨HS1.out _⟩, ⟨HS2.out _⟩, ⟨HSB.out _⟩⟩
              · have hltz3 : ¬ (ii : Int) < (m : Int) := by omega
                clear hcell
                go_wp2_with fail
                go_roundg (T.length - (jj + 1))
                case measure => omega
                case rel => exact ⟨jj + 1, by omega, by omega, by go_num, HMc, HMt, HB3x⟩
          · have hltz2 : ¬ (jj : Int) < (T.length : Int) := by omega
            go_wp2_with fail
            go_roundg (2 - (1 + 1))
            case measure => omega
            case rel => exact ⟨1 + 1, by omega, by omega, rfl, HMc, HMt, HB3x⟩
    · have hltz : ¬ (kk : Int) < (2 : Int) := by omega
      have HBx := Aside0.mk (below_step HB3.out HB3x.out)
      go_wp2_with fail
      refine (few_go A c l 96 96 rfl (by decide) wr (Kd.C_below HR.out HBx.out) HC.out).mono ?_
      rintro e wf ⟨Af, cf, rfl, hlf, hCf, hbf⟩
      rw [HYY.out] at hlf hCf ⊢
      have HBf := Aside0.mk (below_step HBx.out hbf)
      have HIf := Aside0.mk (Kd.C_below (Kd.C_below HI3.out HB3x.out) hbf)
      have HFf := Aside0.mk hCf
      have HFLf := Aside0.mk hlf
      clear hlf hCf hbf
      go_wp2_with fail
      refine (P.quiverref12_Same.calls 1000 A2 c2 I Af cf I true wf HIf.out HL2.out HFf.out HFLf.out HSII.out).mono ?_
      rintro e wg ⟨rfl, hbg⟩
      have HBg := Aside0.mk (bdr HBf.out hbg)
      clear hbg
      go_wp2_with fail
      go_returns
      exact ⟨rfl, HBg.out⟩

theorem meansStarts.walk (A : Option Addr) (c : Nat) (l : List (List Int)) (B : Option Addr) (d : Nat) (ds : List Int) (W : World) (hl : l.length ≤ c) (hC : Kd.C (Kd.slice 21 (Kd.int .i32)) W A l.length l) (wl : ∀ x ∈ l, ∀ y ∈ x, (Lit.int .i32 y).wf = true) (hd : ds.length ≤ d) (hD : Kd.C (Kd.int .i64) W B ds.length ds) (wd : ∀ x ∈ ds, (Lit.int .i64 x).wf = true) :
    Calls Try.prog 9 #[.slice A l.length c, .slice B ds.length d] W fun e W' => e = .returned (.bool true) ∧ Below W.heap.size W W' := meansStarts.go A c l B d ds W hC hl hD hd

end Go.Proofs.Ytbdoeikdoohagaa.G
