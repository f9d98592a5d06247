/- quiverlaw12.MeansRounds answers true, for every centroids and vectors. -/
import Derived.Test.YtbdoeikdoohagaaE12
namespace Go.Proofs.Ytbdoeikdoohagaa.G
open Go.Shelf Go.RowKit Go.Proofs.YtbdoeikdoohagaaW.PrintWords Go.Proofs.YtbdoeikdoohagaaW.PrintLast Go.Proofs.YtbdoeikdoohagaaW.PrintMore
set_option linter.unusedVariables false
set_option linter.unusedSimpArgs false

theorem few_less {n m : Nat} {l : List (List Int)} (h : (fewV n l).length ≤ m) (hm : m < n) : fewV m l = fewV n l := by
  unfold fewV at h ⊢
  rw [List.length_map, List.length_take] at h
  rw [List.take_of_length_le (by omega), List.take_of_length_le (by omega)]
theorem few_V (A : Option Addr) (c : Nat) (l : List (List Int)) (a : Int) (n : Nat) (ha : a = (n : Int)) (hn : n ≤ 1000) (W : World) (hC : Kd.C kR W A l.length l) (hl : l.length ≤ c) :
    Calls Try.prog 35 #[.slice A l.length c, .int .i64 a] W fun e w' => ∃ A' c', e = .returned (.slice A' (fewV n l).length c') ∧ (fewV n l).length ≤ c' ∧ Kd.V kR 25 w' 0 (fun _ => True) (.slice A' (fewV n l).length c') (fewV n l) ∧ Below W.heap.size W w' := by
  subst ha
  refine (P.quiverlaw12_few.calls (l.length + 1) A c l n (fewV n l) W hC hl (few_is _ l n hn (Kd.C_max hC) (by omega))).mono ?_
  rintro e w' ⟨v, rfl, ho, hb⟩
  have hV := Kd.V_mono (Kd.S_V (base' := 0) ho) (ok' := fun _ => True) (fun _ _ => trivial)
  obtain ⟨A', c', rfl, hl', hC'⟩ := Kd.S_reads ho
  exact ⟨A', c', rfl, hl', hV, hb⟩
theorem few_O (A : Option Addr) (c : Nat) (l : List (List Int)) (a : Int) (n : Nat) (ha : a = (n : Int)) (hn : n ≤ 1000) (W : World) (hC : Kd.C kR W A l.length l) (hl : l.length ≤ c) :
    Calls Try.prog 35 #[.slice A l.length c, .int .i64 a] W fun e w' => ∃ A' c', e = .returned (.slice A' (fewV n l).length c') ∧ (fewV n l).length ≤ c' ∧ Kd.R (Kd.or_ kR (Kd.fixed kR W) rfl) 25 w' W.heap.size (fun _ => True) (.slice A' (fewV n l).length c') (fewV n l) ∧ Below W.heap.size W w' := by
  subst ha
  refine (P.quiverlaw12_few.calls (l.length + 1) A c l n (fewV n l) W hC hl (few_is _ l n hn (Kd.C_max hC) (by omega))).mono ?_
  rintro e w' ⟨v, rfl, ho, hb⟩
  have hR := Kd.S_R ho
  obtain ⟨A', c', rfl, hl', hC'⟩ := Kd.S_reads ho
  exact ⟨A', c', rfl, hl', ⟨fun _ _ => trivial, hR.2.imp_ (fun _ _ hp => .inl hp)⟩, hb⟩
theorem or_C {w w' : World} {A : Option Addr} {n : Nat} {xs : List (List Int)} (hb : Below w.heap.size w w') (h : Kd.C (Kd.or_ kR (Kd.fixed kR w) rfl) w' A n xs) : Kd.C kR w' A n xs :=
  ReadsRow.imp_ h (Below.refl _ _) (fun _ _ hp => by
    rcases hp with hp | hp
    · exact hp
    · exact kR.K_below hb hp)
theorem C_num {k : IntKind} {w : World} {A : Option Addr} {l : List Int} (h : Kd.C (Kd.int k) w A l.length l) (j : Nat) (hj : j < l.length) : ∃ ad, A = some ad ∧ w.cell? (ad.add j) = some (.int k (l.getD j 0)) := by
  obtain ⟨ad, cc, hA, _, hK, hcell⟩ := Kd.C_get h 0 (j : Int) (by omega) (by omega)
  rw [Int.toNat_natCast] at hK hcell
  have hK' : cc = [.int k (l.getD j 0)] := hK
  subst hK'
  exact ⟨ad, hA, by simpa using (show w.cell? (ad.add (j * 1 + 0)) = _ from hcell 0 _ rfl)⟩
def wantE (C I : List (List Int)) : Int := if centErr C = 0 then (if manyErr I = 0 then allErr (C ++ I) else manyErr I) else 2
theorem parts_want (C I : List (List Int)) : partsR C I = if wantE C I = 0 then (partsV C I, 0) else ([], wantE C I) := by
  unfold partsR wantE
  by_cases h1 : centErr C = 0
  · rw [if_pos h1, if_pos h1]
    by_cases h2 : manyErr I = 0
    · rw [if_pos h2, if_pos h2]
    · rw [if_neg h2, if_neg h2, if_neg h2]
  · rw [if_neg h1, if_neg h1, if_neg (by decide)]
theorem round_want (C I : List (List Int)) : roundR C I = if wantE C I = 0 then (roundV C I, 0) else ([], wantE C I) := by
  unfold roundR
  rw [parts_want]
  by_cases h : wantE C I = 0
  · rw [if_pos h, if_pos rfl, if_pos h]
  · rw [if_neg h, if_neg h]
theorem want_zero {C I : List (List Int)} (h : wantE C I = 0) : 0 < C.length ∧ C.length ≤ 6 ∧ 0 < I.length ∧ I.length ≤ 96 ∧ allErr (C ++ I) = 0 := by
  unfold wantE at h
  split at h
  case isFalse => exact absurd h (by decide)
  case isTrue h1 =>
    split at h
    case isFalse h2 => exact absurd h h2
    case isTrue h2 =>
      unfold centErr at h1
      unfold manyErr at h2
      refine ⟨?_, ?_, ?_, ?_, h⟩
      · split at h1 <;> omega
      · split at h1
        · omega
        · split at h1 <;> omega
      · split at h2 <;> omega
      · split at h2
        · omega
        · split at h2 <;> omega

set_option maxHeartbeats 4000000 in
set_option maxRecDepth 100000 in
theorem meansRounds.go (A : Option Addr) (c : Nat) (x : List (List Int)) (B : Option Addr) (d : Nat) (l : List (List Int)) (w : World) (hr : Kd.C kR w A x.length x) (hc : x.length ≤ c) (hr' : Kd.C kR w B l.length l) (hc' : l.length ≤ d) :
    Calls Try.prog 10 #[.slice A x.length c, .slice B l.length d] w fun e w' => e = .returned (.bool true) ∧ Below w.heap.size w w' := by
  have HR := Aside0.mk hr
  have HC := Aside0.mk hc
  have HR' := Aside0.mk hr'
  have HC' := Aside0.mk hc'
  have hml := Kd.C_max hr
  have hml' := Kd.C_max hr'
  clear hr hc hr' hc'
  go_enter Try.func10, Try.ntmps10
  go_wp2_with fail
  refine (wakes12.calls true _ rfl).mono ?_
  rintro e w1 ⟨rfl, hb1⟩
  have HB1 := Aside0.mk hb1
  clear hb1
  go_wp2_with fail
  refine (few_go A c x 7 7 rfl (by decide) w1 (Kd.C_below HR.out HB1.out) HC.out).mono ?_
  rintro e w2 ⟨A2, c2, rfl, hl2, hC2, hb2⟩
  have hc7 := few_len 7 x
  have HSC := Aside0.mk (few_short' 7 x)
  have HX := Aside0.mk (fun h : (fewV 7 x).length ≤ 6 => few_less h (by decide))
  generalize fewV 7 x = C at *
  have HB2 := Aside0.mk (below_step HB1.out hb2)
  have HI2 := Aside0.mk hC2
  have HL2 := Aside0.mk hl2
  clear hb2 hC2 hl2
  go_wp2_with fail
  refine (few_V B d l 97 97 rfl (by decide) w2 (Kd.C_below HR'.out HB2.out) HC'.out).mono ?_
  rintro e w3 ⟨A3, c3, rfl, hl3, hV3, hb3⟩
  have hi97 := few_len 97 l
  have HSI := Aside0.mk (few_short' 97 l)
  have HY := Aside0.mk (fun h : (fewV 97 l).length ≤ 96 => few_less h (by decide))
  generalize fewV 97 l = I at *
  have HB3 := Aside0.mk (below_step HB2.out hb3)
  have HC3 := Aside0.mk (Kd.C_below HI2.out hb3)
  have HV3 := Aside0.mk hV3
  have HI3 := Aside0.mk (Kd.V_reads' hV3).2.2
  have HLI := Aside0.mk hl3
  clear hb3 hV3 hl3
  go_wp2_with fail
  refine (parts_go A2 c2 C A3 c3 I w3 HC3.out HL2.out HI3.out HLI.out).mono ?_
  rintro e w4 ⟨A4, c4, rfl, hl4, hC4, hb4⟩
  have HB4 := Aside0.mk (below_step HB3.out hb4)
  have HC4 := Aside0.mk (Kd.C_below HC3.out hb4)
  have HV4 := Aside0.mk (Kd.V_below HV3.out hb4)
  have HI4 := Aside0.mk (Kd.C_below HI3.out hb4)
  have HPW := Aside0.mk (parts_want C I)
  have HRW := Aside0.mk (round_want C I)
  generalize partsR C I = pp at *
  obtain ⟨p, pe⟩ := pp
  simp only at *
  have HP4 := Aside0.mk hC4
  have HLP := Aside0.mk hl4
  have hmp := Kd.C_max hC4
  clear hb4 hC4 hl4
  go_wp2_with fail
  refine (means_Round.calls A2 c2 C A3 c3 I (roundR C I).1 (roundR C I).2 w4 HC4.out HL2.out HI4.out HLI.out rfl).mono ?_
  rintro e w5 ⟨v5, rfl, ho5, hb5⟩
  obtain ⟨A5, c5, ev, hl5, hC5⟩ := Kd.R_reads ho5
  subst ev
  have HB5 := Aside0.mk (below_step HB4.out hb5)
  have H45 := Aside0.mk hb5
  generalize roundR C I = nn at *
  obtain ⟨n, ne⟩ := nn
  simp only at *
  have HM5 := Aside0.mk (mut_of ho5)
  have HN5 := Aside0.mk hC5
  have HLN := Aside0.mk hl5
  have hmn := Kd.C_max hC5
  have HWT := Aside0.mk (show wantE C I = if centErr C = 0 then (if manyErr I = 0 then allErr (C ++ I) else manyErr I) else 2 from rfl)
  have HWZ := Aside0.mk (fun h => want_zero (C := C) (I := I) h)
  generalize wantE C I = wt at *
  clear hb5 hC5 hl5 ho5
  go_upto_block 0 with (fail)
  have HCE := Aside0.mk (cent12_is C)
  go_cut [11] (fun v11 wc => v11 = .int .i64 wt ∧ Aside0 (Below w5.heap.size w5 wc))
  case first =>
    by_cases hce : centErr C = 0
    case neg =>
      have hwt : wt = 2 := by rw [HWT.out, if_neg hce]
      rw [decide_eq_false hce] at HCE
      clear hce
      go_wp2_with fail
      refine (P.quiverref12_Centroids.calls A2 c2 C false w5 (Kd.C_below HC4.out H45.out) HL2.out HCE.out).mono ?_
      rintro e w6 ⟨rfl, hb6⟩
      have HB6 := Aside0.mk hb6.below
      clear hb6
      go_wp2_with fail
      go_meet
      case rel => exact ⟨by rw [hwt], HB6⟩
    case pos =>
      rw [if_pos hce] at HWT
      rw [decide_eq_true hce] at HCE
      have hc16 : 0 < C.length ∧ C.length ≤ 6 := by unfold centErr at hce; split at hce; omega; split at hce <;> omega
      obtain ⟨hc1, hc2⟩ := hc16
      clear hce
      by_cases h0 : I.length = 0
      · have hwt : wt = 4 := by rw [HWT.out]; unfold manyErr; rw [if_pos h0]; rfl
        have e0 : ((I.length : Int) == 0) = true := by rw [beq_iff_eq]; omega
        clear h0
        go_wp2_with fail
        refine (P.quiverref12_Centroids.calls A2 c2 C true w5 (Kd.C_below HC4.out H45.out) HL2.out HCE.out).mono ?_
        rintro e w6 ⟨rfl, hb6⟩
        have HB6 := Aside0.mk hb6.below
        clear hb6
        go_wp2_with fail
        go_meet
        case rel => exact ⟨by rw [hwt], HB6⟩
      have e0 : ((I.length : Int) == 0) = false := by rw [beq_eq_false_iff_ne]; omega
      by_cases h9 : 96 < I.length
      · have hwt : wt = 3 := by rw [HWT.out]; unfold manyErr; rw [if_neg h0, if_pos h9]; rfl
        have e9 : (96 : Int) < (I.length : Int) := by omega
        clear h9 h0
        go_wp2_with fail
        refine (P.quiverref12_Centroids.calls A2 c2 C true w5 (Kd.C_below HC4.out H45.out) HL2.out HCE.out).mono ?_
        rintro e w6 ⟨rfl, hb6⟩
        have HB6 := Aside0.mk hb6.below
        clear hb6
        go_wp2_with fail
        go_meet
        case rel => exact ⟨by rw [hwt], HB6⟩
      have e9 : ¬ (96 : Int) < (I.length : Int) := by omega
      have hwt : wt = allErr (C ++ I) := by rw [HWT.out]; unfold manyErr; rw [if_neg h0, if_neg h9]; rfl
      have HAL := Aside0.mk (all12_is (C ++ I) (by rw [List.length_append]; omega) (fun i => by
        by_cases hi : i < C.length
        · rw [List.getD_eq_getElem?_getD, List.getElem?_append_left hi, ← List.getD_eq_getElem?_getD]; have := HSC.out i; omega
        · rw [List.getD_eq_getElem?_getD, List.getElem?_append_right (by omega), ← List.getD_eq_getElem?_getD]; have := HSI.out (i - C.length); omega))
      rw [← hwt] at HAL
      have HXX := Aside0.mk (HX.out hc2)
      clear hwt h9 h0
      go_wp2_with fail
      refine (P.quiverref12_Centroids.calls A2 c2 C true w5 (Kd.C_below HC4.out H45.out) HL2.out HCE.out).mono ?_
      rintro e w6 ⟨rfl, hb6⟩
      have HB6 := Aside0.mk hb6.below
      have HB56 := Aside0.mk (below_step HB5.out hb6.below)
      have HI6 := Aside0.mk (Kd.C_below (Kd.C_below HI4.out H45.out) hb6.below)
      clear hb6
      go_wp2_with fail
      refine (few_O A c x 6 6 rfl (by decide) w6 (Kd.C_below HR.out HB56.out) HC.out).mono ?_
      rintro e w7 ⟨A7, c7, rfl, hl7, hR7, hb7⟩
      rw [HXX.out] at hl7 hR7 ⊢
      have HR7 := Aside0.mk hR7
      have HB7 := Aside0.mk hb7
      clear hl7 hR7 hb7
      go_wp2_with ((with_reducible refine gate_builtin (b := .append) (xs := #[.tmp 35, .tmp 36]) rfl ?_); at_builtin; refine Kd.R_append_rows (Kd.or_ kR (Kd.fixed kR w6) rfl) (Rr := kR.K w6) (w0 := w6) w6.heap.size rfl (.tmp 35) (.tmp 36) 22 25 (.slice none 0 0) 24 rfl Try.underlying22 info_row rfl (show 0 < 1 by decide) (by omega) _ C I A3 I.length c3 (fun _ => True) (fun _ => False) rfl rfl HR7.out (ReadsRow.imp_ HI6.out HB7.out (fun _ _ h => h)) (fun _ _ h => .inr h) (fun _ h => h.elim) (fun _ _ => trivial) HB7.out (below_size HB7.out) (by omega) ?_; intro v8 w8 ho hb hg hat; clear hg hat; obtain ⟨A8, c8, e8, hl8, hC8⟩ := Kd.R_reads ho; subst e8; have HC8 := Aside0.mk (or_C hb hC8); have HL8 := Aside0.mk hl8; have HB8 := Aside0.mk hb; clear ho hb hl8 hC8)
      rw [show C.length + I.length = (C ++ I).length by rw [List.length_append]]
      refine (P.quiverref12_All.calls 1000 A8 c8 (C ++ I) wt w8 HC8.out HL8.out HAL.out).mono ?_
      rintro e w9 ⟨rfl, hb9⟩
      have HB9 := Aside0.mk (below_step (below_step HB6.out HB8.out) hb9.below)
      clear hb9
      go_wp2_with fail
      go_meet
      case rel => exact ⟨rfl, HB9⟩
  case rest =>
    obtain ⟨rfl, HBc⟩ := hcut
    have HB6 := Aside0.mk (below_step HB5.out HBc.out)
    by_cases hz : wt = 0
    case neg =>
      have h1 := HPW.out
      have h2 := HRW.out
      rw [if_neg hz] at h1 h2
      have e1 : (wt != 0) = true := by rw [bne_iff_ne]; exact hz
      obtain ⟨rfl, rfl⟩ := Prod.mk.inj h1
      obtain ⟨rfl, rfl⟩ := Prod.mk.inj h2
      clear h1 h2 hz
      go_wp2_with fail
      go_returns
      exact ⟨rfl, HB6.out⟩
    subst hz
    obtain ⟨hc1, hc2, hi1, hi2, hae⟩ := HWZ.out rfl
    have h1 := HPW.out
    have h2 := HRW.out
    rw [if_pos rfl] at h1 h2
    obtain ⟨rfl, rfl⟩ := Prod.mk.inj h1
    obtain ⟨hn, rfl⟩ := Prod.mk.inj h2
    have hok := ok_append.1 (ok_of_err hae)
    have HRO := Aside0.mk (round_ok hok.1 hok.2)
    have HPA := Aside0.mk (parts_is 500 C I hc1 (by omega) (by omega) (fun v hv => err_of_ok (d := ((C ++ I).getD 0 []).length) (fun y hy => by
      rcases List.mem_cons.1 hy with rfl | hy
      · exact hok.2 _ hv
      · exact hok.1 _ hy)) (by omega))
    have HRN := Aside0.mk (round12_is C I hc1 hc2 hi2 hae)
    have hrl := round_len C I
    have HSR := Aside0.mk (show ∀ i, ((roundV C I).getD i []).length ≤ 100 from fun i => by
      by_cases hi : i < (roundV C I).length
      · rw [getD_of_lt _ i [] hi]
        have := right_len _ (HRO.out _ (List.getElem_mem hi)).1
        omega
      · rw [List.getD_eq_getElem?_getD, List.getElem?_eq_none (by omega)]; exact Nat.zero_le _)
    have HSN := Aside0.mk (refsameR_is 1000 (roundV C I) (roundV C I) 100 HSR.out (by omega) (by omega) (by omega))
    have hpl := parts_len C I
    rw [decide_eq_true rfl] at HSN
    rw [← hn] at HRN HSN hrl HSR
    have HRL := Aside0.mk hrl
    clear h1 h2 hok HRO hn HPW HRW HWT HWZ hae hmp hmn hrl
    have HCc := Aside0.mk (Kd.C_below (Kd.C_below HC4.out H45.out) HBc.out)
    have HIc := Aside0.mk (Kd.C_below (Kd.C_below HI4.out H45.out) HBc.out)
    have HVc := Aside0.mk (Kd.V_below (Kd.V_below HV4.out H45.out) HBc.out)
    have HPc := Aside0.mk (Kd.C_below (Kd.C_below HP4.out H45.out) HBc.out)
    have HNc := Aside0.mk (Kd.C_below HN5.out HBc.out)
    have HMc := Aside0.mk (HM5.out.kept HBc.out)
    have H4c := Aside0.mk (below_step H45.out HBc.out)
    have hw4 := H4c.out.size
    go_wp2_with fail
    refine (P.quiverref12_Parts.calls 500 A2 c2 C A3 c3 I (partsV C I) wc HCc.out HL2.out HIc.out HLI.out HPA.out).mono ?_
    rintro e w6 ⟨v6, rfl, ho6, hb6⟩
    obtain ⟨A6, c6, ev, hl6, hC6⟩ := Kd.R_reads ho6
    subst ev
    have HB7 := Aside0.mk (below_step HB6.out hb6)
    have HCd := Aside0.mk (Kd.C_below HCc.out hb6)
    have HVd := Aside0.mk (Kd.V_below HVc.out hb6)
    have HPd := Aside0.mk (Kd.C_below HPc.out hb6)
    have HNd := Aside0.mk (Kd.C_below HNc.out hb6)
    have HMd := Aside0.mk (HMc.out.kept hb6)
    have H4d := Aside0.mk (below_step H4c.out hb6)
    have HQd := Aside0.mk hC6
    have e3 : ((I.length : Int) != (I.length : Int)) = false := by simp
    clear hb6 ho6 hl6 hC6 hw4
    generalize partsV C I = p at *
    rw [hpl]
    go_wp2_with fail
    refine (P.quiverref12_Round.calls 2000 A2 c2 C (fun _ => True) A3 c3 I n w6 HCd.out HL2.out HVd.out HRN.out).mono ?_
    rintro e w7 ⟨v7, rfl, ho7, hb7⟩
    obtain ⟨A7, c7, ev, hl7, hC7⟩ := Kd.N_reads ho7
    subst ev
    have HB8 := Aside0.mk (below_step HB7.out hb7)
    have HPe := Aside0.mk (Kd.C_below HPd.out hb7)
    have HQe := Aside0.mk (Kd.C_below HQd.out hb7)
    have HNe := Aside0.mk (Kd.C_below HNd.out hb7)
    have HMe := Aside0.mk (HMd.out.kept hb7)
    have H4e := Aside0.mk (below_step H4d.out hb7)
    have HSe := Aside0.mk hC7
    have HLe := Aside0.mk hl7
    clear hb7 ho7 hl7 hC7
    go_wp2_with fail
    refine (P.quiverref12_Same.calls 1000 A5 c5 n A7 c7 n true w7 HNe.out HLN.out HSe.out HLe.out HSN.out).mono ?_
    rintro e w8 ⟨rfl, hb8⟩
    have HB9 := Aside0.mk (below_step HB8.out hb8.below)
    have HPf := Aside0.mk (Kd.C_below HPe.out hb8.below)
    have HQf := Aside0.mk (Kd.C_below HQe.out hb8.below)
    have HMf := Aside0.mk (HMe.out.kept hb8.below)
    have H4f := Aside0.mk (below_step H4e.out hb8.below)
    clear hb8 e3
    have HPL := Aside0.mk hpl
    clear hpl
    go_wp2_with fail
    go_loopg [95] I.length (fun gg s95 wr => ∃ kk : Nat, kk ≤ I.length ∧ I.length - kk ≤ gg ∧ s95 = .int .i64 kk ∧ Aside0 (Below w8.heap.size w8 wr))
    case atStart => exact ⟨0, by omega, by omega, rfl, ⟨Below.refl _ _⟩⟩
    case round =>
      obtain ⟨kk, hkk, hg, rfl, HB⟩ := hrel
      by_cases hlt : kk < I.length
      · have hltz : (kk : Int) < (I.length : Int) := by omega
        obtain ⟨ad4, rfl, q4⟩ := C_num HPf.out kk (by have := HPL.out; omega)
        obtain ⟨ad6, rfl, q6⟩ := C_num HQf.out kk (by have := HPL.out; omega)
        replace q4 := (HB.out.cell (World.block_lt_of_cell? w8 _ q4)).trans q4
        replace q6 := (HB.out.cell (World.block_lt_of_cell? w8 _ q6)).trans q6
        generalize p.getD kk 0 = z at *
        have ez : (z != z) = false := by simp
        obtain ⟨wo, rfl⟩ : ∃ wo, wo = wr := ⟨_, rfl⟩
        go_wp2_with fail
        go_quiet (fail)
        go_wp2_with fail
        go_roundg (I.length - (kk + 1))
        case measure => omega
        case rel => exact ⟨kk + 1, by omega, by omega, by go_num, ⟨pw_below_drewN HB.out _⟩⟩
      · have hltz : ¬ (kk : Int) < (I.length : Int) := by omega
        obtain ⟨wo, rfl⟩ : ∃ wo, wo = wr := ⟨_, rfl⟩
        have HM0 := Aside0.mk (HMf.out.kept HB.out)
        have H40 := Aside0.mk (below_step H4f.out HB.out)
        have hn6 : n.length ≤ 6 := by rw [HRL.out]; exact hc2
        clear hg
        go_wp2_with fail
        go_loopg [110] n.length (fun gg s110 wq => ∃ jj : Nat, jj ≤ n.length ∧ n.length - jj ≤ gg ∧ s110 = .int .i64 jj ∧ Aside0 (Mut wq w4.heap.size A5 n) ∧ Aside0 (Below w4.heap.size w4 wq))
        case atStart => exact ⟨0, by omega, by omega, rfl, HM0, H40⟩
        case round =>
          obtain ⟨jj, hjj, hg, rfl, HM, HBq⟩ := hrel
          by_cases hlt2 : jj < n.length
          · have hltz2 : (jj : Int) < (n.length : Int) := by omega
            obtain ⟨ad5, A', c', rfl, _, hcell, _⟩ := HM.out jj hlt2
            obtain ⟨m, hm⟩ : ∃ m, m = (n.getD jj []).length := ⟨_, rfl⟩
            rw [← hm] at hcell
            have hm5 : m ≤ 100 := by rw [hm]; exact HSR.out jj
            obtain ⟨wo, rfl⟩ : ∃ wo, wo = wr := ⟨_, rfl⟩
            have HMM := Aside0.mk hm
            clear hm
            go_wp2_with fail
            go_loopg [118] m (fun gg s118 wi => ∃ ii : Nat, ii ≤ m ∧ m - ii ≤ gg ∧ s118 = .int .i64 ii ∧ Aside0 (Mut wi w4.heap.size (some ad5) n) ∧ Aside0 (Below w4.heap.size w4 wi))
            case atStart => exact ⟨0, by omega, by omega, rfl, HM, HBq⟩
            case round =>
              obtain ⟨ii, hii, hg, rfl, HMi, HBi⟩ := hrel
              by_cases hlt3 : ii < m
              · have hltz3 : (ii : Int) < (m : Int) := by omega
                obtain ⟨ad7, A7', c7', e7, _, hc7', A8', c8', e8, hrow⟩ := HMi.out jj hlt2
                injection e7 with e7
                subst e7
                injection e8 with e8 _
                injection e8 with e8 _ _
                subst e8
                obtain ⟨g, rfl, hgb, ⟨cur, hcur⟩, y, hy⟩ := hrow ii (by have := HMM.out; omega)
                rw [← HMM.out] at hc7'
                have hf := blk_frozen hcur ii
                have HS := Aside0.mk (fun z => HMi.out.set (k := ii) hcur z)
                have HSB := Aside0.mk (fun u => HBi.out.setCell (p := ⟨g, ii, none⟩) hgb u)
                obtain ⟨wo2, rfl⟩ : ∃ wo2, wo2 = wr := ⟨_, rfl⟩
                clear hrow hcur hgb hcell
                go_wp2_with fail
                go_roundg (m - (ii + 1))
                case measure => omega
                case rel => exact ⟨ii + 1, by omega, by omega, by go_num, ⟨HS.out _⟩, ⟨HSB.out _⟩⟩
              · have hltz3 : ¬ (ii : Int) < (m : Int) := by omega
                clear hcell
                go_wp2_with fail
                go_roundg (n.length - (jj + 1))
                case measure => omega
                case rel => exact ⟨jj + 1, by omega, by omega, by go_num, HMi, HBi⟩
          · have hltz2 : ¬ (jj : Int) < (n.length : Int) := by omega
            have HBA := Aside0.mk (below_step HB4.out HBq.out)
            have HX6 := Aside0.mk (HX.out hc2)
            have HY9 := Aside0.mk (HY.out hi2)
            have HSCC := Aside0.mk (refsameR_is 1000 C C 100 (fun i => by have := HSC.out i; omega) (by omega) (by omega) (by omega))
            have HSII := Aside0.mk (refsameR_is 1000 I I 100 (fun i => by have := HSI.out i; omega) (by omega) (by omega) (by omega))
            rw [decide_eq_true rfl] at HSCC HSII
            go_wp2_with fail
            refine (few_go A c x 6 6 rfl (by decide) wr (Kd.C_below HR.out HBA.out) HC.out).mono ?_
            rintro e wa ⟨Aa, ca, rfl, hla, hCa, hba⟩
            rw [HX6.out] at hla hCa ⊢
            have HBa := Aside0.mk (below_step HBA.out hba)
            have HB4a := Aside0.mk (below_step HBq.out hba)
            have HCa := Aside0.mk hCa
            have HLa := Aside0.mk hla
            clear hla hCa hba
            go_wp2_with fail
            refine (P.quiverref12_Same.calls 1000 A2 c2 C Aa ca C true wa (Kd.C_below HC4.out HB4a.out) HL2.out HCa.out HLa.out HSCC.out).mono ?_
            rintro e wb ⟨rfl, hbb⟩
            have HBb := Aside0.mk (below_step HBa.out hbb.below)
            have HB4b := Aside0.mk (below_step HB4a.out hbb.below)
            clear hbb
            go_wp2_with fail
            refine (few_go B d l 96 96 rfl (by decide) wb (Kd.C_below HR'.out HBb.out) HC'.out).mono ?_
            rintro e wd ⟨Ad, cd, rfl, hld, hCd, hbd⟩
            rw [HY9.out] at hld hCd ⊢
            have HBd := Aside0.mk (below_step HBb.out hbd)
            have HB4d := Aside0.mk (below_step HB4b.out hbd)
            have HCdd := Aside0.mk hCd
            have HLd := Aside0.mk hld
            clear hld hCd hbd
            go_wp2_with fail
            refine (P.quiverref12_Same.calls 1000 A3 c3 I Ad cd I true wd (Kd.C_below HI4.out HB4d.out) HLI.out HCdd.out HLd.out HSII.out).mono ?_
            rintro e we ⟨rfl, hbe⟩
            have HBe := Aside0.mk (below_step HBd.out hbe.below)
            clear hbe
            go_wp2_with fail
            go_returns
            exact ⟨rfl, HBe.out⟩

theorem meansRounds.walk (A : Option Addr) (c : Nat) (x : List (List Int)) (B : Option Addr) (d : Nat) (l : List (List Int)) (W : World) (hl : x.length ≤ c) (hC : Kd.C (Kd.slice 21 (Kd.int .i32)) W A x.length x) (wl : ∀ a ∈ x, ∀ y ∈ a, (Lit.int .i32 y).wf = true) (hd : l.length ≤ d) (hD : Kd.C (Kd.slice 21 (Kd.int .i32)) W B l.length l) (wd : ∀ a ∈ l, ∀ y ∈ a, (Lit.int .i32 y).wf = true) :
    Calls Try.prog 10 #[.slice A x.length c, .slice B l.length d] W fun e W' => e = .returned (.bool true) ∧ Below W.heap.size W W' := meansRounds.go A c x B d l W hC hl hD hd

end Go.Proofs.Ytbdoeikdoohagaa.G
