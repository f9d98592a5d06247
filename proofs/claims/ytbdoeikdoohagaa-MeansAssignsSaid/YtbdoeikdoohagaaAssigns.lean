/- quiverlaw12.MeansAssigns answers true, for every centroids and row of vectors. -/
import Derived.Test.YtbdoeikdoohagaaD12
namespace Go.Proofs.Ytbdoeikdoohagaa.G
open Go.Shelf Go.RowKit Go.Proofs.YtbdoeikdoohagaaW.PrintWords Go.Proofs.YtbdoeikdoohagaaW.PrintLast Go.Proofs.YtbdoeikdoohagaaW.PrintMore
set_option linter.unusedVariables false
set_option linter.unusedSimpArgs false

theorem few6 {l : List (List Int)} (h : (fewV 7 l).length ≤ 6) : fewV 6 l = fewV 7 l := by
  unfold fewV at h ⊢
  rw [List.length_map, List.length_take] at h
  rw [List.take_of_length_le (by omega), List.take_of_length_le (by omega)]
/-- A row that is there at w, or one of the call's own. -/
abbrev kO (w : World) : Kd (List Int) := Kd.or_ kR (Kd.fixed kR w) rfl
theorem kO_C {w w' : World} {A : Option Addr} {n : Nat} {xs : List (List Int)} (hb : Below w.heap.size w w') (h : Kd.C (kO w) w' A n xs) : Kd.C kR w' A n xs :=
  ReadsRow.imp_ h (Below.refl _ _) (fun _ _ hp => by
    rcases hp with hp | hp
    · exact hp
    · exact kR.K_below hb hp)
/-- few's answer lies in memory of its own. -/
theorem few_own (A : Option Addr) (c : Nat) (l : List (List Int)) (a : Int) (n : Nat) (ha : a = (n : Int)) (hn : n ≤ 1000) (W : World) (hC : Kd.C kR W A l.length l) (hl : l.length ≤ c) :
    Calls Try.prog 35 #[.slice A l.length c, .int .i64 a] W fun e w' => ∃ A' c', e = .returned (.slice A' (fewV n l).length c') ∧ (fewV n l).length ≤ c' ∧ Kd.R (kO W) 25 w' W.heap.size (fun _ => True) (.slice A' (fewV n l).length c') (fewV n l) ∧ Below W.heap.size W w' := by
  subst ha
  refine (P.quiverlaw12_few.calls (l.length + 1) A c l n (fewV n l) W hC hl (few_is _ l n hn (Kd.C_max hC) (by omega))).mono ?_
  rintro e w' ⟨v, rfl, ho, hb⟩
  have hR := Kd.S_R ho
  obtain ⟨A', c', rfl, hl', hC'⟩ := Kd.S_reads ho
  exact ⟨A', c', rfl, hl', ⟨fun _ _ => trivial, hR.2.imp_ (fun _ _ hp => .inl hp)⟩, hb⟩
/-- A row of one vector, laid anew. -/
theorem litV {W : World} {v : List Int} {u : Value} (e : Nat) (hK : kR.K W v [u]) : Kd.C kR (W.alloc (.cells #[u] e)) (some ⟨W.heap.size, 0, none⟩) 1 [v] := by
  have h2 := World.ownsRow_lit (base := W.heap.size) (e := e) (size := 1) W #[u] 1 (Nat.le_refl _) (by decide) (by simp)
  have hR : Kd.R (Kd.fixed kR W) e (W.alloc (.cells #[u] e)) W.heap.size (fun _ => True) (.slice (some ⟨W.heap.size, 0, none⟩) 1 1) [v] := ⟨fun _ _ => trivial, [u], h2, Reps.one hK (Reps.none _ _)⟩
  obtain ⟨A, c, e1, _, hC⟩ := Kd.R_reads hR
  injection e1 with e1 _ _
  subst e1
  exact ReadsRow.imp_ hC (Below.refl _ _) (fun _ _ hp => kR.K_below ((Below.refl _ _).alloc (Nat.le_refl _) _) hp)
theorem err_swap {c : List (List Int)} {v : List Int} (h : allErr (c ++ [v]) = 0) : allErr (v :: c) = 0 := by
  have h1 := ok_of_err h
  exact err_of_ok (d := ((c ++ [v]).getD 0 []).length) (fun x hx => h1 x (by
    rcases List.mem_cons.1 hx with rfl | hx
    · simp
    · exact List.mem_append_left _ hx))

set_option maxHeartbeats 2000000 in
set_option maxRecDepth 100000 in
theorem meansAssigns.go (A : Option Addr) (c : Nat) (x : List (List Int)) (B : Option Addr) (d : Nat) (l : List (List Int)) (w : World) (hr : Kd.C kR w A x.length x) (hc : x.length ≤ c) (hr' : Kd.C kR w B l.length l) (hc' : l.length ≤ d) :
    Calls Try.prog 11 #[.slice A x.length c, .slice B l.length d] w fun e w' => e = .returned (.bool true) ∧ Below w.heap.size w w' := by
  have HR := Aside0.mk hr
  have HC := Aside0.mk hc
  have HR' := Aside0.mk hr'
  have HC' := Aside0.mk hc'
  have hml := Kd.C_max hr
  have hml' := Kd.C_max hr'
  clear hr hc hr' hc'
  go_enter Try.func11, Try.ntmps11
  go_wp2_with fail
  refine (wakes12.calls true _ rfl).mono ?_
  rintro e w1 ⟨rfl, hb1⟩
  have HB1 := Aside0.mk hb1
  clear hb1
  go_wp2_with fail
  refine (few_go A c x 7 7 rfl (by decide) w1 (Kd.C_below HR.out HB1.out) HC.out).mono ?_
  rintro e w2 ⟨A2, c2, rfl, hl2, hC2, hb2⟩
  have hc7 := few_len 7 x
  have HSH := Aside0.mk (few_short' 7 x)
  have H6 := Aside0.mk (fun h => few6 (l := x) h)
  generalize fewV 7 x = C at *
  have HB2 := Aside0.mk (below_step HB1.out hb2)
  have HI2 := Aside0.mk hC2
  have HL2 := Aside0.mk hl2
  clear hb2 hC2 hl2
  go_wp2_with fail
  refine (few_go B d l 20 20 rfl (by decide) w2 (Kd.C_below HR'.out HB2.out) HC'.out).mono ?_
  rintro e w3 ⟨A3, c3, rfl, hl3, hC3, hb3⟩
  have hv20 := few_len 20 l
  have HSV := Aside0.mk (few_short' 20 l)
  generalize fewV 20 l = V at *
  have HB3 := Aside0.mk (below_step HB2.out hb3)
  have HI3 := Aside0.mk (Kd.C_below HI2.out hb3)
  have HV3 := Aside0.mk hC3
  have HLV := Aside0.mk hl3
  have hm3 := Kd.C_max hC3
  clear hb3 hC3 hl3
  go_wp2_with fail
  go_loopg [18] V.length (fun gg s18 wr => ∃ (kk : Nat), kk ≤ V.length ∧ V.length - kk ≤ gg ∧ s18 = .int .i64 kk ∧ Aside0 (Below w3.heap.size w3 wr))
  case atStart => exact ⟨0, by omega, by omega, rfl, ⟨Below.refl _ _⟩⟩
  case round =>
    obtain ⟨kk, hkk, hg, rfl, HB⟩ := hrel
    by_cases hlt : kk < V.length
    · have hltz : (kk : Int) < (V.length : Int) := by omega
      obtain ⟨bd, Av, cv, hB, hcell, hlv, hCv⟩ := C_row HV3.out kk hlt
      subst hB
      replace hcell := (HB.out.cell (World.block_lt_of_cell? w3 _ hcell)).trans hcell
      have hs5 := HSV.out kk
      generalize V.getD kk [] = v at *
      have HCV := Aside0.mk (Kd.C_below hCv HB.out)
      have HLv := Aside0.mk hlv
      have hmv := Kd.C_max hCv
      clear hlv hCv
      go_wp2_with fail
      refine (means_Assign.calls A2 c2 C Av cv v (assignR C v).1 (assignR C v).2 wr (Kd.C_below HI3.out HB.out) HL2.out HCV.out HLv.out rfl).mono ?_
      rintro e w4 ⟨rfl, hb4⟩
      have HB4 := Aside0.mk (below_step HB.out hb4)
      have HC4 := Aside0.mk (Kd.C_below (Kd.C_below HI3.out HB.out) hb4)
      have HV4 := Aside0.mk (Kd.C_below HCV.out hb4)
      clear hb4 hcell
      have HCE := Aside0.mk (cent12_is C)
      by_cases hce : centErr C = 0
      case neg =>
        have has : assignR C v = (0, 2) := by unfold assignR; rw [if_neg hce]
        rw [has]
        rw [decide_eq_false hce] at HCE
        simp only
        clear has hce
        go_wp2_with fail
        refine (P.quiverref12_Centroids.calls A2 c2 C false w4 HC4.out HL2.out HCE.out).mono ?_
        rintro e w5 ⟨rfl, hb5⟩
        have HB5 := Aside0.mk (bdr HB4.out hb5)
        clear hb5
        go_wp2_with fail
        go_roundg (V.length - (kk + 1))
        case measure => omega
        case rel => exact ⟨kk + 1, by omega, by omega, by go_num, HB5⟩
      case pos =>
        have hc16 : 0 < C.length ∧ C.length ≤ 6 := by unfold centErr at hce; split at hce; omega; split at hce <;> omega
        have HX := Aside0.mk (H6.out hc16.2)
        obtain ⟨ae, hae⟩ : ∃ ae, ae = allErr (C ++ [v]) := ⟨_, rfl⟩
        obtain ⟨r1, hr1⟩ : ∃ r1, r1 = if ae = 0 then own1 C v else 0 := ⟨_, rfl⟩
        have has : assignR C v = (r1, ae) := by
          unfold assignR
          rw [if_pos hce, ← hae, hr1]
          by_cases h : ae = 0
          · rw [if_pos h, if_pos h, h]
          · rw [if_neg h, if_neg h]
        rw [has]
        simp only
        rw [decide_eq_true hce] at HCE
        have HAL := Aside0.mk (all12_is (C ++ [v]) (by simp; omega) (fun i => by
          by_cases hi : i < C.length
          · rw [List.getD_eq_getElem?_getD, List.getElem?_append_left hi, ← List.getD_eq_getElem?_getD]; have := HSH.out i; omega
          · by_cases hi2 : i = C.length
            · subst hi2; simp; omega
            · rw [List.getD_eq_getElem?_getD, List.getElem?_eq_none (by simp; omega)]; simp))
        have HPA := Aside0.mk (fun h : allErr (C ++ [v]) = 0 => parts_is 500 C [v] hc16.1 (by omega) (by simp) (fun u hu => by rw [List.mem_singleton.1 hu]; exact err_swap h) (by simp))
        rw [← hae] at HAL HPA
        have HR1 := Aside0.mk hr1
        obtain ⟨hc1, hc2⟩ := hc16
        clear has hce hae hr1
        go_wp2_with fail
        refine (P.quiverref12_Centroids.calls A2 c2 C true w4 HC4.out HL2.out HCE.out).mono ?_
        rintro e w5 ⟨rfl, hb5⟩
        have HB5 := Aside0.mk (bdr HB4.out hb5)
        have HC5 := Aside0.mk (Kd.C_below HC4.out hb5.below)
        have HV5 := Aside0.mk (Kd.C_below HV4.out hb5.below)
        clear hb5
        go_wp2_with fail
        refine (few_own A c x 6 6 rfl (by decide) w5 (Kd.C_below (Kd.C_below HR.out HB3.out) HB5.out) HC.out).mono ?_
        rintro e w6 ⟨A6, c6, rfl, hl6, hR6, hb6⟩
        rw [HX.out] at hl6 hR6 ⊢
        have HB6 := Aside0.mk (below_step HB5.out hb6)
        have HR6 := Aside0.mk hR6
        have HK5 := Aside0.mk (show kR.K w5 v [.slice Av v.length cv] from ⟨Av, cv, rfl, HLv.out, HV5.out⟩)
        have HBB := Aside0.mk hb6
        clear hl6 hR6 hb6
        go_wp2_with (first | ((with_reducible refine gate_dst (N := 33) rfl ?_); refine Kd.R_lit (Kd.fixed kR w5) (w0 := w5) w5.heap.size 25 ?hg (N := 33) ?hd (xs := [v]) (inner := [.slice Av v.length cv]) (ok := fun _ => True) (okp := fun _ => True) ?hr ?hp (fun _ hk => hk) trivial HBB.out HBB.out.size (by simp) ?_; (case hd => rfl); (case hg => rfl); (case hr => first | (go_simp; done) | (go_simp; rfl)); (case hp => exact Reps.one HK5.out (Reps.none _ _)); intro v7 w7 ho hb hg_ hnew_; obtain ⟨A7, c7, e7, _, hC7⟩ := Kd.R_reads ho; subst e7; have HR7 := Aside0.mk (Kd.R_grown HR6.out hg_ (fun _ _ => by simp)); have HC7 := Aside0.mk hC7; have HB7 := Aside0.mk hb; clear hg_ hnew_ ho hb hC7) | ((with_reducible refine gate_builtin (b := .append) (xs := #[.tmp 31, .tmp 33]) rfl ?_); at_builtin; refine Kd.R_append_rows (kO w5) (Rr := kR.K w5) (w0 := w5) w5.heap.size rfl (.tmp 31) (.tmp 33) 22 25 (.slice none 0 0) 24 rfl Try.underlying22 info_row rfl (show 0 < 1 by decide) (by omega) _ C [v] A7 1 c7 (fun _ => True) (fun _ => False) rfl rfl HR7.out HC7.out (fun _ _ h => .inr h) (fun _ h => h.elim) (fun _ _ => trivial) HB7.out (below_size HB7.out) (by omega) ?_; intro v8 w8 ho hb hg hat; clear hg hat; obtain ⟨A8, c8, e8, hl8, hC8⟩ := Kd.R_reads ho; subst e8; have HC8 := Aside0.mk (kO_C hb hC8); have HL8 := Aside0.mk hl8; have HB8 := Aside0.mk hb; clear ho hb hl8 hC8))
        rw [show C.length + 1 = (C ++ [v]).length by simp]
        have HB58 := Aside0.mk (below_step HB5.out HB8.out)
        refine (P.quiverref12_All.calls 1000 A8 c8 (C ++ [v]) ae w8 HC8.out HL8.out HAL.out).mono ?_
        rintro e w9 ⟨rfl, hb9⟩
        have HB9 := Aside0.mk (bdr HB58.out hb9)
        have HC9 := Aside0.mk (Kd.C_below (Kd.C_below HC5.out HB8.out) hb9.below)
        have HV9 := Aside0.mk (Kd.C_below (Kd.C_below HV5.out HB8.out) hb9.below)
        clear hb9
        by_cases haz : ae = 0
        case neg =>
          have hr1 : r1 = 0 := by rw [HR1.out, if_neg haz]
          subst hr1
          have e1 : (ae != 0) = true := by rw [bne_iff_ne]; exact haz
          have e2 : (ae != ae) = false := by simp
          clear haz
          go_wp2_with fail
          go_roundg (V.length - (kk + 1))
          case measure => omega
          case rel => exact ⟨kk + 1, by omega, by omega, by go_num, HB9⟩
        case pos =>
          have hr1 : r1 = own1 C v := by rw [HR1.out, if_pos haz]
          have HPQ := Aside0.mk (HPA.out haz)
          subst haz hr1
          have HKV := Aside0.mk (show kR.K w9 v [.slice Av v.length cv] from ⟨Av, cv, rfl, HLv.out, HV9.out⟩)
          go_wp2_with fail
          have HCL := Aside0.mk (litV 25 HKV.out)
          have HBL := Aside0.mk ((Below.refl w9.heap.size w9).alloc (Nat.le_refl _) (.cells #[.slice Av v.length cv] 25))
          refine (P.quiverref12_Parts.calls 500 A2 c2 C (some ⟨w9.heap.size, 0, none⟩) 1 [v] (partsV C [v]) _ (Kd.C_below HC9.out HBL.out) HL2.out HCL.out (by simp) HPQ.out).mono ?_
          rintro e w10 ⟨v10, rfl, ho, hb10⟩
          have hB10 := below_step (below_step HB9.out HBL.out) hb10
          have HB10 := Aside0.mk hB10
          obtain ⟨A10, c10, ev, hl10, hC10⟩ := Kd.R_reads ho
          subst ev
          obtain ⟨ad, cc, eA, _, hK, hcell⟩ := Kd.C_get hC10 0 (0 : Int) (by omega) (by simp [partsV])
          subst eA
          have hK' : cc = [.int .i64 (own1 C v)] := hK
          subst hK'
          have c0 : w10.cell? ad = some (.int .i64 (own1 C v)) := by
            have h : w10.cell? (ad.add (0 * 1 + 0)) = some (.int .i64 (own1 C v)) := hcell 0 _ rfl
            simpa [add0] using h
          have hpl : (partsV C [v]).length = 1 := rfl
          rw [hpl]
          have e2 : (own1 C v != own1 C v) = false := by simp
          clear hpl hcell hK hC10 hl10 ho hb10 hB10
          go_wp2_with fail
          go_roundg (V.length - (kk + 1))
          case measure => omega
          case rel => exact ⟨kk + 1, by omega, by omega, by go_num, HB10⟩
    · have hltz : ¬ (kk : Int) < (V.length : Int) := by omega
      go_wp2_with fail
      go_returns
      exact ⟨rfl, below_step HB3.out HB.out⟩

theorem meansAssigns.walk (A : Option Addr) (c : Nat) (x : List (List Int)) (B : Option Addr) (d : Nat) (l : List (List Int)) (W : World) (hl : x.length ≤ c) (hC : Kd.C (Kd.slice 21 (Kd.int .i32)) W A x.length x) (wl : ∀ a ∈ x, ∀ y ∈ a, (Lit.int .i32 y).wf = true) (hd : l.length ≤ d) (hD : Kd.C (Kd.slice 21 (Kd.int .i32)) W B l.length l) (wd : ∀ a ∈ l, ∀ y ∈ a, (Lit.int .i32 y).wf = true) :
    Calls Try.prog 11 #[.slice A x.length c, .slice B l.length d] W fun e W' => e = .returned (.bool true) ∧ Below W.heap.size W W' := meansAssigns.go A c x B d l W hC hl hD hd

end Go.Proofs.Ytbdoeikdoohagaa.G
