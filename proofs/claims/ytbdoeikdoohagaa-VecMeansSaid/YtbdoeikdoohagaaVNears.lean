/- quiverlaw05.VecNears answers true, for every row of vectors and vector. -/
import Derived.Test.YtbdoeikdoohagaaV2
namespace Go.Proofs.Ytbdoeikdoohagaa.G
open Go.Shelf Go.RowKit Go.Proofs.YtbdoeikdoohagaaW.PrintWords Go.Proofs.YtbdoeikdoohagaaW.PrintLast Go.Proofs.YtbdoeikdoohagaaW.PrintMore
set_option linter.unusedVariables false
set_option linter.unusedSimpArgs false

theorem bd {g : Nat} {w w1 w2 : World} (h : Below g w w1) (hd : Drawn0 w1 w2) : Below g w w2 := by
  obtain ⟨⟨nd, rfl⟩⟩ := hd
  exact pw_below_drewN h nd
theorem over_no {l : List (List Int)} (h : over l = false) : l.length ≤ 80 ∧ ∀ i, (l.getD i []).length ≤ 100 := by
  unfold over at h
  rw [Bool.or_eq_false_iff] at h
  refine ⟨by have := of_decide_eq_false h.1; omega, fun i => ?_⟩
  by_cases hi : i < l.length
  · have := List.any_eq_false.1 h.2 _ (List.getElem_mem hi)
    rw [getD_of_lt l i [] hi]
    have := of_decide_eq_false (by simpa using this : decide (100 < l[i].length) = false)
    omega
  · rw [List.getD_eq_getElem?_getD, List.getElem?_eq_none (by omega)]
    simp

theorem same_self (m : List Int) (h : m.length ≤ 9223372036854775807) : P.quiverref05_Same.f (m.length + 1) m m = some true := by rw [refsame_is _ m m (by omega) h]; simp

set_option maxHeartbeats 4000000 in
set_option maxRecDepth 100000 in
theorem vecNears.go (A : Option Addr) (c : Nat) (l : List (List Int)) (A' : Option Addr) (c' : Nat) (v : List Int) (w : World) (hr : Kd.C kR w A l.length l) (hc : l.length ≤ c) (hr' : Kd.C (Kd.int .i32) w A' v.length v) (hc' : v.length ≤ c') :
    Calls Try.prog 7 #[.slice A l.length c, .slice A' v.length c'] w fun e w' => e = .returned (.bool true) ∧ Below w.heap.size w w' := by
  have HR := Aside0.mk hr
  have HR' := Aside0.mk hr'
  have HC := Aside0.mk hc
  have HC' := Aside0.mk hc'
  have HK := Aside0.mk (show kR.K w v [.slice A' v.length c'] from ⟨A', c', rfl, hc', hr'⟩)
  have hml := Kd.C_max hr
  have hml' := Kd.C_max hr'
  have HOV := Aside0.mk (over_is l 200 (by omega))
  clear hr hr' hc hc'
  cases ho : over l with
  | true =>
    rw [ho] at HOV
    go_enter Try.func7, Try.ntmps7
    go_wp2_with fail
    refine (wakes05.calls true _ rfl).mono ?_
    rintro e w1 ⟨rfl, hb1⟩
    have HB1 := Aside0.mk hb1
    clear hb1
    go_wp2_with fail
    refine (P.quiverlaw05_over.calls 200 A c l true w1 (Kd.C_below HR.out HB1.out) HC.out HOV.out).mono ?_
    rintro e w2 ⟨rfl, hb2⟩
    have HB2 := Aside0.mk (bd HB1.out hb2)
    clear hb2
    go_wp2_with fail
    go_returns
    exact ⟨rfl, HB2.out⟩
  | false =>
  rw [ho] at HOV
  obtain ⟨hl80, hv100⟩ := over_no ho
  clear ho
  obtain ⟨⟨n1, n2⟩, hn⟩ : ∃ p, p = nearR l v := ⟨_, rfl⟩
  obtain ⟨⟨m1, m2⟩, hm⟩ : ∃ p, p = meanR l := ⟨_, rfl⟩
  obtain ⟨zl, hzl⟩ : ∃ z, z = allErr l := ⟨_, rfl⟩
  obtain ⟨z, hz⟩ : ∃ z, z = allErr (v :: l) := ⟨_, rfl⟩
  obtain ⟨q, hq⟩ : ∃ q, q = (nst l v l.length).1 := ⟨_, rfl⟩
  obtain ⟨mv, hmv⟩ : ∃ q, q = meanV l := ⟨_, rfl⟩
  have HN := Aside0.mk (show vec_Nearest.f l v = some (n1, n2) by unfold vec_Nearest.f; rw [if_pos (by omega), hn])
  have HM := Aside0.mk (show vec_Mean.f l = some (m1, m2) by unfold vec_Mean.f; rw [if_pos (by omega), hm])
  have HZL := Aside0.mk hzl
  have HZ := Aside0.mk hz
  have HX := nst_range l v l.length
  have HALL := Aside0.mk (show P.quiverref05_All.f 400 l = some zl by rw [hzl]; exact refall_is l (by omega) hv100)
  have HQ := Aside0.mk (show 0 < l.length → z = 0 → P.quiverref05_Nearest.f 400 l v = some q from fun a b => by rw [hq]; exact refnear_is l v hl80 a (hz.symm.trans b))
  have HME := Aside0.mk (show 0 < l.length → zl = 0 → P.quiverref05_Mean.f 400 l = some mv from fun a b => by rw [hmv]; exact refmean_is l hl80 a (hzl.symm.trans b))
  have HAV := Aside0.mk (show ¬ 100 < v.length → P.quiverref05_All.f 400 ([v] ++ l) = some z from fun hv => by rw [hz]; exact refall_is (v :: l) (by simp only [List.length_cons]; omega) (fun i => by cases i with | zero => exact Nat.le_of_not_lt hv | succ i => exact hv100 i))
  unfold nearR at hn
  unfold meanR at hm
  rw [← hz, ← hq] at hn
  rw [← hzl, ← hmv] at hm
  rw [← hq] at HX
  obtain ⟨HX1, HX2⟩ := HX
  have HHN := Aside0.mk hn
  have HHM := Aside0.mk hm
  clear hn hm hz hzl hq hmv
  go_enter Try.func7, Try.ntmps7
  go_wp2_with fail
  refine (wakes05.calls true _ rfl).mono ?_
  rintro e w1 ⟨rfl, hb1⟩
  have HB1 := Aside0.mk hb1
  clear hb1
  go_wp2_with fail
  refine (P.quiverlaw05_over.calls 200 A c l false w1 (Kd.C_below HR.out HB1.out) HC.out HOV.out).mono ?_
  rintro e w2 ⟨rfl, hb2⟩
  have HB2 := Aside0.mk (bd HB1.out hb2)
  clear hb2
  by_cases hv : 100 < v.length
  · have hvz : (100 : Int) < (v.length : Int) := by omega
    go_wp2_with fail
    go_returns
    exact ⟨rfl, HB2.out⟩
  have hvz : (v.length : Int) ≤ 100 := by omega
  have HV1 := Aside0.mk hv100
  have HL8 := Aside0.mk hl80
  have HV := Aside0.mk hv
  clear hv hv100 HOV
  go_wp2_with fail
  refine (vec_Nearest.calls A c l A' c' v _ _ w2 (Kd.C_below HR.out HB2.out) HC.out (Kd.C_below HR'.out HB2.out) HC'.out HN.out).mono ?_
  rintro e w3 ⟨rfl, hb3⟩
  have HB3 := Aside0.mk (below_step HB2.out hb3)
  clear hb3
  go_wp2_with fail
  refine (vec_Mean.calls A c l _ _ w3 (Kd.C_below HR.out HB3.out) HC.out HM.out).mono ?_
  rintro e w4 ⟨vm, rfl, hm4, hb4⟩
  have HB4 := Aside0.mk (below_step HB3.out hb4)
  obtain ⟨A4, c4, rfl, hl4, hC4⟩ := Kd.R_reads hm4
  have hm4' := Kd.C_max hC4
  have HC4 := Aside0.mk hC4
  have HL4 := Aside0.mk hl4
  clear hb4 hm4 hC4 hl4
  have hn := HHN.out
  have hm := HHM.out
  by_cases h0 : l.length = 0
  · rw [if_pos h0] at hn hm
    obtain ⟨rfl, rfl⟩ := Prod.mk.inj hn
    obtain ⟨rfl, rfl⟩ := Prod.mk.inj hm
    have h0z : (l.length : Int) = 0 := by omega
    clear hn hm HHN HHM
    go_wp2_with fail
    go_returns
    exact ⟨rfl, HB4.out⟩
  rw [if_neg h0] at hn hm
  have h0n : 0 < l.length := by omega
  have e0 : ((l.length : Int) == 0) = false := by rw [beq_eq_false_iff_ne]; omega
  have HHN2 := Aside0.mk hn
  have HHM2 := Aside0.mk hm
  clear HHN HHM HN HM h0 hn hm
  go_wp2_with fail
  refine (P.quiverref05_All.calls 400 A c l _ w4 (Kd.C_below HR.out HB4.out) HC.out HALL.out).mono ?_
  rintro e w5 ⟨rfl, hd5⟩
  have HB5 := Aside0.mk (bd HB4.out hd5)
  have HC5 := Aside0.mk (Kd.C_below HC4.out (bd (Below.refl _ _) hd5))
  clear hd5
  have hm := HHM2.out
  by_cases hz : zl = 0
  · rw [if_pos hz] at hm
    obtain ⟨rfl, rfl⟩ := Prod.mk.inj hm
    have HMF := Aside0.mk (HME.out h0n hz)
    subst hz
    clear hm HHM2 HME
    have HSM := Aside0.mk (same_self m1 hm4')
    go_wp2_with fail
    refine (P.quiverref05_Mean.calls 400 A c l m1 w5 (Kd.C_below HR.out HB5.out) HC.out HMF.out).mono ?_
    rintro e w5b ⟨vq, rfl, hq, hbq⟩
    have HB5b := Aside0.mk (below_step HB5.out hbq)
    have HC5b := Aside0.mk (Kd.C_below HC5.out hbq)
    obtain ⟨Aq, cq, rfl, hlq, hCq⟩ := Kd.R_reads hq
    have HCq := Aside0.mk hCq
    have HLq := Aside0.mk hlq
    clear hq hbq hCq hlq
    go_wp2_with fail
    refine (P.quiverref05_Same.calls (m1.length + 1) A4 c4 m1 Aq cq m1 true w5b HC5b.out HL4.out HCq.out HLq.out HSM.out).mono ?_
    rintro e w6 ⟨rfl, hd6⟩
    have HB6 := Aside0.mk (bd HB5b.out hd6)
    clear hd6
    go_wp2_with (first | ((with_reducible refine gate_dst (N := 72) rfl ?_); refine Kd.R_lit (Kd.fixed kR w) (w0 := w) w.heap.size 25 ?hg (N := 72) ?hd (xs := [v]) (inner := [.slice A' v.length c']) (ok := fun _ => True) (okp := fun _ => True) ?hr ?hp (fun _ hk => hk) trivial HB6.out (below_size HB6.out) (by simp) ?_; (case hd => rfl); (case hg => rfl); (case hr => first | (go_simp; done) | (go_simp; rfl)); (case hp => exact Reps.one HK.out (Reps.none _ _)); intro v1 w7 ho hb hg_ hnew_; clear hg_ hnew_; have HO := Aside0.mk ho; have HB7 := Aside0.mk hb; clear ho hb) | ((with_reducible refine gate_builtin (b := .append) (xs := #[.tmp 72, .tmp 73]) rfl ?_); at_builtin; refine Kd.R_append_rows (Kd.fixed kR w) (Rr := kR.K w) (w0 := w) w.heap.size rfl (.tmp 72) (.tmp 73) 22 25 (.slice none 0 0) 24 rfl Try.underlying22 info_row rfl (show 0 < 1 by decide) (by omega) v1 [v] l A l.length c (fun _ => True) (fun _ => False) rfl rfl HO.out (ReadsRow.imp_ HR.out HB7.out (fun _ _ h => h)) (fun _ _ h => h) (fun _ h => h.elim) (fun _ _ => trivial) HB7.out (below_size HB7.out) (by simp only [List.length_cons, List.length_nil]; omega) ?_; intro v2 w8 ho hb hg hat; clear hg hat; obtain ⟨A2, c2, e2, hl2, hC2⟩ := Kd.R_reads ho; subst e2; have HC2 := Aside0.mk (ReadsRow.imp_ hC2 (Below.refl _ _) (fun _ _ hp => kR.K_below hb hp) : Kd.C kR w8 A2 ([v] ++ l).length ([v] ++ l)); have HL2 := Aside0.mk hl2; have HB8 := Aside0.mk hb; clear ho hb hl2 hC2))
    refine (P.quiverref05_All.calls 400 A2 c2 ([v] ++ l) z w8 HC2.out HL2.out (HAV.out HV.out)).mono ?_
    rintro e w9 ⟨rfl, hd9⟩
    have HB9 := Aside0.mk (bd HB8.out hd9)
    clear hd9
    have hn := HHN2.out
    by_cases hzz : z = 0
    · rw [if_pos hzz] at hn
      have HQ2 := Aside0.mk (HQ.out h0n hzz)
      subst hzz
      obtain ⟨rfl, rfl⟩ := Prod.mk.inj hn
      clear hn HHN2 HQ
      go_wp2_with fail
      refine (P.quiverref05_Nearest.calls 400 A c l A' c' v n1 w9 (Kd.C_below HR.out HB9.out) HC.out (Kd.C_below HR'.out HB9.out) HC'.out HQ2.out).mono ?_
      rintro e w10 ⟨rfl, hd10⟩
      have HB10 := Aside0.mk (bd HB9.out hd10)
      clear hd10
      go_wp2_with fail
      go_returns
      exact ⟨rfl, HB10.out⟩
    · rw [if_neg hzz] at hn
      obtain ⟨rfl, rfl⟩ := Prod.mk.inj hn
      have e1 : (n2 == 0) = false := by rw [beq_eq_false_iff_ne]; exact hzz
      have e2 : (n2 != 0) = true := by rw [bne_iff_ne]; exact hzz
      clear hn HHN2 HQ
      go_wp2_with fail
      go_returns
      exact ⟨rfl, HB9.out⟩
  · rw [if_neg hz] at hm
    obtain ⟨rfl, rfl⟩ := Prod.mk.inj hm
    have HB6 := HB5
    have g1 : (m2 == 0) = false := by rw [beq_eq_false_iff_ne]; exact hz
    have g2 : (m2 != 0) = true := by rw [bne_iff_ne]; exact hz
    clear hm HHM2 HME
    go_wp2_with (first | ((with_reducible refine gate_dst (N := 72) rfl ?_); refine Kd.R_lit (Kd.fixed kR w) (w0 := w) w.heap.size 25 ?hg (N := 72) ?hd (xs := [v]) (inner := [.slice A' v.length c']) (ok := fun _ => True) (okp := fun _ => True) ?hr ?hp (fun _ hk => hk) trivial HB6.out (below_size HB6.out) (by simp) ?_; (case hd => rfl); (case hg => rfl); (case hr => first | (go_simp; done) | (go_simp; rfl)); (case hp => exact Reps.one HK.out (Reps.none _ _)); intro v1 w7 ho hb hg_ hnew_; clear hg_ hnew_; have HO := Aside0.mk ho; have HB7 := Aside0.mk hb; clear ho hb) | ((with_reducible refine gate_builtin (b := .append) (xs := #[.tmp 72, .tmp 73]) rfl ?_); at_builtin; refine Kd.R_append_rows (Kd.fixed kR w) (Rr := kR.K w) (w0 := w) w.heap.size rfl (.tmp 72) (.tmp 73) 22 25 (.slice none 0 0) 24 rfl Try.underlying22 info_row rfl (show 0 < 1 by decide) (by omega) v1 [v] l A l.length c (fun _ => True) (fun _ => False) rfl rfl HO.out (ReadsRow.imp_ HR.out HB7.out (fun _ _ h => h)) (fun _ _ h => h) (fun _ h => h.elim) (fun _ _ => trivial) HB7.out (below_size HB7.out) (by simp only [List.length_cons, List.length_nil]; omega) ?_; intro v2 w8 ho hb hg hat; clear hg hat; obtain ⟨A2, c2, e2, hl2, hC2⟩ := Kd.R_reads ho; subst e2; have HC2 := Aside0.mk (ReadsRow.imp_ hC2 (Below.refl _ _) (fun _ _ hp => kR.K_below hb hp) : Kd.C kR w8 A2 ([v] ++ l).length ([v] ++ l)); have HL2 := Aside0.mk hl2; have HB8 := Aside0.mk hb; clear ho hb hl2 hC2))
    refine (P.quiverref05_All.calls 400 A2 c2 ([v] ++ l) z w8 HC2.out HL2.out (HAV.out HV.out)).mono ?_
    rintro e w9 ⟨rfl, hd9⟩
    have HB9 := Aside0.mk (bd HB8.out hd9)
    clear hd9
    have hn := HHN2.out
    by_cases hzz : z = 0
    · rw [if_pos hzz] at hn
      have HQ2 := Aside0.mk (HQ.out h0n hzz)
      subst hzz
      obtain ⟨rfl, rfl⟩ := Prod.mk.inj hn
      clear hn HHN2 HQ
      go_wp2_with fail
      refine (P.quiverref05_Nearest.calls 400 A c l A' c' v n1 w9 (Kd.C_below HR.out HB9.out) HC.out (Kd.C_below HR'.out HB9.out) HC'.out HQ2.out).mono ?_
      rintro e w10 ⟨rfl, hd10⟩
      have HB10 := Aside0.mk (bd HB9.out hd10)
      clear hd10
      go_wp2_with fail
      go_returns
      exact ⟨rfl, HB10.out⟩
    · rw [if_neg hzz] at hn
      obtain ⟨rfl, rfl⟩ := Prod.mk.inj hn
      have e1 : (n2 == 0) = false := by rw [beq_eq_false_iff_ne]; exact hzz
      have e2 : (n2 != 0) = true := by rw [bne_iff_ne]; exact hzz
      clear hn HHN2 HQ
      go_wp2_with fail
      go_returns
      exact ⟨rfl, HB9.out⟩

theorem vecNears.walk (A : Option Addr) (c : Nat) (l : List (List Int)) (B : Option Addr) (d : Nat) (v : List Int) (W : World) (hl : l.length ≤ c) (hC : Kd.C (Kd.slice 21 (Kd.int .i32)) W A l.length l) (wl : ∀ x ∈ l, ∀ y ∈ x, (Lit.int .i32 y).wf = true) (hv : v.length ≤ d) (hD : Kd.C (Kd.int .i32) W B v.length v) (wv : ∀ x ∈ v, (Lit.int .i32 x).wf = true) :
    Calls Try.prog 7 #[.slice A l.length c, .slice B v.length d] W fun e W' => e = .returned (.bool true) ∧ Below W.heap.size W W' :=
  vecNears.go A c l B d v W hC hl hD hv

end Go.Proofs.Ytbdoeikdoohagaa.G
