/- Contract of means.all: why vectors of all rows may not be together; slices.Grow, slices.Concat of rows. -/
import Derived.Test.YtbdoeikdoohagaaG11
namespace Go.Proofs.Ytbdoeikdoohagaa.G
open Go.Shelf Go.RowKit Go.Proofs.YtbdoeikdoohagaaW.PrintWords Go.Proofs.YtbdoeikdoohagaaW.PrintLast Go.Proofs.YtbdoeikdoohagaaW.PrintMore
set_option linter.unusedVariables false
set_option linter.unusedSimpArgs false

theorem kR_nil (w : World) : kR.K w [] [.slice none 0 0] := ⟨none, 0, rfl, Nat.le_refl _, Kd.C_nil _ _⟩

set_option maxHeartbeats 1000000 in
set_option maxRecDepth 100000 in
theorem grow_calls (w0 : World) (n : Nat) (hn : n ≤ 1000000) (w : World) :
    Calls Try.prog 82 #[.slice none 0 0, .int .i64 n] w fun e w' => ∃ v, e = .returned v ∧ Kd.R (Kd.fixed kR w0) 25 w' w.heap.size (fun _ => True) v [] ∧ Below w.heap.size w w' := by
  by_cases h0 : n = 0
  · subst h0
    go_enter Try.func82, Try.ntmps82
    go_wp2_with fail
    go_returns
    exact ⟨_, rfl, Kd.R_nil _ _ _ _ _, Below.refl _ _⟩
  · have e0 : decide ((0 : Int) < (n : Int)) = true := decide_eq_true (by omega)
    have hz : (0 : Int) ≤ (n : Int) := by omega
    have hnn : 0 < n := by omega
    clear h0
    go_enter Try.func82, Try.ntmps82
    go_wp2_with ((with_reducible refine gate_builtin (b := .append) (xs := #[.tmp 20, .tmp 21]) rfl ?_); at_builtin; refine Kd.R_append_zeros (Kd.fixed kR w0) (w0 := w) w.heap.size rfl (.tmp 20) (.tmp 21) 22 3 25 (.slice none 0 0) 24 rfl Try.underlying22 Try.underlying3 info_row rfl (show 0 < 1 by decide) (by omega) (.slice none 0 0) [] [] (n : Int) (fun _ => True) rfl rfl (kR_nil w0) (fun _ _ => trivial) (Kd.R_nil _ _ _ _ _) hz (Below.refl _ _) (Nat.le_refl _) (by simp <;> omega) ?_; intro v1 w1 ho hb hg hat; clear hg hat; obtain ⟨g, cap, e1, _⟩ := Kd.R_form ho (by simp <;> omega); subst e1; have hl : ([] ++ List.replicate ((n : Int).toNat) ([] : List Int)).length = n := (by simp); have HO := Aside0.mk (Kd.R_take (m := 0) ho (Nat.zero_le _)); have HB := Aside0.mk hb; rw [hl]; clear ho hb hl)
    go_returns
    exact ⟨_, rfl, by simpa using HO.out, HB.out⟩

def flen (ls : List (List (List Int))) (k : Nat) : Nat := (ls.take k).flatten.length
theorem flat_snoc {α : Type} (ls : List (List α)) (k : Nat) (hk : k < ls.length) : (ls.take (k + 1)).flatten = (ls.take k).flatten ++ ls.getD k [] := by
  rw [List.take_succ_eq_append_getElem hk, List.flatten_append, getD_of_lt ls k [] hk]
  simp
theorem flat_le {α : Type} (ls : List (List α)) (k : Nat) : (ls.take k).flatten.length ≤ ls.flatten.length := by
  have h : ls.flatten = (ls.take k).flatten ++ (ls.drop k).flatten := by rw [← List.flatten_append, List.take_append_drop]
  rw [h, List.length_append]
  omega

set_option maxHeartbeats 2000000 in
set_option maxRecDepth 100000 in
theorem concat_calls (A : Option Addr) (c : Nat) (ls : List (List (List Int))) (w : World) (hr : Kd.C (Kd.slice 25 kR) w A ls.length ls) (hbig : ls.flatten.length ≤ 1000000) :
    Calls Try.prog 75 #[.slice A ls.length c] w fun e w' => ∃ v, e = .returned v ∧ Kd.R (Kd.fixed kR w) 25 w' w.heap.size (fun _ => True) v ls.flatten ∧ Below w.heap.size w w' := by
  have HR := Aside0.mk hr
  have hm := Kd.C_max hr
  have HF := Aside0.mk (show (ls.take ls.length).flatten = ls.flatten by rw [List.take_length])
  have HL := Aside0.mk (fun k => flat_le ls k)
  have HBg := Aside0.mk hbig
  clear hr hbig
  go_enter Try.func75, Try.ntmps75
  go_wp2_with fail
  go_loopg [3, 11] ls.length (fun gg s3 s11 wr => ∃ kk n : Nat, kk ≤ ls.length ∧ ls.length - kk ≤ gg ∧ s3 = .int .i64 n ∧ s11 = .int .i64 kk ∧ Aside0 (n = flen ls kk) ∧ Aside0 (Below w.heap.size w wr))
  case atStart => exact ⟨0, 0, Nat.zero_le _, by omega, rfl, rfl, ⟨by simp [flen]⟩, ⟨Below.refl _ _⟩⟩
  case round =>
    obtain ⟨kk, n, hkk, hg, rfl, rfl, HN, HB⟩ := hrel
    by_cases hlt : kk < ls.length
    · have hltz : (kk : Int) < (ls.length : Int) := by omega
      obtain ⟨ad, A', c', hA, hcell, hlc', hC⟩ := C_row HR.out kk hlt
      subst hA
      replace hcell := (HB.out.cell (World.block_lt_of_cell? w _ hcell)).trans hcell
      have hsn := congrArg List.length (flat_snoc ls kk hlt)
      rw [List.length_append] at hsn
      have hle := HL.out (kk + 1)
      have hb2 := HBg.out
      have hnn := HN.out
      unfold flen at hnn
      have HSN := Aside0.mk (show n + (ls.getD kk []).length = flen ls (kk + 1) by unfold flen; omega)
      have hb1 : n + (ls.getD kk []).length ≤ 1000000 := by omega
      clear hsn hle hb2 hnn hC hlc'
      generalize (ls.getD kk []).length = m at *
      go_wp2_with fail
      go_roundg (ls.length - (kk + 1))
      case measure => omega
      case rel => exact ⟨kk + 1, n + m, hlt, by omega, by go_num, by go_num, HSN, HB⟩
    · obtain rfl : kk = ls.length := by omega
      have hn : n ≤ 1000000 := by
        have h1 := HN.out
        have h2 := HL.out ls.length
        have h3 := HBg.out
        unfold flen at h1
        omega
      obtain ⟨wo, rfl⟩ : ∃ wo : World, wo = wr := ⟨_, rfl⟩
      go_wp2_with fail
      refine (grow_calls w n hn wo).mono ?_
      rintro e w1 ⟨v1, rfl, ho, hb⟩
      have HO := Aside0.mk (Kd.R_lower ho HB.out.size)
      have HB1 := Aside0.mk (below_step HB.out hb)
      clear ho hb
      go_wp2_with fail
      go_loopg [6, 27] ls.length (fun gg v6 s27 wr => ∃ kk : Nat, kk ≤ ls.length ∧ ls.length - kk ≤ gg ∧ s27 = .int .i64 kk ∧ Aside0 (Kd.R (Kd.fixed kR w) 25 wr w.heap.size (fun _ => True) v6 (ls.take kk).flatten) ∧ Aside0 (Below w.heap.size w wr))
      case atStart => exact ⟨0, Nat.zero_le _, by omega, rfl, ⟨by simpa using HO.out⟩, HB1⟩
      case round =>
        obtain ⟨kk, hkk, hg, rfl, HO2, HB2⟩ := hrel
        by_cases hlt : kk < ls.length
        · have hltz : (kk : Int) < (ls.length : Int) := by omega
          obtain ⟨ad, A', c', hA, hcell, hlc', hC⟩ := C_row HR.out kk hlt
          subst hA
          replace hcell := (HB2.out.cell (World.block_lt_of_cell? w _ hcell)).trans hcell
          have hsn := flat_snoc ls kk hlt
          have hle := HL.out (kk + 1)
          rw [hsn, List.length_append] at hle
          have hb2 := HBg.out
          have HSN := Aside0.mk hsn
          have HLE := Aside0.mk (show (ls.take kk).flatten.length + (ls.getD kk []).length ≤ 1000000 by omega)
          have HCC := Aside0.mk hC
          clear hsn hle hb2 hC hlc'
          generalize ls.getD kk [] = m at *
          go_wp2_with ((with_reducible refine gate_builtin (b := .append) (xs := #[.tmp 31, .tmp 32]) rfl ?_); at_builtin; refine Kd.R_append_rows (Kd.fixed kR w) (Rr := kR.K w) (w0 := w) w.heap.size rfl (.tmp 31) (.tmp 32) 22 25 (.slice none 0 0) 24 rfl Try.underlying22 info_row rfl (show 0 < 1 by decide) (by omega) u6 (ls.take kk).flatten m A' m.length c' (fun _ => True) (fun _ => False) rfl rfl HO2.out (ReadsRow.imp_ HCC.out HB2.out (fun _ _ h => h)) (fun _ _ h => h) (fun _ h => h.elim) (fun _ _ => trivial) HB2.out (below_size HB2.out) (by have := HLE.out; omega) ?_; intro v2 w2 ho hb hg hat; clear hg hat; rw [← HSN.out] at ho; have HO3 := Aside0.mk ho; have HB3 := Aside0.mk hb; clear ho hb)
          go_roundg (ls.length - (kk + 1))
          case measure => omega
          case rel => exact ⟨kk + 1, hlt, by omega, by go_num, HO3, HB3⟩
        · obtain rfl : kk = ls.length := by omega
          go_wp2_with fail
          go_returns
          exact ⟨_, rfl, by rw [← HF.out]; exact HO2.out, HB2.out⟩

theorem wrong1 (A : Option Addr) (c : Nat) (l : List Int) (w : World) (hr : Kd.C (Kd.int .i32) w A l.length l) (hc : l.length ≤ c) :
    Calls Try.prog 77 #[.slice A l.length c] w fun e w' => e = .returned (.bool (!right l)) ∧ Drawn0 w w' := by
  have HC := Aside0.mk (vec_Check.calls A c l _ w hr hc rfl)
  unfold checkV at HC
  clear hr hc
  generalize right l = b at HC ⊢
  cases b with
  | true =>
    go_enter Try.func77, Try.ntmps77
    go_wp2_with fail
    refine HC.out.mono ?_
    rintro e w' ⟨rfl, hd⟩
    have HD := Aside0.mk hd
    clear hd
    go_wp2_with fail
    go_returns
    exact ⟨rfl, HD.out⟩
  | false =>
    go_enter Try.func77, Try.ntmps77
    go_wp2_with fail
    refine HC.out.mono ?_
    rintro e w' ⟨rfl, hd⟩
    have HD := Aside0.mk hd
    clear hd
    go_wp2_with fail
    go_returns
    exact ⟨rfl, HD.out⟩

theorem idx_wrong (A : Option Addr) (c : Nat) (l : List (List Int)) (w : World) (hr : Kd.C kR w A l.length l) :
    Calls Try.prog 76 #[.slice A l.length c, .func (.func 77) #[] #[]] w fun e w' => e = .returned (.int .i64 (firstP (fun j => !right (l.getD j [])) 0 l.length)) ∧ Drawn0 w w' :=
  idx_rows A l.length c 77 #[] (fun j => !right (l.getD j [])) (valAt w A) w (C_vals hr) (Kd.C_max hr) (enters_of Try.func77 (by kernel_rfl) rfl) (fun j W hj hd => by
    obtain ⟨ad, A', c', e, hc, hlc, hC⟩ := C_row hr j hj
    subst e
    rw [valAt_is hc]
    exact wrong1 A' c' _ W (Kd.C_below hC hd.below) hlc)

def means_all.f (ls : List (List (List Int))) : Option Int := if ls.flatten.length ≤ 1000000 then some (allErr ls.flatten) else none

set_option maxHeartbeats 2000000 in
set_option maxRecDepth 100000 in
theorem means_all.calls (A : Option Addr) (c : Nat) (ls : List (List (List Int))) (r : Int) (w : World) (hr : Kd.C (Kd.slice 25 (Kd.slice 21 (Kd.int .i32))) w A ls.length ls) (hc : ls.length ≤ c) (h : means_all.f ls = some r) :
    Calls Try.prog 64 #[.slice A ls.length c] w fun e w' => e = .returned (.int .i64 r) ∧ Below w.heap.size w w' := by
  unfold means_all.f at h
  split at h
  case isFalse => cases h
  case isTrue hbig =>
  replace h := Option.some.inj h
  have HC := Aside0.mk (concat_calls A c ls w hr hbig)
  have H := Aside0.mk h
  generalize ls.flatten = l at *
  clear hr hc h
  go_enter Try.func64, Try.ntmps64
  go_wp2_with fail
  refine HC.out.mono ?_
  rintro e w1 ⟨v1, rfl, ho, hb1⟩
  obtain ⟨A2, c2, rfl, hl2, hC2⟩ := Kd.R_reads ho
  have HR := Aside0.mk (ReadsRow.imp_ hC2 (Below.refl _ _) (fun _ _ hp => kR.K_below hb1 hp) : Kd.C kR w1 A2 l.length l)
  have HB1 := Aside0.mk hb1
  have HI := Aside0.mk (idx_wrong A2 c2 l w1 HR.out)
  have hm := Kd.C_max hC2
  clear ho hb1 hC2 hl2
  by_cases hall : l.all right = true
  · have hno : firstP (fun j => !right (l.getD j [])) 0 l.length = -1 := firstP_neg _ _ _ (fun j _ hj => by rw [right_at l hall j (by omega)]; rfl)
    rw [hno] at HI
    have HA := Aside0.mk hall
    clear hall hno
    go_wp2_with fail
    refine HI.out.mono ?_
    rintro e w2 ⟨rfl, hd⟩
    have HB2 := Aside0.mk (HB1.out.trans (hd.below.mono HB1.out.size))
    have HR2 := Aside0.mk (Kd.C_below HR.out hd.below)
    clear hd
    go_wp2_with fail
    go_loopg [20] l.length (fun gg s20 wr => ∃ kk : Nat, kk ≤ l.length ∧ l.length - kk ≤ gg ∧ s20 = .int .i64 kk ∧ Aside0 (Drawn0 w2 wr) ∧ Aside0 (∀ j, j < kk → (l.getD j []).length = (l.getD 0 []).length))
    case atStart => exact ⟨0, Nat.zero_le _, by omega, rfl, ⟨Drawn0.refl _⟩, ⟨fun j hj => absurd hj (Nat.not_lt_zero _)⟩⟩
    case round =>
      obtain ⟨kk, hkk, hg, rfl, HD, HS⟩ := hrel
      have HRr := Aside0.mk (Kd.C_below HR2.out HD.out.below)
      have HBr := Aside0.mk (HB2.out.trans (HD.out.below.mono HB2.out.size))
      by_cases hlt : kk < l.length
      · have hltz : (kk : Int) < (l.length : Int) := by omega
        have h0z : (0 : Int) < (l.length : Int) := by omega
        obtain ⟨ad, A', c', hA, hcell, hlc', hC⟩ := C_row HRr.out kk hlt
        obtain ⟨ad0, A0, c0, hA0, hcell0, _, hC0⟩ := C_row HRr.out 0 (by omega)
        subst hA
        injection hA0 with hA0
        subst hA0
        rw [add0] at hcell0
        have hm1 := Kd.C_max hC
        have hm0 := Kd.C_max hC0
        have hbad : ¬ (l.getD kk []).length = (l.getD 0 []).length → allErr l = 151 := fun h => by
          unfold allErr
          rw [if_pos HA.out, if_neg]
          intro hs
          exact h (len_at l hs kk hlt)
        have hgood : (l.getD kk []).length = (l.getD 0 []).length → ∀ j, j < kk + 1 → (l.getD j []).length = (l.getD 0 []).length := fun h j hj => by
          by_cases e : j = kk
          · rw [e]; exact h
          · exact HS.out j (by omega)
        clear hC hC0 hlc'
        generalize (l.getD kk []).length = n1 at hcell hm1 hbad hgood
        by_cases he : n1 = (l.getD 0 []).length
        · have HG := Aside0.mk (hgood he)
          have e1 : ((n1 : Int) != ((l.getD 0 []).length : Int)) = false := by rw [bne_eq_false_iff_eq]; omega
          clear hbad hgood he
          generalize (l.getD 0 []).length = n0 at hcell0 hm0 e1
          go_wp2_with fail
          all_goals (try (go_quiet (fail); go_wp2_with fail))
          go_roundg (l.length - (kk + 1))
          case measure => omega
          case rel => exact ⟨kk + 1, hlt, by omega, by go_num, ⟨by first | exact HD.out | exact HD.out.step _⟩, HG⟩
        · have HE := Aside0.mk (hbad he)
          have e1 : ((n1 : Int) != ((l.getD 0 []).length : Int)) = true := by rw [bne_iff_ne]; omega
          clear hbad hgood he
          generalize (l.getD 0 []).length = n0 at hcell0 hm0 e1
          go_wp2_with fail
          all_goals (try (go_quiet (fail); go_wp2_with fail))
          go_returns
          exact ⟨by rw [← H.out, HE.out]; rfl, by first | exact HBr.out | exact pw_below_drewN HBr.out _⟩
      · obtain rfl : kk = l.length := by omega
        have HE := Aside0.mk (show allErr l = 0 from (allErr_zero l).2 ⟨HA.out, by
          unfold sameLens
          rw [List.all_eq_true]
          intro x hx
          obtain ⟨j, hj, rfl⟩ := List.getElem_of_mem hx
          have := HS.out j hj
          rw [getD_of_lt l j [] hj] at this
          exact decide_eq_true this⟩)
        go_wp2_with fail
        go_returns
        exact ⟨by rw [← H.out, HE.out]; rfl, HBr.out⟩
  · have hex : ∃ j, 0 ≤ j ∧ j < 0 + l.length ∧ (!right (l.getD j [])) = true := by
      have : l.all right = false := by simpa using hall
      rw [List.all_eq_false] at this
      obtain ⟨x, hx, hxr⟩ := this
      obtain ⟨j, hj, rfl⟩ := List.getElem_of_mem hx
      exact ⟨j, Nat.zero_le _, by omega, by rw [getD_of_lt l j [] hj]; simpa using hxr⟩
    obtain ⟨j, _, hj, hp, hf, _⟩ := firstP_pos (fun j => !right (l.getD j [])) l.length 0 hex
    have HE := Aside0.mk (show allErr l = 150 by unfold allErr; rw [if_neg hall])
    rw [hf] at HI
    replace hj : j < l.length := by omega
    have hck : checkV (l.getD j []) = 150 := by
      unfold checkV
      rw [if_neg]
      simpa using hp
    have hjz : (j : Int) < (l.length : Int) := by omega
    clear hall hex hf hp
    go_wp2_with fail
    refine HI.out.mono ?_
    rintro e w2 ⟨rfl, hd⟩
    have HB2 := Aside0.mk (HB1.out.trans (hd.below.mono HB1.out.size))
    obtain ⟨ad, A', c', hA, hcell, hlc', hC⟩ := C_row (Kd.C_below HR.out hd.below) j hj
    subst hA
    have HK := Aside0.mk (vec_Check.calls A' c' (l.getD j []) 150 w2 hC hlc' (by unfold vec_Check.f; rw [hck]))
    clear hd hC hlc' hck
    generalize (l.getD j []).length = n1 at *
    go_wp2_with fail
    refine HK.out.mono ?_
    rintro e w3 ⟨rfl, hd⟩
    have HB3 := Aside0.mk (HB2.out.trans (hd.below.mono HB2.out.size))
    clear hd
    go_wp2_with fail
    go_returns
    exact ⟨by rw [← H.out, HE.out]; rfl, HB3.out⟩

end Go.Proofs.Ytbdoeikdoohagaa.G
