/- quiverlaw01.FieldBad answers true, for every bytes, number and asks: once a scan is bad it stands where it stood. -/
import Derived.Test.YtanijhlpneiebaaG9
import Derived.Test.YtanijhlpneiebaaS1
import Derived.Test.YtanijhlpneiebaaOp
namespace Go.Proofs.Ytanijhlpneiebaa.G
open Go.RowKit Go.Proofs.YtanijhlpneiebaaW.PrintWords Go.Proofs.YtanijhlpneiebaaW.PrintLast Go.Proofs.YtanijhlpneiebaaW.PrintMore
set_option linter.unusedVariables false
set_option linter.unusedSimpArgs false

theorem wf_u8' {x : Int} (h : (Lit.int .u8 x).wf = true) : 0 ≤ x ∧ x ≤ 255 := by simpa [Lit.wf, IntKind.min, IntKind.max, IntKind.signed, IntKind.bits] using h

theorem add_one (a : Addr) : a.add 1 = { block := a.block, off := a.off + 1 } := rfl
theorem signed_zero (s : Int) : signed s 0 = 0 := by
  unfold signed
  split
  · rw [if_pos]
    have := Int.pow_pos (n := 256) (m := s.toNat) (by decide)
    rename_i h
    have h' := isSize_iff.1 h
    obtain ⟨d, hd⟩ : ∃ d, s.toNat = d + 1 := ⟨s.toNat - 1, by omega⟩
    rw [hd, Int.pow_succ]
    have := Int.pow_pos (n := 256) (m := d) (by decide)
    omega
  · rfl
/-- the place that FieldBad asks for first -/
def badK (l : List Int) (n : Int) : Nat := if 0 < l.length then (IntKind.u64.wrap n % ((l.length : Int) + 1)).toNat else 0
theorem badK_le (l : List Int) (n : Int) : badK l n ≤ l.length := by
  unfold badK
  split
  · have := Int.emod_lt_of_pos (IntKind.u64.wrap n) (show (0 : Int) < (l.length : Int) + 1 by omega)
    have := Int.emod_nonneg (IntKind.u64.wrap n) (show (l.length : Int) + 1 ≠ 0 by omega)
    omega
  · omega

set_option maxHeartbeats 2000000 in
set_option maxRecDepth 100000 in
theorem fieldBad_out (A : Option Addr) (c : Nat) (l : List Int) (n : Int) (A2 : Option Addr) (c2 : Nat) (q : Nat) (w : World) (hm : l.length ≤ 9223372036854775807) (hm2 : q ≤ 9223372036854775807) (h : 5000 < l.length ∨ 100 < q) :
    Calls Try.prog 8 #[.slice A l.length c, .int .i64 n, .slice A2 q c2] w fun e w' => e = .returned (.bool true) ∧ Below w.heap.size w w' := by
  by_cases c1 : 5000 < l.length
  · clear h
    go_enter Try.func8, Try.ntmps8
    go_wp2_with fail
    refine (wakes01.calls true _ rfl).mono ?_
    rintro e w1 ⟨rfl, hb1⟩
    have HB1 := Aside0.mk hb1
    clear hb1
    go_wp2_with fail
    go_returns
    exact ⟨rfl, HB1.out⟩
  · have c2' : 100 < q := by omega
    clear h
    go_enter Try.func8, Try.ntmps8
    go_wp2_with fail
    refine (wakes01.calls true _ rfl).mono ?_
    rintro e w1 ⟨rfl, hb1⟩
    have HB1 := Aside0.mk hb1
    clear hb1
    go_wp2_with fail
    go_returns
    exact ⟨rfl, HB1.out⟩

def kAsk : Kd (Int × Int) := Kd.pair (Kd.int .i64) (Kd.int .i64)

set_option maxHeartbeats 2000000 in
set_option maxRecDepth 100000 in
theorem fieldBad_in (A : Option Addr) (c : Nat) (l : List Int) (n : Int) (A2 : Option Addr) (c2 : Nat) (q : List (Int × Int)) (w : World) (hl : l.length ≤ c) (hC : Kd.C (Kd.int .u8) w A l.length l) (hby : ∀ x ∈ l, 0 ≤ x ∧ x ≤ 255) (hq : q.length ≤ c2) (hC2 : kAsk.C w A2 q.length q) (h5 : l.length ≤ 5000) (h1 : q.length ≤ 100) :
    Calls Try.prog 8 #[.slice A l.length c, .int .i64 n, .slice A2 q.length c2] w fun e w' => e = .returned (.bool true) ∧ Below w.heap.size w w' := by
  have HC := Aside0.mk hC
  have HC2 := Aside0.mk hC2
  have HBy := Aside0.mk hby
  clear hC hby hC2
  obtain ⟨k, hk⟩ : ∃ k, k = badK l n := ⟨_, rfl⟩
  have hkl : k ≤ l.length := by rw [hk]; exact badK_le l n
  have HK := Aside0.mk hk
  clear hk
  by_cases hz : 0 < l.length
  case neg =>
    obtain rfl : l = [] := List.length_eq_zero_iff.1 (by omega)
    obtain rfl : k = 0 := by simpa using hkl
    go_enter Try.func8, Try.ntmps8
    go_wp2_with fail
    refine (wakes01.calls true _ rfl).mono ?_
    rintro e w1 ⟨rfl, hb1⟩
    have HB1 := Aside0.mk hb1
    clear hb1
    go_wp2_with fail
    refine (ScRead A c ([] : List Int) w1 (Kd.C_below HC.out HB1.out) hl (by simp) HBy.out).mono ?_
    rintro e w2 ⟨g, rfl, hI, hb2⟩
    have HI := Aside0.mk (hI.lower HB1.out.size)
    have HG := Aside0.mk HI.out.ge
    have HB2 := Aside0.mk (below_step HB1.out hb2)
    have hS := ScBytes w.heap.size _ g ([] : List Int) 0 false (0 : Nat) w2 HI.out
    have F1 := fits_yes ([] : List Int) 0 0 (by simp) (Nat.zero_le _)
    rw [scTake_yes F1, scPl_yes F1, scBad_yes F1, List.drop_zero, Nat.zero_add] at hS
    rw [Int.natCast_zero] at hS
    have HS := Aside0.mk hS
    clear hI hb2 hS F1
    go_wp2_with fail
    refine HS.out.mono ?_
    rintro e w3 ⟨v3, rfl, hv3, hi3, hf3⟩
    obtain ⟨A3, c3, e3⟩ := Kd.R_slice hv3
    rw [show (([] : List Int).take 0).length = 0 from by simp; skip] at e3
    subst e3
    have HI3 := Aside0.mk hi3
    have HB3 := Aside0.mk (HB2.out.trans (hf3.toBelow HB2.out.size (fun j hj => by subst hj; exact HG.out)))
    clear hv3 hi3 hf3 HS HI
    go_wp2_with fail
    refine (ScBadq _ _ g ([] : List Int) _ _ _ HI3.out).mono ?_
    rintro e w4 ⟨rfl, ⟨⟨n4, rfl⟩⟩⟩
    have F2 := fits_no ([] : List Int).length 0 ((([] : List Int).length : Int) - 0 + 1) (by simp)
    have hS := ScBytes w.heap.size _ g ([] : List Int) 0 false ((([] : List Int).length : Int) - 0 + 1) (w3.drewN n4) (HI3.out.drewN n4)
    rw [scTake_no F2, scPl_no F2, scBad_no F2] at hS
    simp only [List.length_nil, Int.natCast_zero] at hS
    have HS := Aside0.mk hS
    clear hS F2
    go_wp2_with fail
    refine HS.out.mono ?_
    rintro e w5 ⟨v5, rfl, hv5, hi5, hf5⟩
    obtain ⟨A5, c5, e5⟩ := Kd.R_slice hv5
    rw [List.length_nil] at e5
    subst e5
    have HI5 := Aside0.mk hi5
    have HB5 := Aside0.mk ((pw_below_drewN HB3.out n4).trans (hf5.toBelow HB3.out.size (fun j hj => by subst hj; exact HG.out)))
    clear hv5 hi5 hf5 HS HI3
    go_wp2_with fail
    refine (ScBadq _ _ g ([] : List Int) _ _ _ HI5.out).mono ?_
    rintro e w6 ⟨rfl, ⟨⟨n6, rfl⟩⟩⟩
    go_wp2_with fail
    go_loopw [10, 60] (fun v10 i wr => ∃ j : Nat, j ≤ q.length ∧ i = .int .i64 j ∧ Aside0 (IsScan wr w.heap.size (fun _ => True) g ([] : List Int) 0 true ∧ Below w.heap.size w wr)) (fun _ i _ => q.length - (intOf i).toNat)
    case atStart => exact ⟨0, Nat.zero_le _, rfl, ⟨HI5.out.drewN n6, pw_below_drewN HB5.out n6⟩⟩
    case round =>
      obtain ⟨j, hj, rfl, HW⟩ := hrel
      by_cases hlt : j < q.length
      · obtain ⟨ad, cc, rfl, hcl, hKc, hcell⟩ := Kd.C_get (Kd.C_below HC2.out HW.out.2) (0, 0) j (by omega) (by omega)
        obtain ⟨x, y, hxy⟩ : ∃ x y, cc = [Value.int .i64 x, .int .i64 y] := by
          obtain ⟨_, _, rfl, rfl, rfl⟩ := hKc
          exact ⟨_, _, rfl⟩
        subst hxy
        have hx := hcell 0 _ rfl
        have hy := hcell 1 _ rfl
        rw [Int.toNat_natCast, show kAsk.sz = 2 from rfl] at hx hy
        rw [Nat.add_zero] at hx
        rw [← add_add, add_one] at hy
        clear hcell hKc hcl
        have HI6 := Aside0.mk (show IsScan (wr.alloc (.cells #[.int .i64 x, .int .i64 y] 45)) w.heap.size (fun _ => True) g ([] : List Int) 0 true from HW.out.1.step (fun j _ hj => Below.heap_alloc _ _ _ hj))
        have HB6 := Aside0.mk (show Below w.heap.size w (wr.alloc (.cells #[.int .i64 x, .int .i64 y] 45)) from HW.out.2.alloc HW.out.2.size _)
        have HX6 := Aside0.mk (show (wr.alloc (.cells #[.int .i64 x, .int .i64 y] 45)).heap[wr.heap.size]? = some (.cells #[.int .i64 x, .int .i64 y] 45 (0, 0)) from heap_alloc_new wr _)
        have HGW := Aside0.mk HW.out.1.lt
        have hN6 := ScNum w.heap.size (fun _ => True) g ([] : List Int) 0 true y (wr.alloc (.cells #[.int .i64 x, .int .i64 y] 45)) HI6.out
        rw [scTake_no (fits_bad _ _ _), scPl_no (fits_bad _ _ _), scBad_no (fits_bad _ _ _), show num [] = 0 from rfl] at hN6
        have HN6 := Aside0.mk hN6
        clear hN6
        go_wp2_with fail
        refine HN6.out.mono ?_
        rintro e w7 ⟨rfl, hi7, hf7⟩
        clear hx hy
        have HI7 := Aside0.mk hi7
        have HB7 := Aside0.mk (HB6.out.trans (hf7.toBelow HB6.out.size (fun j hj => by subst hj; exact HG.out)))
        have HX7 := Aside0.mk (hf7.blk HX6.out (fun e => Nat.lt_irrefl _ (e ▸ HGW.out)))
        have c7 : w7.cell? ⟨wr.heap.size, 1, none⟩ = some (.int .i64 y) := (blk_cell HX7.out 1).trans rfl
        clear hi7 hf7 HN6
        have hN7 := ScInt w.heap.size (fun _ => True) g ([] : List Int) 0 true y w7 HI7.out
        rw [scTake_no (fits_bad _ _ _), scPl_no (fits_bad _ _ _), scBad_no (fits_bad _ _ _), show num [] = 0 from rfl, signed_zero] at hN7
        have HN7 := Aside0.mk hN7
        clear hN7
        go_wp2_with fail
        refine HN7.out.mono ?_
        rintro e w8 ⟨rfl, hi8, hf8⟩
        have HI8 := Aside0.mk hi8
        have HB8 := Aside0.mk (HB7.out.trans (hf8.toBelow HB7.out.size (fun j hj => by subst hj; exact HG.out)))
        have HX8 := Aside0.mk (hf8.blk HX7.out (fun e => Nat.lt_irrefl _ (e ▸ HGW.out)))
        have c8 : w8.cell? ⟨wr.heap.size, 1, none⟩ = some (.int .i64 y) := (blk_cell HX8.out 1).trans rfl
        clear c7 hi8 hf8 HN7
        have hN8 := ScBytes w.heap.size (fun _ => True) g ([] : List Int) 0 true y w8 HI8.out
        rw [scTake_no (fits_bad _ _ _), scPl_no (fits_bad _ _ _), scBad_no (fits_bad _ _ _)] at hN8
        have HN8 := Aside0.mk hN8
        clear hN8
        go_wp2_with fail
        refine HN8.out.mono ?_
        rintro e w9 ⟨v9, rfl, hv9, hi9, hf9⟩
        obtain ⟨A9, c9, e9⟩ := Kd.R_slice hv9
        rw [List.length_nil] at e9
        subst e9
        clear hv9
        have HI9 := Aside0.mk hi9
        have HB9 := Aside0.mk (HB8.out.trans (hf9.toBelow HB8.out.size (fun j hj => by subst hj; exact HG.out)))
        have HX9 := Aside0.mk (hf9.blk HX8.out (fun e => Nat.lt_irrefl _ (e ▸ HGW.out)))
        clear c8 hi9 hf9 HN8
        go_wp2_with fail
        refine (ScBadq _ _ g ([] : List Int) _ _ _ HI9.out).mono ?_
        rintro e w10 ⟨rfl, ⟨⟨n10, rfl⟩⟩⟩
        go_wp2_with fail
        refine (ScPlace _ _ g ([] : List Int) _ _ _ (HI9.out.drewN _)).mono ?_
        rintro e w11 ⟨rfl, ⟨⟨n11, rfl⟩⟩⟩
        go_wp2_with fail
        refine (ScLeft _ _ g ([] : List Int) _ _ _ (HI9.out.drewN _)).mono ?_
        rintro e w12 ⟨rfl, ⟨⟨n12, rfl⟩⟩⟩
        go_wp2_with fail
        go_roundw
        case rel => exact ⟨j + 1, hlt, by go_num, ⟨HI9.out.drewN _, pw_below_drewN HB9.out _⟩⟩
        case measure => simp [intOf]; omega
      · obtain rfl : j = q.length := by omega
        go_wp2_with fail
        go_returns
        exact ⟨rfl, HW.out.2⟩
  case pos =>
  have e1 : IntKind.i64.wrap ((IntKind.u64.wrap n).tmod ((l.length : Int) + 1)) = k := by
    rw [HK.out]
    unfold badK
    rw [if_pos hz]
    have h2 := Int.emod_lt_of_pos (IntKind.u64.wrap n) (show (0 : Int) < (l.length : Int) + 1 by omega)
    have h3 := Int.emod_nonneg (IntKind.u64.wrap n) (show (l.length : Int) + 1 ≠ 0 by omega)
    have h4 : 0 ≤ IntKind.u64.wrap n := by rw [IntKind.wrap_u64]; omega
    rw [Int.tmod_eq_emod_of_nonneg h4, IntWalk.i64_in _ (by omega)]
    omega
  go_enter Try.func8, Try.ntmps8
  go_wp2_with fail
  refine (wakes01.calls true _ rfl).mono ?_
  rintro e w1 ⟨rfl, hb1⟩
  have HB1 := Aside0.mk hb1
  clear hb1
  go_wp2_with fail
  refine (ScRead A c l w1 (Kd.C_below HC.out HB1.out) hl (by omega) HBy.out).mono ?_
  rintro e w2 ⟨g, rfl, hI, hb2⟩
  have HI := Aside0.mk (hI.lower HB1.out.size)
  have HG := Aside0.mk HI.out.ge
  have HB2 := Aside0.mk (below_step HB1.out hb2)
  have hS := ScBytes w.heap.size _ g l 0 false (k : Nat) w2 HI.out
  have F1 := fits_yes l 0 k (by omega) (Nat.zero_le _)
  rw [scTake_yes F1, scPl_yes F1, scBad_yes F1, List.drop_zero, Nat.zero_add] at hS
  have HS := Aside0.mk hS
  clear hI hb2 hS F1
  go_wp2_with fail
  refine HS.out.mono ?_
  rintro e w3 ⟨v3, rfl, hv3, hi3, hf3⟩
  obtain ⟨A3, c3, e3⟩ := Kd.R_slice hv3
  rw [show (l.take k).length = k from by simp; omega] at e3
  subst e3
  have HI3 := Aside0.mk hi3
  have HB3 := Aside0.mk (HB2.out.trans (hf3.toBelow HB2.out.size (fun j hj => by subst hj; exact HG.out)))
  clear hv3 hi3 hf3 HS HI
  go_wp2_with fail
  refine (ScBadq _ _ g l _ _ _ HI3.out).mono ?_
  rintro e w4 ⟨rfl, ⟨⟨n4, rfl⟩⟩⟩
  have F2 := fits_no l.length k ((l.length : Int) - k + 1) (by omega)
  have hS := ScBytes w.heap.size _ g l k false ((l.length : Int) - k + 1) (w3.drewN n4) (HI3.out.drewN n4)
  rw [scTake_no F2, scPl_no F2, scBad_no F2] at hS
  have HS := Aside0.mk hS
  clear hS F2
  go_wp2_with fail
  refine HS.out.mono ?_
  rintro e w5 ⟨v5, rfl, hv5, hi5, hf5⟩
  obtain ⟨A5, c5, e5⟩ := Kd.R_slice hv5
  rw [List.length_nil] at e5
  subst e5
  have HI5 := Aside0.mk hi5
  have HB5 := Aside0.mk ((pw_below_drewN HB3.out n4).trans (hf5.toBelow HB3.out.size (fun j hj => by subst hj; exact HG.out)))
  clear hv5 hi5 hf5 HS HI3
  go_wp2_with fail
  refine (ScBadq _ _ g l _ _ _ HI5.out).mono ?_
  rintro e w6 ⟨rfl, ⟨⟨n6, rfl⟩⟩⟩
  go_wp2_with fail
  go_loopw [10, 60] (fun v10 i wr => ∃ j : Nat, j ≤ q.length ∧ i = .int .i64 j ∧ Aside0 (IsScan wr w.heap.size (fun _ => True) g l k true ∧ Below w.heap.size w wr)) (fun _ i _ => q.length - (intOf i).toNat)
  case atStart => exact ⟨0, Nat.zero_le _, rfl, ⟨HI5.out.drewN n6, pw_below_drewN HB5.out n6⟩⟩
  case round =>
    obtain ⟨j, hj, rfl, HW⟩ := hrel
    by_cases hlt : j < q.length
    · obtain ⟨ad, cc, rfl, hcl, hKc, hcell⟩ := Kd.C_get (Kd.C_below HC2.out HW.out.2) (0, 0) j (by omega) (by omega)
      obtain ⟨x, y, hxy⟩ : ∃ x y, cc = [Value.int .i64 x, .int .i64 y] := by
        obtain ⟨_, _, rfl, rfl, rfl⟩ := hKc
        exact ⟨_, _, rfl⟩
      subst hxy
      have hx := hcell 0 _ rfl
      have hy := hcell 1 _ rfl
      rw [Int.toNat_natCast, show kAsk.sz = 2 from rfl] at hx hy
      rw [Nat.add_zero] at hx
      rw [← add_add, add_one] at hy
      clear hcell hKc hcl
      have HI6 := Aside0.mk (show IsScan (wr.alloc (.cells #[.int .i64 x, .int .i64 y] 45)) w.heap.size (fun _ => True) g l k true from HW.out.1.step (fun j _ hj => Below.heap_alloc _ _ _ hj))
      have HB6 := Aside0.mk (show Below w.heap.size w (wr.alloc (.cells #[.int .i64 x, .int .i64 y] 45)) from HW.out.2.alloc HW.out.2.size _)
      have HX6 := Aside0.mk (show (wr.alloc (.cells #[.int .i64 x, .int .i64 y] 45)).heap[wr.heap.size]? = some (.cells #[.int .i64 x, .int .i64 y] 45 (0, 0)) from heap_alloc_new wr _)
      have HGW := Aside0.mk HW.out.1.lt
      have hN6 := ScNum w.heap.size (fun _ => True) g l k true y (wr.alloc (.cells #[.int .i64 x, .int .i64 y] 45)) HI6.out
      rw [scTake_no (fits_bad _ _ _), scPl_no (fits_bad _ _ _), scBad_no (fits_bad _ _ _), show num [] = 0 from rfl] at hN6
      have HN6 := Aside0.mk hN6
      clear hN6
      go_wp2_with fail
      refine HN6.out.mono ?_
      rintro e w7 ⟨rfl, hi7, hf7⟩
      clear hx hy
      have HI7 := Aside0.mk hi7
      have HB7 := Aside0.mk (HB6.out.trans (hf7.toBelow HB6.out.size (fun j hj => by subst hj; exact HG.out)))
      have HX7 := Aside0.mk (hf7.blk HX6.out (fun e => Nat.lt_irrefl _ (e ▸ HGW.out)))
      have c7 : w7.cell? ⟨wr.heap.size, 1, none⟩ = some (.int .i64 y) := (blk_cell HX7.out 1).trans rfl
      clear hi7 hf7 HN6
      have hN7 := ScInt w.heap.size (fun _ => True) g l k true y w7 HI7.out
      rw [scTake_no (fits_bad _ _ _), scPl_no (fits_bad _ _ _), scBad_no (fits_bad _ _ _), show num [] = 0 from rfl, signed_zero] at hN7
      have HN7 := Aside0.mk hN7
      clear hN7
      go_wp2_with fail
      refine HN7.out.mono ?_
      rintro e w8 ⟨rfl, hi8, hf8⟩
      have HI8 := Aside0.mk hi8
      have HB8 := Aside0.mk (HB7.out.trans (hf8.toBelow HB7.out.size (fun j hj => by subst hj; exact HG.out)))
      have HX8 := Aside0.mk (hf8.blk HX7.out (fun e => Nat.lt_irrefl _ (e ▸ HGW.out)))
      have c8 : w8.cell? ⟨wr.heap.size, 1, none⟩ = some (.int .i64 y) := (blk_cell HX8.out 1).trans rfl
      clear c7 hi8 hf8 HN7
      have hN8 := ScBytes w.heap.size (fun _ => True) g l k true y w8 HI8.out
      rw [scTake_no (fits_bad _ _ _), scPl_no (fits_bad _ _ _), scBad_no (fits_bad _ _ _)] at hN8
      have HN8 := Aside0.mk hN8
      clear hN8
      go_wp2_with fail
      refine HN8.out.mono ?_
      rintro e w9 ⟨v9, rfl, hv9, hi9, hf9⟩
      obtain ⟨A9, c9, e9⟩ := Kd.R_slice hv9
      rw [List.length_nil] at e9
      subst e9
      clear hv9
      have HI9 := Aside0.mk hi9
      have HB9 := Aside0.mk (HB8.out.trans (hf9.toBelow HB8.out.size (fun j hj => by subst hj; exact HG.out)))
      have HX9 := Aside0.mk (hf9.blk HX8.out (fun e => Nat.lt_irrefl _ (e ▸ HGW.out)))
      clear c8 hi9 hf9 HN8
      go_wp2_with fail
      refine (ScBadq _ _ g l _ _ _ HI9.out).mono ?_
      rintro e w10 ⟨rfl, ⟨⟨n10, rfl⟩⟩⟩
      go_wp2_with fail
      refine (ScPlace _ _ g l _ _ _ (HI9.out.drewN _)).mono ?_
      rintro e w11 ⟨rfl, ⟨⟨n11, rfl⟩⟩⟩
      go_wp2_with fail
      refine (ScLeft _ _ g l _ _ _ (HI9.out.drewN _)).mono ?_
      rintro e w12 ⟨rfl, ⟨⟨n12, rfl⟩⟩⟩
      go_wp2_with fail
      go_roundw
      case rel => exact ⟨j + 1, hlt, by go_num, ⟨HI9.out.drewN _, pw_below_drewN HB9.out _⟩⟩
      case measure => simp [intOf]; omega
    · obtain rfl : j = q.length := by omega
      go_wp2_with fail
      go_returns
      exact ⟨rfl, HW.out.2⟩

theorem fieldBad.walk (A : Option Addr) (c : Nat) (l : List Int) (n : Int) (A2 : Option Addr) (c2 : Nat) (q : List (Int × Int)) (w : World) (hl : l.length ≤ c) (hC : Kd.C (Kd.int .u8) w A l.length l) (hw : ∀ x ∈ l, (Lit.int .u8 x).wf = true) (wn : (Lit.int .i64 n).wf = true) (hq : q.length ≤ c2) (hC2 : kAsk.C w A2 q.length q) (wq : ∀ x ∈ q, (Lit.int .i64 x.1).wf = true ∧ (Lit.int .i64 x.2).wf = true) :
    Calls Try.prog 8 #[.slice A l.length c, .int .i64 n, .slice A2 q.length c2] w fun e w' => e = .returned (.bool true) ∧ Below w.heap.size w w' := by
  by_cases h : 5000 < l.length ∨ 100 < q.length
  · exact fieldBad_out A c l n A2 c2 q.length w (Kd.C_max hC) (Kd.C_max hC2) h
  · exact fieldBad_in A c l n A2 c2 q w hl hC (fun x hx => wf_u8' (hw x hx)) hq hC2 (by omega) (by omega)

end Go.Proofs.Ytanijhlpneiebaa.G
