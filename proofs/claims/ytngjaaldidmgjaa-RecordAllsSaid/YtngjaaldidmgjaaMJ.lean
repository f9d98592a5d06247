/- Contracts of the document's functions on records: quiverref16.Same, quiverref24.Same. Contract of quiverref24.Same. Contract of quiverref16.Right. Contract of quiverref24.only. Contract of quiverref24.Right. Contract of quiverref24.Right. -/
import Derived.Test.YtngjaaldidmgjaaMI
import Derived.Test.YtngjaaldidmgjaaMC
import Derived.Test.YtngjaaldidmgjaaPx4
import Derived.Deep.RegionHeld3
namespace Go.Proofs.Ytngjaaldidmgjaa.G

section
open Go.Shelf Go.RowKit Go.Proofs.YtngjaaldidmgjaaW.PrintWords Go.Proofs.YtngjaaldidmgjaaW.PrintLast Go.Proofs.YtngjaaldidmgjaaW.PrintMore
set_option linter.unusedVariables false
set_option linter.unusedSimpArgs false

set_option maxHeartbeats 8000000 in
set_option maxRecDepth 100000 in
theorem refWS (A : Option Addr) (c : Nat) (a : List Wr) (B : Option Addr) (d : Nat) (b : List Wr) (w : World) (hr : Kd.C kW w A a.length a) (hr' : Kd.C kW w B b.length b) :
    Calls Try.prog 84 #[.slice A a.length c, .slice B b.length d] w fun e w' => e = .returned (.bool (eqWrs a b)) ∧ Below w.heap.size w w' := by
  have HR := Aside0.mk hr
  have HR' := Aside0.mk hr'
  have hm := Kd.C_max hr
  have hm' := Kd.C_max hr'
  clear hr hr'
  by_cases hl : a.length = b.length
  case neg =>
    have e1 : ((a.length : Int) != (b.length : Int)) = true := by rw [bne_iff_ne]; omega
    have e2 : eqWrs a b = false := by unfold eqWrs; rw [decide_eq_false hl]; rfl
    rw [e2]
    clear hl e2
    go_enter Try.func84, Try.ntmps84
    go_wp2_with fail
    go_returns
    exact ⟨rfl, Below.refl _ _⟩
  case pos =>
    have e1 : ((a.length : Int) != (b.length : Int)) = false := by rw [bne_eq_false_iff_eq]; omega
    have HL := Aside0.mk hl
    obtain ⟨r, hrr⟩ : ∃ r, r = eqWrs a b := ⟨_, rfl⟩
    rw [← hrr]
    have HRR := Aside0.mk (show r = (List.range a.length).all (fun k => sameW (wrAt a k) (wrAt b k)) by rw [hrr]; unfold eqWrs; rw [decide_eq_true hl]; rfl)
    clear hl hrr
    go_enter Try.func84, Try.ntmps84
    go_wp2_with fail
    go_loopg [13] a.length (fun gg s13 wr => ∃ kk : Nat, kk ≤ a.length ∧ a.length - kk ≤ gg ∧ s13 = .int .i64 kk ∧ Aside0 (Below w.heap.size w wr) ∧ Aside0 (∀ j, j < kk → sameW (wrAt a j) (wrAt b j) = true))
    case atStart => exact ⟨0, Nat.zero_le _, by omega, rfl, ⟨Below.refl _ _⟩, ⟨fun j hj => absurd hj (Nat.not_lt_zero _)⟩⟩
    case round =>
      obtain ⟨kk, hkk, hg, rfl, HD, HS⟩ := hrel
      obtain ⟨wo, rfl⟩ : ∃ wo, wo = wr := ⟨_, rfl⟩
      by_cases hlt : kk < a.length
      · have hltz : (kk : Int) < (a.length : Int) := by omega
        have hltb : (kk : Int) < (b.length : Int) := by have := HL.out; omega
        obtain ⟨ad, A4, c4, hA, p0, p1, p2, p3, hl4, hC4⟩ := P.at_T87 (Kd.C_below HR.out HD.out) (kk : Int) (by omega) (by omega)
        obtain ⟨bd, B4, d4, hB, q0, q1, q2, q3, hl5, hC5⟩ := P.at_T87 (Kd.C_below HR'.out HD.out) (kk : Int) (by omega) (by omega)
        subst hA hB
        simp only [Int.toNat_natCast] at p0 p1 p2 p3 q0 q1 q2 q3
        have HS1 := Aside0.mk (show sameW (P.rd_T87 a (kk : Int)) (P.rd_T87 b (kk : Int)) = true → ∀ j, j < kk + 1 → sameW (wrAt a j) (wrAt b j) = true from fun h j hj => by
          by_cases e : j = kk
          · rw [e]; exact h
          · exact HS.out j (by omega))
        have HS2 := Aside0.mk (show sameW (P.rd_T87 a (kk : Int)) (P.rd_T87 b (kk : Int)) = false → r = false from fun h => by
          rw [HRR.out, List.all_eq_false]
          exact ⟨kk, List.mem_range.mpr hlt, by rw [show sameW (wrAt a kk) (wrAt b kk) = false from h]; simp⟩)
        generalize P.rd_T87 a (kk : Int) = x at *
        generalize P.rd_T87 b (kk : Int) = y at *
        obtain ⟨x0, x1, x2, x3⟩ := x
        obtain ⟨y0, y1, y2, y3⟩ := y
        simp only at p0 p1 p2 p3 q0 q1 q2 q3 hl4 hC4 hl5 hC5
        obtain ⟨s, hs⟩ : ∃ s, s = decide (x3 = y3) := ⟨_, rfl⟩
        have HC := Aside0.mk (fun (p : Gr wo) => P.quiverref05_Same.calls (x3.length + 1) A4 c4 x3 B4 d4 y3 s p.w (Kd.C_below hC4 p.h) hl4 (Kd.C_below hC5 p.h) hl5 (by rw [refsame_is _ _ _ (by omega) (Kd.C_max hC4), hs]))
        have hsx : sameW (⟨x0, x1, x2, x3⟩ : Wr) ⟨y0, y1, y2, y3⟩ = (decide (x0 = y0) && (decide (x1 = y1) && (decide (x2 = y2) && s))) := by
          rw [hs]; unfold sameW
          by_cases h0 : x0 = y0 <;> by_cases h1 : x1 = y1 <;> by_cases h2 : x2 = y2 <;> simp [h0, h1, h2]
        rw [hsx] at HS1 HS2
        clear hC4 hC5 hl4 hl5 hsx hs HS
        have X0 := fun p => Gr.cell p0 p
        have X1 := fun p => Gr.cell p1 p
        have X2 := fun p => Gr.cell p2 p
        have X3 := fun p => Gr.cell p3 p
        have Y0 := fun p => Gr.cell q0 p
        have Y1 := fun p => Gr.cell q1 p
        have Y2 := fun p => Gr.cell q2 p
        have Y3 := fun p => Gr.cell q3 p
        clear p0 p1 p2 p3 q0 q1 q2 q3
        by_cases h0 : x0 = y0
        case neg =>
          have n0 : (x0 != y0) = true := by rw [bne_iff_ne]; exact h0
          rw [decide_eq_false h0] at HS1 HS2
          simp only [Bool.false_and, Bool.true_and] at HS1 HS2
          clear h0
          go_upto_region 6 with (fail)
          refine wp_region_gr (by kernel_rfl) (by kernel_rfl) ?_
          repeat (go_big_quiet_step ((go_at_call 29; exact Calls.gr_of ((HC.out _).mono (fun e w' h => ⟨h.1, h.2.below⟩)))))
          refine wpQuiet_nil ?_
          intro w9 hw'
          have HB9 := Aside0.mk (below_step HD.out (show Below wo.heap.size wo w9 by obtain ⟨p, rfl⟩ := hw'; exact p.h))
          clear hw' HC X0 X1 X2 X3 Y0 Y1 Y2 Y3
          go_wp2_with fail
          go_returns
          exact ⟨by rw [HS2.out (by simp)]; rfl, HB9.out⟩
        rw [decide_eq_true h0] at HS1 HS2
        have n0 : (x0 != y0) = false := by rw [bne_eq_false_iff_eq]; exact h0
        simp only [Bool.true_and] at HS1 HS2
        clear h0
        by_cases h1 : x1 = y1
        case neg =>
          have n1 : (x1 != y1) = true := by rw [bne_iff_ne]; exact h1
          rw [decide_eq_false h1] at HS1 HS2
          simp only [Bool.false_and, Bool.true_and] at HS1 HS2
          clear h1
          go_upto_region 6 with (fail)
          refine wp_region_gr (by kernel_rfl) (by kernel_rfl) ?_
          repeat (go_big_quiet_step ((go_at_call 29; exact Calls.gr_of ((HC.out _).mono (fun e w' h => ⟨h.1, h.2.below⟩)))))
          refine wpQuiet_nil ?_
          intro w9 hw'
          have HB9 := Aside0.mk (below_step HD.out (show Below wo.heap.size wo w9 by obtain ⟨p, rfl⟩ := hw'; exact p.h))
          clear hw' HC X0 X1 X2 X3 Y0 Y1 Y2 Y3
          go_wp2_with fail
          go_returns
          exact ⟨by rw [HS2.out (by simp)]; rfl, HB9.out⟩
        rw [decide_eq_true h1] at HS1 HS2
        have n1 : (x1 != y1) = false := by rw [bne_eq_false_iff_eq]; exact h1
        simp only [Bool.true_and] at HS1 HS2
        clear h1
        cases x2 with
        | true =>
          cases y2 with
          | true =>
            simp only [decide_true, Bool.true_and] at HS1 HS2
            cases s with
            | true =>
              go_upto_region 6 with (fail)
              refine wp_region_gr (by kernel_rfl) (by kernel_rfl) ?_
              repeat (go_big_quiet_step ((go_at_call 29; exact Calls.gr_of ((HC.out _).mono (fun e w' h => ⟨h.1, h.2.below⟩)))))
              refine wpQuiet_nil ?_
              intro w9 hw'
              have HB9 := Aside0.mk (below_step HD.out (show Below wo.heap.size wo w9 by obtain ⟨p, rfl⟩ := hw'; exact p.h))
              clear hw' HC X0 X1 X2 X3 Y0 Y1 Y2 Y3
              go_wp2_with fail
              have HS3 := Aside0.mk (HS1.out (by simp))
              go_roundg (a.length - (kk + 1))
              case measure => omega
              case rel => exact ⟨kk + 1, hlt, by omega, by go_num, HB9, HS3⟩
            | false =>
              go_upto_region 6 with (fail)
              refine wp_region_gr (by kernel_rfl) (by kernel_rfl) ?_
              repeat (go_big_quiet_step ((go_at_call 29; exact Calls.gr_of ((HC.out _).mono (fun e w' h => ⟨h.1, h.2.below⟩)))))
              refine wpQuiet_nil ?_
              intro w9 hw'
              have HB9 := Aside0.mk (below_step HD.out (show Below wo.heap.size wo w9 by obtain ⟨p, rfl⟩ := hw'; exact p.h))
              clear hw' HC X0 X1 X2 X3 Y0 Y1 Y2 Y3
              go_wp2_with fail
              go_returns
              exact ⟨by rw [HS2.out (by simp)]; rfl, HB9.out⟩
          | false =>
            simp only [show decide (true = false) = false from rfl, Bool.false_and] at HS1 HS2
            go_upto_region 6 with (fail)
            refine wp_region_gr (by kernel_rfl) (by kernel_rfl) ?_
            repeat (go_big_quiet_step ((go_at_call 29; exact Calls.gr_of ((HC.out _).mono (fun e w' h => ⟨h.1, h.2.below⟩)))))
            refine wpQuiet_nil ?_
            intro w9 hw'
            have HB9 := Aside0.mk (below_step HD.out (show Below wo.heap.size wo w9 by obtain ⟨p, rfl⟩ := hw'; exact p.h))
            clear hw' HC X0 X1 X2 X3 Y0 Y1 Y2 Y3
            go_wp2_with fail
            go_returns
            exact ⟨by rw [HS2.out (by simp)]; rfl, HB9.out⟩
        | false =>
          cases y2 with
          | true =>
            simp only [show decide (false = true) = false from rfl, Bool.false_and] at HS1 HS2
            go_upto_region 6 with (fail)
            refine wp_region_gr (by kernel_rfl) (by kernel_rfl) ?_
            repeat (go_big_quiet_step ((go_at_call 29; exact Calls.gr_of ((HC.out _).mono (fun e w' h => ⟨h.1, h.2.below⟩)))))
            refine wpQuiet_nil ?_
            intro w9 hw'
            have HB9 := Aside0.mk (below_step HD.out (show Below wo.heap.size wo w9 by obtain ⟨p, rfl⟩ := hw'; exact p.h))
            clear hw' HC X0 X1 X2 X3 Y0 Y1 Y2 Y3
            go_wp2_with fail
            go_returns
            exact ⟨by rw [HS2.out (by simp)]; rfl, HB9.out⟩
          | false =>
            simp only [decide_true, Bool.true_and] at HS1 HS2
            cases s with
            | true =>
              go_upto_region 6 with (fail)
              refine wp_region_gr (by kernel_rfl) (by kernel_rfl) ?_
              repeat (go_big_quiet_step ((go_at_call 29; exact Calls.gr_of ((HC.out _).mono (fun e w' h => ⟨h.1, h.2.below⟩)))))
              refine wpQuiet_nil ?_
              intro w9 hw'
              have HB9 := Aside0.mk (below_step HD.out (show Below wo.heap.size wo w9 by obtain ⟨p, rfl⟩ := hw'; exact p.h))
              clear hw' HC X0 X1 X2 X3 Y0 Y1 Y2 Y3
              go_wp2_with fail
              have HS3 := Aside0.mk (HS1.out (by simp))
              go_roundg (a.length - (kk + 1))
              case measure => omega
              case rel => exact ⟨kk + 1, hlt, by omega, by go_num, HB9, HS3⟩
            | false =>
              go_upto_region 6 with (fail)
              refine wp_region_gr (by kernel_rfl) (by kernel_rfl) ?_
              repeat (go_big_quiet_step ((go_at_call 29; exact Calls.gr_of ((HC.out _).mono (fun e w' h => ⟨h.1, h.2.below⟩)))))
              refine wpQuiet_nil ?_
              intro w9 hw'
              have HB9 := Aside0.mk (below_step HD.out (show Below wo.heap.size wo w9 by obtain ⟨p, rfl⟩ := hw'; exact p.h))
              clear hw' HC X0 X1 X2 X3 Y0 Y1 Y2 Y3
              go_wp2_with fail
              go_returns
              exact ⟨by rw [HS2.out (by simp)]; rfl, HB9.out⟩
      · have hltz : ¬ (kk : Int) < (a.length : Int) := by omega
        have hres : r = true := by
          rw [HRR.out, List.all_eq_true]
          exact fun j hj => HS.out j (by have := List.mem_range.1 hj; omega)
        subst hres
        go_wp2_with fail
        go_returns
        exact ⟨rfl, HD.out⟩
end

section
open Go.Shelf Go.RowKit Go.Proofs.YtngjaaldidmgjaaW.PrintWords Go.Proofs.YtngjaaldidmgjaaW.PrintLast Go.Proofs.YtngjaaldidmgjaaW.PrintMore
set_option linter.unusedVariables false
set_option linter.unusedSimpArgs false

theorem lists_eq {α : Type} {d : α} {a b : List α} (hl : a.length = b.length) (h : ∀ j, j < a.length → a.getD j d = b.getD j d) : a = b := by
  refine List.ext_getElem hl (fun i h1 h2 => ?_)
  have := h i h1
  rwa [getD_of_lt a i d h1, getD_of_lt b i d h2] at this

set_option maxHeartbeats 8000000 in
set_option maxRecDepth 100000 in
theorem refRS (x y : Rc) (A5 : Option Addr) (c5 : Nat) (A6 : Option Addr) (c6 : Nat) (B5 : Option Addr) (d5 : Nat) (B6 : Option Addr) (d6 : Nat) (W : World) (h5 : Kd.C kW W A5 x.f5.length x.f5) (h6 : Kd.C kV W A6 x.f6.length x.f6) (g5 : Kd.C kW W B5 y.f5.length y.f5) (g6 : Kd.C kV W B6 y.f6.length y.f6) :
    Calls Try.prog 48 #[.agg (rcL x A5 c5 A6 c6), .agg (rcL y B5 d5 B6 d6)] W fun e w' => e = .returned (.bool (sameR x y)) ∧ Below W.heap.size W w' := by
  obtain ⟨x0, x1, x2, x3, x4, x5, x6⟩ := x
  obtain ⟨y0, y1, y2, y3, y4, y5, y6⟩ := y
  simp only at h5 h6 g5 g6
  obtain ⟨r, hr⟩ : ∃ r, r = sameR ⟨x0, x1, x2, x3, x4, x5, x6⟩ ⟨y0, y1, y2, y3, y4, y5, y6⟩ := ⟨_, rfl⟩
  rw [← hr]
  have HR := Aside0.mk (show r = (decide (x0 = y0) && (decide (x1 = y1) && (decide (x2 = y2) && (decide (x3 = y3) && (decide (x4 = y4) && (eqWrs x5 y5 && decide (x6 = y6))))))) by
    rw [hr]; unfold sameR
    by_cases h0 : x0 = y0 <;> by_cases h1 : x1 = y1 <;> by_cases h2 : x2 = y2 <;> by_cases h3 : x3 = y3 <;> by_cases h4 : x4 = y4 <;> simp [h0, h1, h2, h3, h4])
  clear hr
  obtain ⟨w2, hw2⟩ : ∃ w2, w2 = (W.alloc (.cells (rcL ⟨x0, x1, x2, x3, x4, x5, x6⟩ A5 c5 A6 c6) 28)).alloc (.cells (rcL ⟨y0, y1, y2, y3, y4, y5, y6⟩ B5 d5 B6 d6) 28) := ⟨_, rfl⟩
  have hs1 : (W.alloc (.cells (rcL ⟨x0, x1, x2, x3, x4, x5, x6⟩ A5 c5 A6 c6) 28)).heap.size = W.heap.size + 1 := by simp
  have hB2 : Below W.heap.size W w2 := by rw [hw2]; exact ((Below.refl _ _).alloc (Nat.le_refl _) _).alloc (by rw [hs1]; omega) _
  have hX := show w2.heap[W.heap.size]? = some (.cells (rcL ⟨x0, x1, x2, x3, x4, x5, x6⟩ A5 c5 A6 c6) 28 (0, 0)) by rw [hw2]; exact (Below.heap_alloc _ _ _ (by rw [hs1]; omega)).trans (heap_alloc_new W _)
  have hY := show w2.heap[W.heap.size + 1]? = some (.cells (rcL ⟨y0, y1, y2, y3, y4, y5, y6⟩ B5 d5 B6 d6) 28 (0, 0)) by rw [hw2, ← hs1]; exact heap_alloc_new _ _
  have HWS := Aside0.mk (refWS A5 c5 x5 B5 d5 y5 w2 (Kd.C_below h5 hB2) (Kd.C_below g5 hB2))
  obtain ⟨k0, k1, k2, k3, k4, k5, k6⟩ := rcF hX
  obtain ⟨j0, j1, j2, j3, j4, j5, j6⟩ := rcF hY
  simp only at k0 k1 k2 k3 k4 k5 k6 j0 j1 j2 j3 j4 j5 j6
  have HW := Aside0.mk hw2
  have HB2 := Aside0.mk hB2
  have HX := Aside0.mk hX
  have HY := Aside0.mk hY
  have H6 := Aside0.mk (Kd.C_below h6 hB2)
  have G6 := Aside0.mk (Kd.C_below g6 hB2)
  have hm6 := Kd.C_max h6
  have hn6 := Kd.C_max g6
  clear hw2 hs1 hB2 hX hY h5 h6 g5 g6
  go_enter Try.func48, Try.ntmps48
  go_upto_region 1 with (fail)
  rw [show (W.alloc (.cells #[.int .i64 x0, .int .u64 x1, .int .u64 x2, .int .i64 x3, .int .i64 x4, .slice A5 x5.length c5, .slice A6 x6.length c6] 28)).alloc (.cells #[.int .i64 y0, .int .u64 y1, .int .u64 y2, .int .i64 y3, .int .i64 y4, .slice B5 y5.length d5, .slice B6 y6.length d6] 28) = w2 from HW.out.symm]
  by_cases h0 : x0 = y0
  case neg =>
    have n0 : (x0 != y0) = true := by rw [bne_iff_ne]; exact h0
    have hres : r = false := by rw [HR.out, decide_eq_false h0]; simp
    subst hres
    clear h0
    go_wp2_with fail
    go_returns
    exact ⟨rfl, HB2.out⟩
  have n0 : (x0 != y0) = false := by rw [bne_eq_false_iff_eq]; exact h0
  rw [decide_eq_true h0, Bool.true_and] at HR
  clear h0
  by_cases h1 : x1 = y1
  case neg =>
    have n1 : (x1 != y1) = true := by rw [bne_iff_ne]; exact h1
    have hres : r = false := by rw [HR.out, decide_eq_false h1]; simp
    subst hres
    clear h1
    go_wp2_with fail
    go_returns
    exact ⟨rfl, HB2.out⟩
  have n1 : (x1 != y1) = false := by rw [bne_eq_false_iff_eq]; exact h1
  rw [decide_eq_true h1, Bool.true_and] at HR
  clear h1
  by_cases h2 : x2 = y2
  case neg =>
    have n2 : (x2 != y2) = true := by rw [bne_iff_ne]; exact h2
    have hres : r = false := by rw [HR.out, decide_eq_false h2]; simp
    subst hres
    clear h2
    go_wp2_with fail
    go_returns
    exact ⟨rfl, HB2.out⟩
  have n2 : (x2 != y2) = false := by rw [bne_eq_false_iff_eq]; exact h2
  rw [decide_eq_true h2, Bool.true_and] at HR
  clear h2
  by_cases h3 : x3 = y3
  case neg =>
    have n3 : (x3 != y3) = true := by rw [bne_iff_ne]; exact h3
    have hres : r = false := by rw [HR.out, decide_eq_false h3]; simp
    subst hres
    clear h3
    go_wp2_with fail
    go_returns
    exact ⟨rfl, HB2.out⟩
  have n3 : (x3 != y3) = false := by rw [bne_eq_false_iff_eq]; exact h3
  rw [decide_eq_true h3, Bool.true_and] at HR
  clear h3
  by_cases h4 : x4 = y4
  case neg =>
    have n4 : (x4 != y4) = true := by rw [bne_iff_ne]; exact h4
    have hres : r = false := by rw [HR.out, decide_eq_false h4]; simp
    subst hres
    clear h4
    go_wp2_with fail
    go_returns
    exact ⟨rfl, HB2.out⟩
  have n4 : (x4 != y4) = false := by rw [bne_eq_false_iff_eq]; exact h4
  rw [decide_eq_true h4, Bool.true_and] at HR
  clear h4
  cases hws : eqWrs x5 y5 with
  | false =>
    rw [hws] at HWS HR
    have hres : r = false := HR.out
    subst hres
    clear hws
    go_wp2_with (go_at_call 84; refine HWS.out.mono ?_; rintro e w3 ⟨rfl, hb⟩; have HB3 := Aside0.mk (below_step HB2.out hb); clear hb)
    go_returns
    exact ⟨rfl, HB3.out⟩
  | true =>
    rw [hws] at HWS HR
    rw [Bool.true_and] at HR
    clear hws
    by_cases hl : x6.length = y6.length
    case neg =>
      have e1 : ((x6.length : Int) != (y6.length : Int)) = true := by rw [bne_iff_ne]; omega
      have hres : r = false := by rw [HR.out]; exact decide_eq_false (fun e => hl (by rw [e]))
      subst hres
      clear hl
      go_wp2_with (go_at_call 84; refine HWS.out.mono ?_; rintro e w3 ⟨rfl, hb⟩; have HB3 := Aside0.mk (below_step HB2.out hb); clear k0 k1 k2 k3 k4 k5 k6 j0 j1 j2 j3 j4 j5 j6; obtain ⟨k0, k1, k2, k3, k4, k5, k6⟩ := rcF (blk_below HX.out hb); obtain ⟨j0, j1, j2, j3, j4, j5, j6⟩ := rcF (blk_below HY.out hb); simp only at k5 k6 j5 j6; clear hb)
      go_returns
      exact ⟨rfl, HB3.out⟩
    case pos =>
      have e1 : ((x6.length : Int) != (y6.length : Int)) = false := by rw [bne_eq_false_iff_eq]; omega
      have HL := Aside0.mk hl
      clear hl
      go_wp2_with (go_at_call 84; refine HWS.out.mono ?_; rintro e w3 ⟨rfl, hb⟩; have HB3 := Aside0.mk hb; clear k0 k1 k2 k3 k4 k5 k6 j0 j1 j2 j3 j4 j5 j6; obtain ⟨k0, k1, k2, k3, k4, k5, k6⟩ := rcF (blk_below HX.out hb); obtain ⟨j0, j1, j2, j3, j4, j5, j6⟩ := rcF (blk_below HY.out hb); simp only at k5 k6 j5 j6; clear hb)
      clear k0 k1 k2 k3 k4 k5 k6 j0 j1 j2 j3 j4 j5 j6
      go_loopg [59] x6.length (fun gg s59 wr => ∃ kk : Nat, kk ≤ x6.length ∧ x6.length - kk ≤ gg ∧ s59 = .int .i64 kk ∧ Aside0 (Below w2.heap.size w2 wr) ∧ Aside0 (∀ j, j < kk → x6.getD j [] = y6.getD j []))
      case atStart => exact ⟨0, Nat.zero_le _, by omega, rfl, HB3, ⟨fun j hj => absurd hj (Nat.not_lt_zero _)⟩⟩
      case round =>
        obtain ⟨kk, hkk, hg, rfl, HD, HS⟩ := hrel
        obtain ⟨wo, rfl⟩ : ∃ wo, wo = wr := ⟨_, rfl⟩
        by_cases hlt : kk < x6.length
        · have hltz : (kk : Int) < (x6.length : Int) := by omega
          have hltb : (kk : Int) < (y6.length : Int) := by have := HL.out; omega
          obtain ⟨ad, A4, c4, hA, p0, hl4, hC4⟩ := P.at_L4 (Kd.C_below H6.out HD.out) (kk : Int) (by omega) (by omega)
          obtain ⟨bd, B4, d4, hB, q0, hl5, hC5⟩ := P.at_L4 (Kd.C_below G6.out HD.out) (kk : Int) (by omega) (by omega)
          subst hA hB
          simp only [Int.toNat_natCast] at p0 q0
          obtain ⟨k0, k1, k2, k3, k4, k5, k6⟩ := rcF (blk_below HX.out HD.out)
          obtain ⟨j0, j1, j2, j3, j4, j5, j6⟩ := rcF (blk_below HY.out HD.out)
          simp only at k6 j6
          clear k0 k1 k2 k3 k4 k5 j0 j1 j2 j3 j4 j5
          have HS1 := Aside0.mk (show P.rd_L4 x6 (kk : Int) = P.rd_L4 y6 (kk : Int) → ∀ j, j < kk + 1 → x6.getD j [] = y6.getD j [] from fun h j hj => by
            by_cases e : j = kk
            · rw [e]; exact h
            · exact HS.out j (by omega))
          have HS2 := Aside0.mk (show ¬ P.rd_L4 x6 (kk : Int) = P.rd_L4 y6 (kk : Int) → r = false from fun h => by
            rw [HR.out]; exact decide_eq_false (fun e => h (by rw [e])))
          generalize P.rd_L4 x6 (kk : Int) = u at *
          generalize P.rd_L4 y6 (kk : Int) = v at *
          obtain ⟨s, hs⟩ : ∃ s, s = decide (u = v) := ⟨_, rfl⟩
          have HC := Aside0.mk (fun (p : Gr wo) => P.quiverref05_Same.calls (u.length + 1) A4 c4 u B4 d4 v s p.w (Kd.C_below hC4 p.h) hl4 (Kd.C_below hC5 p.h) hl5 (by rw [refsame_is _ _ _ (by omega) (Kd.C_max hC4), hs]))
          have X0 := fun p => Gr.cell p0 p
          have Y0 := fun p => Gr.cell q0 p
          have X6 := fun p => Gr.cell k6 p
          have Y6 := fun p => Gr.cell j6 p
          clear hC4 hC5 hl4 hl5 p0 q0 k6 j6 HS
          cases s with
          | true =>
            have HS3 := Aside0.mk (HS1.out (of_decide_eq_true hs.symm))
            clear hs HS1 HS2
            go_upto_region 6 with (fail)
            refine wp_region_gr (by kernel_rfl) (by kernel_rfl) ?_
            repeat (go_big_quiet_step ((go_at_call 29; exact Calls.gr_of ((HC.out _).mono (fun e w' h => ⟨h.1, h.2.below⟩)))))
            refine wpQuiet_nil ?_
            intro w9 hw'
            have HB9 := Aside0.mk (below_step HD.out (show Below wo.heap.size wo w9 by obtain ⟨p, rfl⟩ := hw'; exact p.h))
            clear hw' HC X0 Y0 X6 Y6
            go_wp2_with fail
            go_roundg (x6.length - (kk + 1))
            case measure => omega
            case rel => exact ⟨kk + 1, hlt, by omega, by go_num, HB9, HS3⟩
          | false =>
            have hres := HS2.out (of_decide_eq_false hs.symm)
            subst hres
            clear hs HS1 HS2
            go_upto_region 6 with (fail)
            refine wp_region_gr (by kernel_rfl) (by kernel_rfl) ?_
            repeat (go_big_quiet_step ((go_at_call 29; exact Calls.gr_of ((HC.out _).mono (fun e w' h => ⟨h.1, h.2.below⟩)))))
            refine wpQuiet_nil ?_
            intro w9 hw'
            have HB9 := Aside0.mk (below_step HD.out (show Below wo.heap.size wo w9 by obtain ⟨p, rfl⟩ := hw'; exact p.h))
            clear hw' HC X0 Y0 X6 Y6
            go_wp2_with fail
            go_returns
            exact ⟨rfl, below_step HB2.out HB9.out⟩
        · have hltz : ¬ (kk : Int) < (x6.length : Int) := by omega
          have hres : r = true := by
            rw [HR.out]
            exact decide_eq_true (lists_eq HL.out (fun j hj => HS.out j (by omega)))
          subst hres
          go_wp2_with fail
          go_returns
          exact ⟨rfl, below_step HB2.out HD.out⟩
end

section
open Go.Shelf Go.RowKit Go.Proofs.YtngjaaldidmgjaaW.PrintWords Go.Proofs.YtngjaaldidmgjaaW.PrintLast Go.Proofs.YtngjaaldidmgjaaW.PrintMore
set_option linter.unusedVariables false
set_option linter.unusedSimpArgs false

theorem rcoll_is (n : Int) : P.quiverref16_Coll.f n = some (okColl n) := by
  unfold P.quiverref16_Coll.f okColl
  by_cases h : n ≥ 0
  · rw [if_pos h]; congr 1; exact decide_eq_decide.mpr ⟨fun h2 => ⟨h, h2⟩, fun h2 => h2.2⟩
  · rw [if_neg h, decide_eq_false (fun h2 => h h2.1)]
theorem before_is (x y : Wr) : P.quiverref16_before.f x.f0 x.f1 x.f2 x.f3 y.f0 y.f1 y.f2 y.f3 = some (decide (cmpW x y < 0)) := by
  unfold P.quiverref16_before.f cmpW sgn
  by_cases h0 : x.f0 < y.f0
  · rw [if_pos h0]; simp [h0]
  · rw [if_neg h0]
    by_cases h1 : x.f0 = y.f0
    · rw [if_pos h1]
      by_cases h2 : x.f1 < y.f1
      · simp [h1, h2]
      · by_cases h3 : y.f1 < x.f1 <;> simp [h1, h2, h3]
    · rw [if_neg h1]
      have h4 : y.f0 < x.f0 := by omega
      simp [h0, h4]
theorem rgood {l : List Wr} {r : Bool} (hr : r = wrsOk l) (h : ∀ j, j < l.length → stepOk l j = true) : r = decide (l.length ≤ 12) := by
  rw [hr]; unfold wrsOk
  rw [show (List.range' 0 l.length).all (stepOk l) = true by rw [List.all_eq_true]; intro j hj; exact h j (by have := List.mem_range'.1 hj; omega), Bool.and_true]
theorem rbad {l : List Wr} {r : Bool} (hr : r = wrsOk l) (k : Nat) (hk : k < l.length) (h : stepOk l k = false) : r = false := by
  rw [hr]; unfold wrsOk
  rw [show (List.range' 0 l.length).all (stepOk l) = false by rw [List.all_eq_false]; exact ⟨k, by rw [List.mem_range']; exact ⟨k, hk, by omega⟩, by rw [h]; decide⟩, Bool.and_false]

set_option maxHeartbeats 3000000 in
set_option maxRecDepth 100000 in
theorem refWR (A : Option Addr) (c : Nat) (l : List Wr) (w : World) (hr : Kd.C kW w A l.length l) :
    Calls Try.prog 87 #[.slice A l.length c] w fun e w' => e = .returned (.bool (wrsOk l)) ∧ Below w.heap.size w w' := by
  have HR := Aside0.mk hr
  have hm := Kd.C_max hr
  clear hr
  obtain ⟨r, hrr⟩ : ∃ r, r = wrsOk l := ⟨_, rfl⟩
  rw [← hrr]
  have HRR := Aside0.mk hrr
  clear hrr
  go_enter Try.func87, Try.ntmps87
  go_wp2_with fail
  go_loopg [7] l.length (fun gg s7 wr => ∃ kk : Nat, kk ≤ l.length ∧ l.length - kk ≤ gg ∧ s7 = .int .i64 kk ∧ Aside0 (Below w.heap.size w wr) ∧ Aside0 (∀ j, j < kk → stepOk l j = true))
  case atStart => exact ⟨0, Nat.zero_le _, by omega, rfl, ⟨Below.refl _ _⟩, ⟨fun j hj => absurd hj (Nat.not_lt_zero _)⟩⟩
  case round =>
    obtain ⟨kk, hkk, hg, rfl, HD, HS⟩ := hrel
    obtain ⟨wo, rfl⟩ : ∃ wo, wo = wr := ⟨_, rfl⟩
    by_cases hlt : kk < l.length
    · have hltz : (kk : Int) < (l.length : Int) := by omega
      obtain ⟨ad, A4, c4, hA, p0, p1, p2, p3, hl4, hC4⟩ := P.at_T87 (Kd.C_below HR.out HD.out) (kk : Int) (by omega) (by omega)
      subst hA
      simp only [Int.toNat_natCast] at p0 p1 p2 p3
      have HXE := Aside0.mk (show P.rd_T87 l (kk : Int) = wrAt l kk from rfl)
      have HS1 := Aside0.mk (show stepOk l kk = true → ∀ j, j < kk + 1 → stepOk l j = true from fun h j hj => by
        by_cases e : j = kk
        · rw [e]; exact h
        · exact HS.out j (by omega))
      have HS2 := Aside0.mk (show stepOk l kk = false → r = false from fun h => rbad HRR.out kk hlt h)
      have HST := Aside0.mk (show stepOk l kk = (wrOk (wrAt l kk) && (decide (kk = 0) || decide (cmpW (wrAt l (kk - 1)) (wrAt l kk) < 0))) from rfl)
      generalize stepOk l kk = st at *
      generalize P.rd_T87 l (kk : Int) = x at *
      rw [← HXE.out] at HST
      obtain ⟨wb, hwb⟩ : ∃ wb, wb = wo.alloc (.cells #[.int .i64 x.f0, .int .u64 x.f1, .bool x.f2, .slice A4 x.f3.length c4] 87) := ⟨_, rfl⟩
      have hX := show wb.heap[wo.heap.size]? = some (.cells #[.int .i64 x.f0, .int .u64 x.f1, .bool x.f2, .slice A4 x.f3.length c4] 87 (0, 0)) by rw [hwb]; exact heap_alloc_new _ _
      have hbb : Below wo.heap.size wo wb := by rw [hwb]; exact below_alloc (Below.refl _ _) _
      have k0 : wb.cell? ⟨wo.heap.size, 0, none⟩ = some (.int .i64 x.f0) := (blk_cell hX 0).trans rfl
      have k1 : wb.cell? ⟨wo.heap.size, 1, none⟩ = some (.int .u64 x.f1) := (blk_cell hX 1).trans rfl
      have k2 : wb.cell? ⟨wo.heap.size, 2, none⟩ = some (.bool x.f2) := (blk_cell hX 2).trans rfl
      have k3 : wb.cell? ⟨wo.heap.size, 3, none⟩ = some (.slice A4 x.f3.length c4) := (blk_cell hX 3).trans rfl
      have X0 := fun p => Gr.cell k0 p
      have X1 := fun p => Gr.cell k1 p
      have X2 := fun p => Gr.cell k2 p
      have X3 := fun p => Gr.cell k3 p
      have HDb := Aside0.mk (below_step HD.out hbb)
      have HW := Aside0.mk hwb
      have hx4 := Kd.C_below hC4 hbb
      have HCO := Aside0.mk (fun (p : Gr wb) => P.quiverref16_Coll.calls x.f0 (okColl x.f0) p.w (rcoll_is x.f0))
      have HRI := Aside0.mk (fun (p : Gr wb) => P.quiverref05_Right.calls (x.f3.length + 1) A4 c4 x.f3 (right x.f3) p.w (Kd.C_below hx4 p.h) hl4 (right_is _ _ (by omega) (Kd.C_max hC4)))
      have HX4 := Aside0.mk hx4
      have HL4 := Aside0.mk hl4
      go_upto_region 4 with (fail)
      rw [← HW.out]
      have hwk : wrOk x = (okColl x.f0 && (if x.f2 = true then decide (x.f3.length = 0) else right x.f3)) := rfl
      rw [hwk] at HST
      clear p0 p1 p2 p3 k0 k1 k2 k3 hX hbb hwb hC4 hx4 hl4 hwk HS HXE HW
      cases hc0 : okColl x.f0 with
      | false =>
        rw [hc0] at HCO HST
        clear hc0
        have hres := HS2.out (by rw [HST.out]; rfl)
        subst hres
        skip
        refine wp_region_gr (by kernel_rfl) (by kernel_rfl) ?_
        repeat (go_big_quiet_step (first | (go_at_call 88; exact Calls.gr_of ((HCO.out _).mono (fun e w' h => ⟨h.1, h.2.below⟩))) | (go_at_call 39; exact Calls.gr_of ((HRI.out _).mono (fun e w' h => ⟨h.1, h.2.below⟩))) | (go_at_call 119; exact Calls.gr_of (HBF.out _))))
        refine wpQuiet_nil ?_
        intro w9 hw'
        have HB9 := Aside0.mk (below_step HDb.out (show Below wb.heap.size wb w9 by obtain ⟨p, rfl⟩ := hw'; exact p.h))
        clear hw'
        go_wp2_with fail
        go_returns
        exact ⟨rfl, HB9.out⟩
      | true =>
        rw [hc0] at HCO HST
        rw [Bool.true_and] at HST
        clear hc0
        cases hx2 : x.f2 with
        | true =>
          rw [hx2, if_pos rfl] at HST
          rw [hx2] at X2
          by_cases hl0 : x.f3.length = 0
          case neg =>
            rw [decide_eq_false hl0] at HST
            have hp : (0 : Int) < (x.f3.length : Int) := by omega
            have hp2 : 0 < x.f3.length := by omega
            clear hl0
            have hres := HS2.out (by rw [HST.out]; rfl)
            subst hres
            skip
            refine wp_region_gr (by kernel_rfl) (by kernel_rfl) ?_
            repeat (go_big_quiet_step (first | (go_at_call 88; exact Calls.gr_of ((HCO.out _).mono (fun e w' h => ⟨h.1, h.2.below⟩))) | (go_at_call 39; exact Calls.gr_of ((HRI.out _).mono (fun e w' h => ⟨h.1, h.2.below⟩))) | (go_at_call 119; exact Calls.gr_of (HBF.out _))))
            refine wpQuiet_nil ?_
            intro w9 hw'
            have HB9 := Aside0.mk (below_step HDb.out (show Below wb.heap.size wb w9 by obtain ⟨p, rfl⟩ := hw'; exact p.h))
            clear hw'
            go_wp2_with fail
            go_returns
            exact ⟨rfl, HB9.out⟩
          rw [decide_eq_true hl0, Bool.true_and] at HST
          rw [hl0] at X3
          by_cases hz : kk = 0
          · subst hz
            have HS3 := Aside0.mk (HS1.out (by rw [HST.out]; simp))
            refine wp_region_gr (by kernel_rfl) (by kernel_rfl) ?_
            repeat (go_big_quiet_step (first | (go_at_call 88; exact Calls.gr_of ((HCO.out _).mono (fun e w' h => ⟨h.1, h.2.below⟩))) | (go_at_call 39; exact Calls.gr_of ((HRI.out _).mono (fun e w' h => ⟨h.1, h.2.below⟩))) | (go_at_call 119; exact Calls.gr_of (HBF.out _))))
            refine wpQuiet_nil ?_
            intro w9 hw'
            have HB9 := Aside0.mk (below_step HDb.out (show Below wb.heap.size wb w9 by obtain ⟨p, rfl⟩ := hw'; exact p.h))
            clear hw'
            go_wp2_with fail
            go_roundg (l.length - (0 + 1))
            case measure => omega
            case rel => exact ⟨0 + 1, by omega, by omega, by go_num, HB9, HS3⟩
          · obtain ⟨m, rfl⟩ : ∃ m, kk = m + 1 := ⟨kk - 1, by omega⟩
            obtain ⟨bd, B4, d4, hB, q0, q1, q2, q3, hl5, hC5⟩ := P.at_T87 (Kd.C_below HR.out HDb.out) (m : Int) (by omega) (by omega)
            injection hB with hB
            subst hB
            simp only [Int.toNat_natCast] at q0 q1 q2 q3
            have HYE := Aside0.mk (show P.rd_T87 l (m : Int) = wrAt l m from rfl)
            rw [show m + 1 - 1 = m from rfl, ← HYE.out] at HST
            generalize P.rd_T87 l (m : Int) = y at *
            have Y0 := fun p => Gr.cell q0 p
            have Y1 := fun p => Gr.cell q1 p
            have Y2 := fun p => Gr.cell q2 p
            have Y3 := fun p => Gr.cell q3 p
            have HBF := Aside0.mk (fun (p : Gr wb) => P.quiverref16_before.calls y.f0 y.f1 y.f2 B4 d4 y.f3 x.f0 x.f1 x.f2 A4 c4 x.f3 (decide (cmpW y x < 0)) p.w (Kd.C_below hC5 p.h) hl5 (Kd.C_below HX4.out p.h) HL4.out (before_is y x))
            have ew : IntKind.i64.wrap (m : Int) = (m : Int) := IntWalk.i64_in _ (by omega)
            have hgz : (0 : Int) < (m : Int) + 1 := by omega
            have hmz : (m : Int) < (l.length : Int) := by omega
            rw [hx2, hl0] at HBF
            clear q0 q1 q2 q3 hC5 hl5 HYE hz
            cases hc : decide (cmpW y x < 0) with
            | true =>
              rw [hc] at HBF HST
              clear hc
              have HS3 := Aside0.mk (HS1.out (by rw [HST.out]; simp))
              refine wp_region_gr (by kernel_rfl) (by kernel_rfl) ?_
              repeat (go_big_quiet_step (first | (go_at_call 88; exact Calls.gr_of ((HCO.out _).mono (fun e w' h => ⟨h.1, h.2.below⟩))) | (go_at_call 39; exact Calls.gr_of ((HRI.out _).mono (fun e w' h => ⟨h.1, h.2.below⟩))) | (go_at_call 119; exact Calls.gr_of (HBF.out _))))
              refine wpQuiet_nil ?_
              intro w9 hw'
              have HB9 := Aside0.mk (below_step HDb.out (show Below wb.heap.size wb w9 by obtain ⟨p, rfl⟩ := hw'; exact p.h))
              clear hw'
              go_wp2_with fail
              go_roundg (l.length - (m + 1 + 1))
              case measure => omega
              case rel => exact ⟨m + 1 + 1, by omega, by omega, by go_num, HB9, HS3⟩
            | false =>
              rw [hc] at HBF HST
              clear hc
              have hres := HS2.out (by rw [HST.out]; simp)
              subst hres
              refine wp_region_gr (by kernel_rfl) (by kernel_rfl) ?_
              repeat (go_big_quiet_step (first | (go_at_call 88; exact Calls.gr_of ((HCO.out _).mono (fun e w' h => ⟨h.1, h.2.below⟩))) | (go_at_call 39; exact Calls.gr_of ((HRI.out _).mono (fun e w' h => ⟨h.1, h.2.below⟩))) | (go_at_call 119; exact Calls.gr_of (HBF.out _))))
              refine wpQuiet_nil ?_
              intro w9 hw'
              have HB9 := Aside0.mk (below_step HDb.out (show Below wb.heap.size wb w9 by obtain ⟨p, rfl⟩ := hw'; exact p.h))
              clear hw'
              go_wp2_with fail
              go_returns
              exact ⟨rfl, HB9.out⟩
        | false =>
          rw [hx2, if_neg (by decide)] at HST
          rw [hx2] at X2
          cases hr0 : right x.f3 with
          | false =>
            rw [hr0] at HRI HST
            clear hr0
            have hres := HS2.out (by rw [HST.out]; rfl)
            subst hres
            skip
            refine wp_region_gr (by kernel_rfl) (by kernel_rfl) ?_
            repeat (go_big_quiet_step (first | (go_at_call 88; exact Calls.gr_of ((HCO.out _).mono (fun e w' h => ⟨h.1, h.2.below⟩))) | (go_at_call 39; exact Calls.gr_of ((HRI.out _).mono (fun e w' h => ⟨h.1, h.2.below⟩))) | (go_at_call 119; exact Calls.gr_of (HBF.out _))))
            refine wpQuiet_nil ?_
            intro w9 hw'
            have HB9 := Aside0.mk (below_step HDb.out (show Below wb.heap.size wb w9 by obtain ⟨p, rfl⟩ := hw'; exact p.h))
            clear hw'
            go_wp2_with fail
            go_returns
            exact ⟨rfl, HB9.out⟩
          | true =>
            rw [hr0] at HRI HST
            rw [Bool.true_and] at HST
            clear hr0
            by_cases hz : kk = 0
            · subst hz
              have HS3 := Aside0.mk (HS1.out (by rw [HST.out]; simp))
              refine wp_region_gr (by kernel_rfl) (by kernel_rfl) ?_
              repeat (go_big_quiet_step (first | (go_at_call 88; exact Calls.gr_of ((HCO.out _).mono (fun e w' h => ⟨h.1, h.2.below⟩))) | (go_at_call 39; exact Calls.gr_of ((HRI.out _).mono (fun e w' h => ⟨h.1, h.2.below⟩))) | (go_at_call 119; exact Calls.gr_of (HBF.out _))))
              refine wpQuiet_nil ?_
              intro w9 hw'
              have HB9 := Aside0.mk (below_step HDb.out (show Below wb.heap.size wb w9 by obtain ⟨p, rfl⟩ := hw'; exact p.h))
              clear hw'
              go_wp2_with fail
              go_roundg (l.length - (0 + 1))
              case measure => omega
              case rel => exact ⟨0 + 1, by omega, by omega, by go_num, HB9, HS3⟩
            · obtain ⟨m, rfl⟩ : ∃ m, kk = m + 1 := ⟨kk - 1, by omega⟩
              obtain ⟨bd, B4, d4, hB, q0, q1, q2, q3, hl5, hC5⟩ := P.at_T87 (Kd.C_below HR.out HDb.out) (m : Int) (by omega) (by omega)
              injection hB with hB
              subst hB
              simp only [Int.toNat_natCast] at q0 q1 q2 q3
              have HYE := Aside0.mk (show P.rd_T87 l (m : Int) = wrAt l m from rfl)
              rw [show m + 1 - 1 = m from rfl, ← HYE.out] at HST
              generalize P.rd_T87 l (m : Int) = y at *
              have Y0 := fun p => Gr.cell q0 p
              have Y1 := fun p => Gr.cell q1 p
              have Y2 := fun p => Gr.cell q2 p
              have Y3 := fun p => Gr.cell q3 p
              have HBF := Aside0.mk (fun (p : Gr wb) => P.quiverref16_before.calls y.f0 y.f1 y.f2 B4 d4 y.f3 x.f0 x.f1 x.f2 A4 c4 x.f3 (decide (cmpW y x < 0)) p.w (Kd.C_below hC5 p.h) hl5 (Kd.C_below HX4.out p.h) HL4.out (before_is y x))
              have ew : IntKind.i64.wrap (m : Int) = (m : Int) := IntWalk.i64_in _ (by omega)
              have hgz : (0 : Int) < (m : Int) + 1 := by omega
              have hmz : (m : Int) < (l.length : Int) := by omega
              rw [hx2] at HBF
              clear q0 q1 q2 q3 hC5 hl5 HYE hz
              cases hc : decide (cmpW y x < 0) with
              | true =>
                rw [hc] at HBF HST
                clear hc
                have HS3 := Aside0.mk (HS1.out (by rw [HST.out]; simp))
                refine wp_region_gr (by kernel_rfl) (by kernel_rfl) ?_
                repeat (go_big_quiet_step (first | (go_at_call 88; exact Calls.gr_of ((HCO.out _).mono (fun e w' h => ⟨h.1, h.2.below⟩))) | (go_at_call 39; exact Calls.gr_of ((HRI.out _).mono (fun e w' h => ⟨h.1, h.2.below⟩))) | (go_at_call 119; exact Calls.gr_of (HBF.out _))))
                refine wpQuiet_nil ?_
                intro w9 hw'
                have HB9 := Aside0.mk (below_step HDb.out (show Below wb.heap.size wb w9 by obtain ⟨p, rfl⟩ := hw'; exact p.h))
                clear hw'
                go_wp2_with fail
                go_roundg (l.length - (m + 1 + 1))
                case measure => omega
                case rel => exact ⟨m + 1 + 1, by omega, by omega, by go_num, HB9, HS3⟩
              | false =>
                rw [hc] at HBF HST
                clear hc
                have hres := HS2.out (by rw [HST.out]; simp)
                subst hres
                refine wp_region_gr (by kernel_rfl) (by kernel_rfl) ?_
                repeat (go_big_quiet_step (first | (go_at_call 88; exact Calls.gr_of ((HCO.out _).mono (fun e w' h => ⟨h.1, h.2.below⟩))) | (go_at_call 39; exact Calls.gr_of ((HRI.out _).mono (fun e w' h => ⟨h.1, h.2.below⟩))) | (go_at_call 119; exact Calls.gr_of (HBF.out _))))
                refine wpQuiet_nil ?_
                intro w9 hw'
                have HB9 := Aside0.mk (below_step HDb.out (show Below wb.heap.size wb w9 by obtain ⟨p, rfl⟩ := hw'; exact p.h))
                clear hw'
                go_wp2_with fail
                go_returns
                exact ⟨rfl, HB9.out⟩
    · have hltz : ¬ (kk : Int) < (l.length : Int) := by omega
      have hres := rgood HRR.out (fun j hj => HS.out j (by omega))
      by_cases h12 : l.length ≤ 12
      · have h12z : (l.length : Int) ≤ 12 := by omega
        rw [decide_eq_true h12] at hres
        subst hres
        go_wp2_with fail
        go_returns
        exact ⟨rfl, HD.out⟩
      · have h12z : ¬ (l.length : Int) ≤ 12 := by omega
        rw [decide_eq_false h12] at hres
        subst hres
        go_wp2_with fail
        go_returns
        exact ⟨rfl, HD.out⟩
end

section
open Go.Shelf Go.RowKit Go.Proofs.YtngjaaldidmgjaaW.PrintWords Go.Proofs.YtngjaaldidmgjaaW.PrintLast Go.Proofs.YtngjaaldidmgjaaW.PrintMore
set_option linter.unusedVariables false
set_option linter.unusedSimpArgs false

/-- What counts of a record, alone. -/
def onlyR (x : Rc) : Rc := ⟨x.f0, if x.f0 = 1 then x.f1 else 0, if x.f0 = 5 then x.f2 else 0, if x.f0 = 2 ∨ x.f0 = 3 ∨ x.f0 = 4 then x.f3 else 0, if x.f0 = 2 then x.f4 else 0, if x.f0 = 1 then x.f5 else [], if x.f0 = 4 then x.f6 else []⟩
def onlyV (x : Rc) (A5 : Option Addr) (c5 : Nat) (A6 : Option Addr) (c6 : Nat) : Value :=
  .agg (rcL (onlyR x) (if x.f0 = 1 then A5 else none) (if x.f0 = 1 then c5 else 0) (if x.f0 = 4 then A6 else none) (if x.f0 = 4 then c6 else 0))

set_option maxHeartbeats 4000000 in
set_option maxRecDepth 100000 in
theorem refOnly (x : Rc) (A5 : Option Addr) (c5 : Nat) (A6 : Option Addr) (c6 : Nat) (W : World) :
    Calls Try.prog 85 #[.agg (rcL x A5 c5 A6 c6)] W fun e w' => e = .returned (onlyV x A5 c5 A6 c6) ∧ Below W.heap.size W w' := by
  obtain ⟨w1, hw1⟩ : ∃ w1, w1 = W.alloc (.cells (rcL x A5 c5 A6 c6) 28) := ⟨_, rfl⟩
  obtain ⟨w2, hw2⟩ : ∃ w2, w2 = w1.alloc (.cells zcL 28) := ⟨_, rfl⟩
  have hs1 : w1.heap.size = W.heap.size + 1 := by rw [hw1]; simp
  have hs2 : w2.heap.size = W.heap.size + 2 := by rw [hw2]; simp [hs1]
  have hB2 : Below W.heap.size W w2 := by rw [hw2]; exact below_alloc (by rw [hw1]; exact below_alloc (Below.refl _ _) _) _
  have hX := show w2.heap[W.heap.size]? = some (.cells (rcL x A5 c5 A6 c6) 28 (0, 0)) by rw [hw2]; exact (Below.heap_alloc _ _ _ (by rw [hs1]; omega)).trans (by rw [hw1]; exact heap_alloc_new W _)
  have hY := show w2.heap[W.heap.size + 1]? = some (.cells zcL 28 (0, 0)) by rw [hw2, ← hs1]; exact heap_alloc_new _ _
  obtain ⟨w3, hw3⟩ : ∃ w3, w3 = w2.alloc (.cells #[.int .i64 x.f0, .int .u64 0, .int .u64 0, .int .i64 0, .int .i64 0, .slice none 0 0, .slice none 0 0] 28) := ⟨_, rfl⟩
  have hb3 : Below w2.heap.size w2 w3 := by rw [hw3]; exact below_alloc (Below.refl _ _) _
  have hX3 := blk_below hX hb3
  have hY3 := blk_below hY hb3
  have hZ3 := show w3.heap[W.heap.size + 2]? = some (.cells #[.int .i64 x.f0, .int .u64 0, .int .u64 0, .int .i64 0, .int .i64 0, .slice none 0 0, .slice none 0 0] 28 (0, 0)) by rw [hw3, ← hs2]; exact heap_alloc_new _ _
  have x0 : w2.cell? ⟨W.heap.size, 0, none⟩ = some (.int .i64 x.f0) := (blk_cell hX 0).trans rfl
  have HB3 := Aside0.mk (below_step hB2 hb3)
  have HX3 := Aside0.mk hX3
  have HY3 := Aside0.mk hY3
  have HZ3 := Aside0.mk hZ3
  have HW2 := Aside0.mk (show (W.alloc (.cells (rcL x A5 c5 A6 c6) 28)).alloc (.cells zcL 28) = w2 by rw [hw2, hw1])
  have HW3 := Aside0.mk hw3
  have HS2 := Aside0.mk hs2
  clear hw1 hw2 hw3 hs1 hs2 hB2 hX hY hX3 hY3 hZ3 hb3
  obtain ⟨res, hres⟩ : ∃ res, res = onlyV x A5 c5 A6 c6 := ⟨_, rfl⟩
  rw [← hres]
  have HRES := Aside0.mk hres
  clear hres
  go_enter Try.func85, Try.ntmps85
  go_upto_region 1 with (fail)
  rw [HW2.out]
  go_upto_region 2 with (fail)
  rw [← HW3.out, HS2.out]
  clear x0
  have x0 : w3.cell? ⟨W.heap.size, 0, none⟩ = some (.int .i64 x.f0) := (blk_cell HX3.out 0).trans rfl
  by_cases k1 : x.f0 = 1
  · have HXK := Aside0.mk k1
    have y1 : w3.cell? ⟨W.heap.size, 1, none⟩ = some (.int .u64 x.f1) := (blk_cell HX3.out 1).trans rfl
    have z1 : w3.cell? ⟨W.heap.size + 2, 1, none⟩ = some (.int .u64 0) := (blk_cell HZ3.out 1).trans rfl
    have g1 : w3.frozen? ⟨W.heap.size + 2, 1, none⟩ = false := blk_frozen HZ3.out 1
    have y5 : w3.cell? ⟨W.heap.size, 5, none⟩ = some (.slice A5 x.f5.length c5) := (blk_cell HX3.out 5).trans rfl
    have z5 : w3.cell? ⟨W.heap.size + 2, 5, none⟩ = some (.slice none 0 0) := (blk_cell HZ3.out 5).trans rfl
    have g5 : w3.frozen? ⟨W.heap.size + 2, 5, none⟩ = false := blk_frozen HZ3.out 5
    have HRQ := Aside0.mk (show .returned (.agg #[.int .i64 1, .int .u64 x.f1, .int .u64 0, .int .i64 0, .int .i64 0, .slice A5 x.f5.length c5, .slice none 0 0]) = Ending.returned res by rw [HRES.out]; unfold onlyV onlyR; simp [HXK.out])
    rw [HXK.out] at x0 HZ3
    clear k1
    go_upto_region 4 with (fail)
    go_region_held3 (fun w' => w'.cell? ⟨W.heap.size, 1, none⟩ = some (.int .u64 x.f1) ∧ w'.cell? ⟨W.heap.size, 5, none⟩ = some (.slice A5 x.f5.length c5)) (go_keep) (fail)
    obtain ⟨w4, hw4⟩ : ∃ w4, w4 = ((w3.setCell ⟨W.heap.size + 2, 1, none⟩ (.int .u64 x.f1)).setCell ⟨W.heap.size + 2, 5, none⟩ (.slice A5 x.f5.length c5)).drew := ⟨_, rfl⟩
    rw [← hw4]
    have HZq := Aside0.mk (show w4.heap[W.heap.size + 2]? = some (.cells #[.int .i64 1, .int .u64 x.f1, .int .u64 0, .int .i64 0, .int .i64 0, .slice A5 x.f5.length c5, .slice none 0 0] 28 (0, 0)) by rw [hw4]; exact (show ((w3.setCell ⟨W.heap.size + 2, 1, none⟩ (.int .u64 x.f1)).setCell ⟨W.heap.size + 2, 5, none⟩ (.slice A5 x.f5.length c5)).heap[W.heap.size + 2]? = some (.cells #[.int .i64 1, .int .u64 x.f1, .int .u64 0, .int .i64 0, .int .i64 0, .slice A5 x.f5.length c5, .slice none 0 0] 28 (0, 0)) by simpa using (blk_set (blk_set HZ3.out 1 (.int .u64 x.f1)) 5 (.slice A5 x.f5.length c5))))
    have HYq := Aside0.mk (show w4.heap[W.heap.size + 1]? = some (.cells zcL 28 (0, 0)) by rw [hw4]; exact (blk_far (blk_far HY3.out (p := ⟨W.heap.size + 2, 1, none⟩) (by simp) (.int .u64 x.f1)) (p := ⟨W.heap.size + 2, 5, none⟩) (by simp) (.slice A5 x.f5.length c5)))
    have HBq := Aside0.mk (show Below W.heap.size W w4 by rw [hw4]; exact below_drew ((HB3.out.setCell (p := ⟨W.heap.size + 2, 1, none⟩) (by show W.heap.size ≤ W.heap.size + 2; omega) (.int .u64 x.f1)).setCell (p := ⟨W.heap.size + 2, 5, none⟩) (by show W.heap.size ≤ W.heap.size + 2; omega) (.slice A5 x.f5.length c5)))
    clear hw4 x0 y1 z1 g1 y5 z5 g5 HZ3 HY3 HB3 HX3
    go_upto_region 13 with (fail)
    have k0 : w4.cell? ⟨W.heap.size + 2, 0, none⟩ = some (.int .i64 1) := (blk_cell HZq.out 0).trans rfl
    have k1 : w4.cell? ⟨W.heap.size + 2, 1, none⟩ = some (.int .u64 x.f1) := (blk_cell HZq.out 1).trans rfl
    have k2 : w4.cell? ⟨W.heap.size + 2, 2, none⟩ = some (.int .u64 0) := (blk_cell HZq.out 2).trans rfl
    have k3 : w4.cell? ⟨W.heap.size + 2, 3, none⟩ = some (.int .i64 0) := (blk_cell HZq.out 3).trans rfl
    have k4 : w4.cell? ⟨W.heap.size + 2, 4, none⟩ = some (.int .i64 0) := (blk_cell HZq.out 4).trans rfl
    have k5 : w4.cell? ⟨W.heap.size + 2, 5, none⟩ = some (.slice A5 x.f5.length c5) := (blk_cell HZq.out 5).trans rfl
    have k6 : w4.cell? ⟨W.heap.size + 2, 6, none⟩ = some (.slice none 0 0) := (blk_cell HZq.out 6).trans rfl
    obtain ⟨⟨e0, e1, e2, e3, e4, e5, e6⟩, f0, f1, f2, f3, f4, f5, f6⟩ := boxF HYq.out
    go_wp2_with fail
    obtain ⟨w9, hw9⟩ : ∃ w9, w9 = (((((((w4.setCell ⟨W.heap.size + 1, 0, none⟩ (.int .i64 1)).setCell ⟨W.heap.size + 1, 1, none⟩ (.int .u64 x.f1)).setCell ⟨W.heap.size + 1, 2, none⟩ (.int .u64 0)).setCell ⟨W.heap.size + 1, 3, none⟩ (.int .i64 0)).setCell ⟨W.heap.size + 1, 4, none⟩ (.int .i64 0)).setCell ⟨W.heap.size + 1, 5, none⟩ (.slice A5 x.f5.length c5)).setCell ⟨W.heap.size + 1, 6, none⟩ (.slice none 0 0)) := ⟨_, rfl⟩
    rw [← hw9]
    obtain ⟨hX9, hf9⟩ := box7 HYq.out hw9
    clear e0 e1 e2 e3 e4 e5 e6
    have e0 : w9.cell? ⟨W.heap.size + 1, 0, none⟩ = some (.int .i64 1) := (blk_cell hX9 0).trans rfl
    have e1 : w9.cell? ⟨W.heap.size + 1, 1, none⟩ = some (.int .u64 x.f1) := (blk_cell hX9 1).trans rfl
    have e2 : w9.cell? ⟨W.heap.size + 1, 2, none⟩ = some (.int .u64 0) := (blk_cell hX9 2).trans rfl
    have e3 : w9.cell? ⟨W.heap.size + 1, 3, none⟩ = some (.int .i64 0) := (blk_cell hX9 3).trans rfl
    have e4 : w9.cell? ⟨W.heap.size + 1, 4, none⟩ = some (.int .i64 0) := (blk_cell hX9 4).trans rfl
    have e5 : w9.cell? ⟨W.heap.size + 1, 5, none⟩ = some (.slice A5 x.f5.length c5) := (blk_cell hX9 5).trans rfl
    have e6 : w9.cell? ⟨W.heap.size + 1, 6, none⟩ = some (.slice none 0 0) := (blk_cell hX9 6).trans rfl
    refine bodyPost_ret (by simp [results, Try.results85, go_sem, e0, e1, e2, e3, e4, e5, e6]; try rfl) rfl ?_
    exact ⟨HRQ.out, below_step' HBq.out (Below.refl _ _) hf9 (fun k hk => by omega)⟩
  by_cases k2 : x.f0 = 2
  · have HXK := Aside0.mk k2
    have y3 : w3.cell? ⟨W.heap.size, 3, none⟩ = some (.int .i64 x.f3) := (blk_cell HX3.out 3).trans rfl
    have z3 : w3.cell? ⟨W.heap.size + 2, 3, none⟩ = some (.int .i64 0) := (blk_cell HZ3.out 3).trans rfl
    have g3 : w3.frozen? ⟨W.heap.size + 2, 3, none⟩ = false := blk_frozen HZ3.out 3
    have y4 : w3.cell? ⟨W.heap.size, 4, none⟩ = some (.int .i64 x.f4) := (blk_cell HX3.out 4).trans rfl
    have z4 : w3.cell? ⟨W.heap.size + 2, 4, none⟩ = some (.int .i64 0) := (blk_cell HZ3.out 4).trans rfl
    have g4 : w3.frozen? ⟨W.heap.size + 2, 4, none⟩ = false := blk_frozen HZ3.out 4
    have HRQ := Aside0.mk (show .returned (.agg #[.int .i64 2, .int .u64 0, .int .u64 0, .int .i64 x.f3, .int .i64 x.f4, .slice none 0 0, .slice none 0 0]) = Ending.returned res by rw [HRES.out]; unfold onlyV onlyR; simp [HXK.out])
    rw [HXK.out] at x0 HZ3
    clear k2
    go_upto_region 6 with (fail)
    go_region_held3 (fun w' => w'.cell? ⟨W.heap.size, 3, none⟩ = some (.int .i64 x.f3) ∧ w'.cell? ⟨W.heap.size, 4, none⟩ = some (.int .i64 x.f4)) (go_keep) (fail)
    obtain ⟨w4, hw4⟩ : ∃ w4, w4 = ((w3.setCell ⟨W.heap.size + 2, 3, none⟩ (.int .i64 x.f3)).setCell ⟨W.heap.size + 2, 4, none⟩ (.int .i64 x.f4)).drew := ⟨_, rfl⟩
    rw [← hw4]
    have HZq := Aside0.mk (show w4.heap[W.heap.size + 2]? = some (.cells #[.int .i64 2, .int .u64 0, .int .u64 0, .int .i64 x.f3, .int .i64 x.f4, .slice none 0 0, .slice none 0 0] 28 (0, 0)) by rw [hw4]; exact (show ((w3.setCell ⟨W.heap.size + 2, 3, none⟩ (.int .i64 x.f3)).setCell ⟨W.heap.size + 2, 4, none⟩ (.int .i64 x.f4)).heap[W.heap.size + 2]? = some (.cells #[.int .i64 2, .int .u64 0, .int .u64 0, .int .i64 x.f3, .int .i64 x.f4, .slice none 0 0, .slice none 0 0] 28 (0, 0)) by simpa using (blk_set (blk_set HZ3.out 3 (.int .i64 x.f3)) 4 (.int .i64 x.f4))))
    have HYq := Aside0.mk (show w4.heap[W.heap.size + 1]? = some (.cells zcL 28 (0, 0)) by rw [hw4]; exact (blk_far (blk_far HY3.out (p := ⟨W.heap.size + 2, 3, none⟩) (by simp) (.int .i64 x.f3)) (p := ⟨W.heap.size + 2, 4, none⟩) (by simp) (.int .i64 x.f4)))
    have HBq := Aside0.mk (show Below W.heap.size W w4 by rw [hw4]; exact below_drew ((HB3.out.setCell (p := ⟨W.heap.size + 2, 3, none⟩) (by show W.heap.size ≤ W.heap.size + 2; omega) (.int .i64 x.f3)).setCell (p := ⟨W.heap.size + 2, 4, none⟩) (by show W.heap.size ≤ W.heap.size + 2; omega) (.int .i64 x.f4)))
    clear hw4 x0 y3 z3 g3 y4 z4 g4 HZ3 HY3 HB3 HX3
    go_upto_region 13 with (fail)
    have k0 : w4.cell? ⟨W.heap.size + 2, 0, none⟩ = some (.int .i64 2) := (blk_cell HZq.out 0).trans rfl
    have k1 : w4.cell? ⟨W.heap.size + 2, 1, none⟩ = some (.int .u64 0) := (blk_cell HZq.out 1).trans rfl
    have k2 : w4.cell? ⟨W.heap.size + 2, 2, none⟩ = some (.int .u64 0) := (blk_cell HZq.out 2).trans rfl
    have k3 : w4.cell? ⟨W.heap.size + 2, 3, none⟩ = some (.int .i64 x.f3) := (blk_cell HZq.out 3).trans rfl
    have k4 : w4.cell? ⟨W.heap.size + 2, 4, none⟩ = some (.int .i64 x.f4) := (blk_cell HZq.out 4).trans rfl
    have k5 : w4.cell? ⟨W.heap.size + 2, 5, none⟩ = some (.slice none 0 0) := (blk_cell HZq.out 5).trans rfl
    have k6 : w4.cell? ⟨W.heap.size + 2, 6, none⟩ = some (.slice none 0 0) := (blk_cell HZq.out 6).trans rfl
    obtain ⟨⟨e0, e1, e2, e3, e4, e5, e6⟩, f0, f1, f2, f3, f4, f5, f6⟩ := boxF HYq.out
    go_wp2_with fail
    obtain ⟨w9, hw9⟩ : ∃ w9, w9 = (((((((w4.setCell ⟨W.heap.size + 1, 0, none⟩ (.int .i64 2)).setCell ⟨W.heap.size + 1, 1, none⟩ (.int .u64 0)).setCell ⟨W.heap.size + 1, 2, none⟩ (.int .u64 0)).setCell ⟨W.heap.size + 1, 3, none⟩ (.int .i64 x.f3)).setCell ⟨W.heap.size + 1, 4, none⟩ (.int .i64 x.f4)).setCell ⟨W.heap.size + 1, 5, none⟩ (.slice none 0 0)).setCell ⟨W.heap.size + 1, 6, none⟩ (.slice none 0 0)) := ⟨_, rfl⟩
    rw [← hw9]
    obtain ⟨hX9, hf9⟩ := box7 HYq.out hw9
    clear e0 e1 e2 e3 e4 e5 e6
    have e0 : w9.cell? ⟨W.heap.size + 1, 0, none⟩ = some (.int .i64 2) := (blk_cell hX9 0).trans rfl
    have e1 : w9.cell? ⟨W.heap.size + 1, 1, none⟩ = some (.int .u64 0) := (blk_cell hX9 1).trans rfl
    have e2 : w9.cell? ⟨W.heap.size + 1, 2, none⟩ = some (.int .u64 0) := (blk_cell hX9 2).trans rfl
    have e3 : w9.cell? ⟨W.heap.size + 1, 3, none⟩ = some (.int .i64 x.f3) := (blk_cell hX9 3).trans rfl
    have e4 : w9.cell? ⟨W.heap.size + 1, 4, none⟩ = some (.int .i64 x.f4) := (blk_cell hX9 4).trans rfl
    have e5 : w9.cell? ⟨W.heap.size + 1, 5, none⟩ = some (.slice none 0 0) := (blk_cell hX9 5).trans rfl
    have e6 : w9.cell? ⟨W.heap.size + 1, 6, none⟩ = some (.slice none 0 0) := (blk_cell hX9 6).trans rfl
    refine bodyPost_ret (by simp [results, Try.results85, go_sem, e0, e1, e2, e3, e4, e5, e6]; try rfl) rfl ?_
    exact ⟨HRQ.out, below_step' HBq.out (Below.refl _ _) hf9 (fun k hk => by omega)⟩
  by_cases k3 : x.f0 = 3
  · have HXK := Aside0.mk k3
    have y3 : w3.cell? ⟨W.heap.size, 3, none⟩ = some (.int .i64 x.f3) := (blk_cell HX3.out 3).trans rfl
    have z3 : w3.cell? ⟨W.heap.size + 2, 3, none⟩ = some (.int .i64 0) := (blk_cell HZ3.out 3).trans rfl
    have g3 : w3.frozen? ⟨W.heap.size + 2, 3, none⟩ = false := blk_frozen HZ3.out 3
    have HRQ := Aside0.mk (show .returned (.agg #[.int .i64 3, .int .u64 0, .int .u64 0, .int .i64 x.f3, .int .i64 0, .slice none 0 0, .slice none 0 0]) = Ending.returned res by rw [HRES.out]; unfold onlyV onlyR; simp [HXK.out])
    rw [HXK.out] at x0 HZ3
    clear k3
    go_upto_region 8 with (fail)
    go_upto_region 13 with (fail)
    obtain ⟨w4, hw4⟩ : ∃ w4, w4 = (w3.setCell ⟨W.heap.size + 2, 3, none⟩ (.int .i64 x.f3)) := ⟨_, rfl⟩
    rw [← hw4]
    have HZq := Aside0.mk (show w4.heap[W.heap.size + 2]? = some (.cells #[.int .i64 3, .int .u64 0, .int .u64 0, .int .i64 x.f3, .int .i64 0, .slice none 0 0, .slice none 0 0] 28 (0, 0)) by rw [hw4]; exact (show (w3.setCell ⟨W.heap.size + 2, 3, none⟩ (.int .i64 x.f3)).heap[W.heap.size + 2]? = some (.cells #[.int .i64 3, .int .u64 0, .int .u64 0, .int .i64 x.f3, .int .i64 0, .slice none 0 0, .slice none 0 0] 28 (0, 0)) by simpa using (blk_set HZ3.out 3 (.int .i64 x.f3))))
    have HYq := Aside0.mk (show w4.heap[W.heap.size + 1]? = some (.cells zcL 28 (0, 0)) by rw [hw4]; exact (blk_far HY3.out (p := ⟨W.heap.size + 2, 3, none⟩) (by simp) (.int .i64 x.f3)))
    have HBq := Aside0.mk (show Below W.heap.size W w4 by rw [hw4]; exact (HB3.out.setCell (p := ⟨W.heap.size + 2, 3, none⟩) (by show W.heap.size ≤ W.heap.size + 2; omega) (.int .i64 x.f3)))
    clear hw4 x0 y3 z3 g3 HZ3 HY3 HB3 HX3
    have k0 : w4.cell? ⟨W.heap.size + 2, 0, none⟩ = some (.int .i64 3) := (blk_cell HZq.out 0).trans rfl
    have k1 : w4.cell? ⟨W.heap.size + 2, 1, none⟩ = some (.int .u64 0) := (blk_cell HZq.out 1).trans rfl
    have k2 : w4.cell? ⟨W.heap.size + 2, 2, none⟩ = some (.int .u64 0) := (blk_cell HZq.out 2).trans rfl
    have k3 : w4.cell? ⟨W.heap.size + 2, 3, none⟩ = some (.int .i64 x.f3) := (blk_cell HZq.out 3).trans rfl
    have k4 : w4.cell? ⟨W.heap.size + 2, 4, none⟩ = some (.int .i64 0) := (blk_cell HZq.out 4).trans rfl
    have k5 : w4.cell? ⟨W.heap.size + 2, 5, none⟩ = some (.slice none 0 0) := (blk_cell HZq.out 5).trans rfl
    have k6 : w4.cell? ⟨W.heap.size + 2, 6, none⟩ = some (.slice none 0 0) := (blk_cell HZq.out 6).trans rfl
    obtain ⟨⟨e0, e1, e2, e3, e4, e5, e6⟩, f0, f1, f2, f3, f4, f5, f6⟩ := boxF HYq.out
    go_wp2_with fail
    obtain ⟨w9, hw9⟩ : ∃ w9, w9 = (((((((w4.setCell ⟨W.heap.size + 1, 0, none⟩ (.int .i64 3)).setCell ⟨W.heap.size + 1, 1, none⟩ (.int .u64 0)).setCell ⟨W.heap.size + 1, 2, none⟩ (.int .u64 0)).setCell ⟨W.heap.size + 1, 3, none⟩ (.int .i64 x.f3)).setCell ⟨W.heap.size + 1, 4, none⟩ (.int .i64 0)).setCell ⟨W.heap.size + 1, 5, none⟩ (.slice none 0 0)).setCell ⟨W.heap.size + 1, 6, none⟩ (.slice none 0 0)) := ⟨_, rfl⟩
    rw [← hw9]
    obtain ⟨hX9, hf9⟩ := box7 HYq.out hw9
    clear e0 e1 e2 e3 e4 e5 e6
    have e0 : w9.cell? ⟨W.heap.size + 1, 0, none⟩ = some (.int .i64 3) := (blk_cell hX9 0).trans rfl
    have e1 : w9.cell? ⟨W.heap.size + 1, 1, none⟩ = some (.int .u64 0) := (blk_cell hX9 1).trans rfl
    have e2 : w9.cell? ⟨W.heap.size + 1, 2, none⟩ = some (.int .u64 0) := (blk_cell hX9 2).trans rfl
    have e3 : w9.cell? ⟨W.heap.size + 1, 3, none⟩ = some (.int .i64 x.f3) := (blk_cell hX9 3).trans rfl
    have e4 : w9.cell? ⟨W.heap.size + 1, 4, none⟩ = some (.int .i64 0) := (blk_cell hX9 4).trans rfl
    have e5 : w9.cell? ⟨W.heap.size + 1, 5, none⟩ = some (.slice none 0 0) := (blk_cell hX9 5).trans rfl
    have e6 : w9.cell? ⟨W.heap.size + 1, 6, none⟩ = some (.slice none 0 0) := (blk_cell hX9 6).trans rfl
    refine bodyPost_ret (by simp [results, Try.results85, go_sem, e0, e1, e2, e3, e4, e5, e6]; try rfl) rfl ?_
    exact ⟨HRQ.out, below_step' HBq.out (Below.refl _ _) hf9 (fun k hk => by omega)⟩
  by_cases k4 : x.f0 = 4
  · have HXK := Aside0.mk k4
    have y3 : w3.cell? ⟨W.heap.size, 3, none⟩ = some (.int .i64 x.f3) := (blk_cell HX3.out 3).trans rfl
    have z3 : w3.cell? ⟨W.heap.size + 2, 3, none⟩ = some (.int .i64 0) := (blk_cell HZ3.out 3).trans rfl
    have g3 : w3.frozen? ⟨W.heap.size + 2, 3, none⟩ = false := blk_frozen HZ3.out 3
    have y6 : w3.cell? ⟨W.heap.size, 6, none⟩ = some (.slice A6 x.f6.length c6) := (blk_cell HX3.out 6).trans rfl
    have z6 : w3.cell? ⟨W.heap.size + 2, 6, none⟩ = some (.slice none 0 0) := (blk_cell HZ3.out 6).trans rfl
    have g6 : w3.frozen? ⟨W.heap.size + 2, 6, none⟩ = false := blk_frozen HZ3.out 6
    have HRQ := Aside0.mk (show .returned (.agg #[.int .i64 4, .int .u64 0, .int .u64 0, .int .i64 x.f3, .int .i64 0, .slice none 0 0, .slice A6 x.f6.length c6]) = Ending.returned res by rw [HRES.out]; unfold onlyV onlyR; simp [HXK.out])
    rw [HXK.out] at x0 HZ3
    clear k4
    go_upto_region 10 with (fail)
    go_region_held3 (fun w' => w'.cell? ⟨W.heap.size, 3, none⟩ = some (.int .i64 x.f3) ∧ w'.cell? ⟨W.heap.size, 6, none⟩ = some (.slice A6 x.f6.length c6)) (go_keep) (fail)
    obtain ⟨w4, hw4⟩ : ∃ w4, w4 = ((w3.setCell ⟨W.heap.size + 2, 3, none⟩ (.int .i64 x.f3)).setCell ⟨W.heap.size + 2, 6, none⟩ (.slice A6 x.f6.length c6)).drew := ⟨_, rfl⟩
    rw [← hw4]
    have HZq := Aside0.mk (show w4.heap[W.heap.size + 2]? = some (.cells #[.int .i64 4, .int .u64 0, .int .u64 0, .int .i64 x.f3, .int .i64 0, .slice none 0 0, .slice A6 x.f6.length c6] 28 (0, 0)) by rw [hw4]; exact (show ((w3.setCell ⟨W.heap.size + 2, 3, none⟩ (.int .i64 x.f3)).setCell ⟨W.heap.size + 2, 6, none⟩ (.slice A6 x.f6.length c6)).heap[W.heap.size + 2]? = some (.cells #[.int .i64 4, .int .u64 0, .int .u64 0, .int .i64 x.f3, .int .i64 0, .slice none 0 0, .slice A6 x.f6.length c6] 28 (0, 0)) by simpa using (blk_set (blk_set HZ3.out 3 (.int .i64 x.f3)) 6 (.slice A6 x.f6.length c6))))
    have HYq := Aside0.mk (show w4.heap[W.heap.size + 1]? = some (.cells zcL 28 (0, 0)) by rw [hw4]; exact (blk_far (blk_far HY3.out (p := ⟨W.heap.size + 2, 3, none⟩) (by simp) (.int .i64 x.f3)) (p := ⟨W.heap.size + 2, 6, none⟩) (by simp) (.slice A6 x.f6.length c6)))
    have HBq := Aside0.mk (show Below W.heap.size W w4 by rw [hw4]; exact below_drew ((HB3.out.setCell (p := ⟨W.heap.size + 2, 3, none⟩) (by show W.heap.size ≤ W.heap.size + 2; omega) (.int .i64 x.f3)).setCell (p := ⟨W.heap.size + 2, 6, none⟩) (by show W.heap.size ≤ W.heap.size + 2; omega) (.slice A6 x.f6.length c6)))
    clear hw4 x0 y3 z3 g3 y6 z6 g6 HZ3 HY3 HB3 HX3
    go_upto_region 13 with (fail)
    have k0 : w4.cell? ⟨W.heap.size + 2, 0, none⟩ = some (.int .i64 4) := (blk_cell HZq.out 0).trans rfl
    have k1 : w4.cell? ⟨W.heap.size + 2, 1, none⟩ = some (.int .u64 0) := (blk_cell HZq.out 1).trans rfl
    have k2 : w4.cell? ⟨W.heap.size + 2, 2, none⟩ = some (.int .u64 0) := (blk_cell HZq.out 2).trans rfl
    have k3 : w4.cell? ⟨W.heap.size + 2, 3, none⟩ = some (.int .i64 x.f3) := (blk_cell HZq.out 3).trans rfl
    have k4 : w4.cell? ⟨W.heap.size + 2, 4, none⟩ = some (.int .i64 0) := (blk_cell HZq.out 4).trans rfl
    have k5 : w4.cell? ⟨W.heap.size + 2, 5, none⟩ = some (.slice none 0 0) := (blk_cell HZq.out 5).trans rfl
    have k6 : w4.cell? ⟨W.heap.size + 2, 6, none⟩ = some (.slice A6 x.f6.length c6) := (blk_cell HZq.out 6).trans rfl
    obtain ⟨⟨e0, e1, e2, e3, e4, e5, e6⟩, f0, f1, f2, f3, f4, f5, f6⟩ := boxF HYq.out
    go_wp2_with fail
    obtain ⟨w9, hw9⟩ : ∃ w9, w9 = (((((((w4.setCell ⟨W.heap.size + 1, 0, none⟩ (.int .i64 4)).setCell ⟨W.heap.size + 1, 1, none⟩ (.int .u64 0)).setCell ⟨W.heap.size + 1, 2, none⟩ (.int .u64 0)).setCell ⟨W.heap.size + 1, 3, none⟩ (.int .i64 x.f3)).setCell ⟨W.heap.size + 1, 4, none⟩ (.int .i64 0)).setCell ⟨W.heap.size + 1, 5, none⟩ (.slice none 0 0)).setCell ⟨W.heap.size + 1, 6, none⟩ (.slice A6 x.f6.length c6)) := ⟨_, rfl⟩
    rw [← hw9]
    obtain ⟨hX9, hf9⟩ := box7 HYq.out hw9
    clear e0 e1 e2 e3 e4 e5 e6
    have e0 : w9.cell? ⟨W.heap.size + 1, 0, none⟩ = some (.int .i64 4) := (blk_cell hX9 0).trans rfl
    have e1 : w9.cell? ⟨W.heap.size + 1, 1, none⟩ = some (.int .u64 0) := (blk_cell hX9 1).trans rfl
    have e2 : w9.cell? ⟨W.heap.size + 1, 2, none⟩ = some (.int .u64 0) := (blk_cell hX9 2).trans rfl
    have e3 : w9.cell? ⟨W.heap.size + 1, 3, none⟩ = some (.int .i64 x.f3) := (blk_cell hX9 3).trans rfl
    have e4 : w9.cell? ⟨W.heap.size + 1, 4, none⟩ = some (.int .i64 0) := (blk_cell hX9 4).trans rfl
    have e5 : w9.cell? ⟨W.heap.size + 1, 5, none⟩ = some (.slice none 0 0) := (blk_cell hX9 5).trans rfl
    have e6 : w9.cell? ⟨W.heap.size + 1, 6, none⟩ = some (.slice A6 x.f6.length c6) := (blk_cell hX9 6).trans rfl
    refine bodyPost_ret (by simp [results, Try.results85, go_sem, e0, e1, e2, e3, e4, e5, e6]; try rfl) rfl ?_
    exact ⟨HRQ.out, below_step' HBq.out (Below.refl _ _) hf9 (fun k hk => by omega)⟩
  by_cases k5 : x.f0 = 5
  · have HXK := Aside0.mk k5
    have y2 : w3.cell? ⟨W.heap.size, 2, none⟩ = some (.int .u64 x.f2) := (blk_cell HX3.out 2).trans rfl
    have z2 : w3.cell? ⟨W.heap.size + 2, 2, none⟩ = some (.int .u64 0) := (blk_cell HZ3.out 2).trans rfl
    have g2 : w3.frozen? ⟨W.heap.size + 2, 2, none⟩ = false := blk_frozen HZ3.out 2
    have HRQ := Aside0.mk (show .returned (.agg #[.int .i64 5, .int .u64 0, .int .u64 x.f2, .int .i64 0, .int .i64 0, .slice none 0 0, .slice none 0 0]) = Ending.returned res by rw [HRES.out]; unfold onlyV onlyR; simp [HXK.out])
    rw [HXK.out] at x0 HZ3
    clear k5
    go_upto_region 12 with (fail)
    go_upto_region 13 with (fail)
    obtain ⟨w4, hw4⟩ : ∃ w4, w4 = (w3.setCell ⟨W.heap.size + 2, 2, none⟩ (.int .u64 x.f2)) := ⟨_, rfl⟩
    rw [← hw4]
    have HZq := Aside0.mk (show w4.heap[W.heap.size + 2]? = some (.cells #[.int .i64 5, .int .u64 0, .int .u64 x.f2, .int .i64 0, .int .i64 0, .slice none 0 0, .slice none 0 0] 28 (0, 0)) by rw [hw4]; exact (show (w3.setCell ⟨W.heap.size + 2, 2, none⟩ (.int .u64 x.f2)).heap[W.heap.size + 2]? = some (.cells #[.int .i64 5, .int .u64 0, .int .u64 x.f2, .int .i64 0, .int .i64 0, .slice none 0 0, .slice none 0 0] 28 (0, 0)) by simpa using (blk_set HZ3.out 2 (.int .u64 x.f2))))
    have HYq := Aside0.mk (show w4.heap[W.heap.size + 1]? = some (.cells zcL 28 (0, 0)) by rw [hw4]; exact (blk_far HY3.out (p := ⟨W.heap.size + 2, 2, none⟩) (by simp) (.int .u64 x.f2)))
    have HBq := Aside0.mk (show Below W.heap.size W w4 by rw [hw4]; exact (HB3.out.setCell (p := ⟨W.heap.size + 2, 2, none⟩) (by show W.heap.size ≤ W.heap.size + 2; omega) (.int .u64 x.f2)))
    clear hw4 x0 y2 z2 g2 HZ3 HY3 HB3 HX3
    have k0 : w4.cell? ⟨W.heap.size + 2, 0, none⟩ = some (.int .i64 5) := (blk_cell HZq.out 0).trans rfl
    have k1 : w4.cell? ⟨W.heap.size + 2, 1, none⟩ = some (.int .u64 0) := (blk_cell HZq.out 1).trans rfl
    have k2 : w4.cell? ⟨W.heap.size + 2, 2, none⟩ = some (.int .u64 x.f2) := (blk_cell HZq.out 2).trans rfl
    have k3 : w4.cell? ⟨W.heap.size + 2, 3, none⟩ = some (.int .i64 0) := (blk_cell HZq.out 3).trans rfl
    have k4 : w4.cell? ⟨W.heap.size + 2, 4, none⟩ = some (.int .i64 0) := (blk_cell HZq.out 4).trans rfl
    have k5 : w4.cell? ⟨W.heap.size + 2, 5, none⟩ = some (.slice none 0 0) := (blk_cell HZq.out 5).trans rfl
    have k6 : w4.cell? ⟨W.heap.size + 2, 6, none⟩ = some (.slice none 0 0) := (blk_cell HZq.out 6).trans rfl
    obtain ⟨⟨e0, e1, e2, e3, e4, e5, e6⟩, f0, f1, f2, f3, f4, f5, f6⟩ := boxF HYq.out
    go_wp2_with fail
    obtain ⟨w9, hw9⟩ : ∃ w9, w9 = (((((((w4.setCell ⟨W.heap.size + 1, 0, none⟩ (.int .i64 5)).setCell ⟨W.heap.size + 1, 1, none⟩ (.int .u64 0)).setCell ⟨W.heap.size + 1, 2, none⟩ (.int .u64 x.f2)).setCell ⟨W.heap.size + 1, 3, none⟩ (.int .i64 0)).setCell ⟨W.heap.size + 1, 4, none⟩ (.int .i64 0)).setCell ⟨W.heap.size + 1, 5, none⟩ (.slice none 0 0)).setCell ⟨W.heap.size + 1, 6, none⟩ (.slice none 0 0)) := ⟨_, rfl⟩
    rw [← hw9]
    obtain ⟨hX9, hf9⟩ := box7 HYq.out hw9
    clear e0 e1 e2 e3 e4 e5 e6
    have e0 : w9.cell? ⟨W.heap.size + 1, 0, none⟩ = some (.int .i64 5) := (blk_cell hX9 0).trans rfl
    have e1 : w9.cell? ⟨W.heap.size + 1, 1, none⟩ = some (.int .u64 0) := (blk_cell hX9 1).trans rfl
    have e2 : w9.cell? ⟨W.heap.size + 1, 2, none⟩ = some (.int .u64 x.f2) := (blk_cell hX9 2).trans rfl
    have e3 : w9.cell? ⟨W.heap.size + 1, 3, none⟩ = some (.int .i64 0) := (blk_cell hX9 3).trans rfl
    have e4 : w9.cell? ⟨W.heap.size + 1, 4, none⟩ = some (.int .i64 0) := (blk_cell hX9 4).trans rfl
    have e5 : w9.cell? ⟨W.heap.size + 1, 5, none⟩ = some (.slice none 0 0) := (blk_cell hX9 5).trans rfl
    have e6 : w9.cell? ⟨W.heap.size + 1, 6, none⟩ = some (.slice none 0 0) := (blk_cell hX9 6).trans rfl
    refine bodyPost_ret (by simp [results, Try.results85, go_sem, e0, e1, e2, e3, e4, e5, e6]; try rfl) rfl ?_
    exact ⟨HRQ.out, below_step' HBq.out (Below.refl _ _) hf9 (fun k hk => by omega)⟩
  have HRQ := Aside0.mk (show .returned (.agg #[.int .i64 x.f0, .int .u64 0, .int .u64 0, .int .i64 0, .int .i64 0, .slice none 0 0, .slice none 0 0]) = Ending.returned res by rw [HRES.out]; unfold onlyV onlyR; simp [k1, k2, k3, k4, k5])
  have n1 : (x.f0 == 1) = false := by rw [beq_eq_false_iff_ne]; exact k1
  have n2 : (x.f0 == 2) = false := by rw [beq_eq_false_iff_ne]; exact k2
  have n3 : (x.f0 == 3) = false := by rw [beq_eq_false_iff_ne]; exact k3
  have n4 : (x.f0 == 4) = false := by rw [beq_eq_false_iff_ne]; exact k4
  have n5 : (x.f0 == 5) = false := by rw [beq_eq_false_iff_ne]; exact k5
  have HZq := HZ3
  have HYq := HY3
  have HBq := HB3
  clear HZ3 HY3 HB3
  go_upto_region 13 with (fail)
  clear n1 n2 n3 n4 n5 k1 k2 k3 k4 k5
  have k0 : w3.cell? ⟨W.heap.size + 2, 0, none⟩ = some (.int .i64 x.f0) := (blk_cell HZq.out 0).trans rfl
  have k1 : w3.cell? ⟨W.heap.size + 2, 1, none⟩ = some (.int .u64 0) := (blk_cell HZq.out 1).trans rfl
  have k2 : w3.cell? ⟨W.heap.size + 2, 2, none⟩ = some (.int .u64 0) := (blk_cell HZq.out 2).trans rfl
  have k3 : w3.cell? ⟨W.heap.size + 2, 3, none⟩ = some (.int .i64 0) := (blk_cell HZq.out 3).trans rfl
  have k4 : w3.cell? ⟨W.heap.size + 2, 4, none⟩ = some (.int .i64 0) := (blk_cell HZq.out 4).trans rfl
  have k5 : w3.cell? ⟨W.heap.size + 2, 5, none⟩ = some (.slice none 0 0) := (blk_cell HZq.out 5).trans rfl
  have k6 : w3.cell? ⟨W.heap.size + 2, 6, none⟩ = some (.slice none 0 0) := (blk_cell HZq.out 6).trans rfl
  obtain ⟨⟨e0, e1, e2, e3, e4, e5, e6⟩, f0, f1, f2, f3, f4, f5, f6⟩ := boxF HYq.out
  go_wp2_with fail
  obtain ⟨w9, hw9⟩ : ∃ w9, w9 = (((((((w3.setCell ⟨W.heap.size + 1, 0, none⟩ (.int .i64 x.f0)).setCell ⟨W.heap.size + 1, 1, none⟩ (.int .u64 0)).setCell ⟨W.heap.size + 1, 2, none⟩ (.int .u64 0)).setCell ⟨W.heap.size + 1, 3, none⟩ (.int .i64 0)).setCell ⟨W.heap.size + 1, 4, none⟩ (.int .i64 0)).setCell ⟨W.heap.size + 1, 5, none⟩ (.slice none 0 0)).setCell ⟨W.heap.size + 1, 6, none⟩ (.slice none 0 0)) := ⟨_, rfl⟩
  rw [← hw9]
  obtain ⟨hX9, hf9⟩ := box7 HYq.out hw9
  clear e0 e1 e2 e3 e4 e5 e6
  have e0 : w9.cell? ⟨W.heap.size + 1, 0, none⟩ = some (.int .i64 x.f0) := (blk_cell hX9 0).trans rfl
  have e1 : w9.cell? ⟨W.heap.size + 1, 1, none⟩ = some (.int .u64 0) := (blk_cell hX9 1).trans rfl
  have e2 : w9.cell? ⟨W.heap.size + 1, 2, none⟩ = some (.int .u64 0) := (blk_cell hX9 2).trans rfl
  have e3 : w9.cell? ⟨W.heap.size + 1, 3, none⟩ = some (.int .i64 0) := (blk_cell hX9 3).trans rfl
  have e4 : w9.cell? ⟨W.heap.size + 1, 4, none⟩ = some (.int .i64 0) := (blk_cell hX9 4).trans rfl
  have e5 : w9.cell? ⟨W.heap.size + 1, 5, none⟩ = some (.slice none 0 0) := (blk_cell hX9 5).trans rfl
  have e6 : w9.cell? ⟨W.heap.size + 1, 6, none⟩ = some (.slice none 0 0) := (blk_cell hX9 6).trans rfl
  refine bodyPost_ret (by simp [results, Try.results85, go_sem, e0, e1, e2, e3, e4, e5, e6]; try rfl) rfl ?_
  exact ⟨HRQ.out, below_step' HBq.out (Below.refl _ _) hf9 (fun k hk => by omega)⟩
end

section
open Go.Shelf Go.RowKit Go.Proofs.YtngjaaldidmgjaaW.PrintWords Go.Proofs.YtngjaaldidmgjaaW.PrintLast Go.Proofs.YtngjaaldidmgjaaW.PrintMore
set_option linter.unusedVariables false
set_option linter.unusedSimpArgs false

theorem rts_is (n : Int) : P.quiverref24_ts.f n = some (okTs n) := by
  unfold P.quiverref24_ts.f okTs
  by_cases h : n ≥ 1
  · rw [if_pos h]; congr 1; exact decide_eq_decide.mpr ⟨fun h2 => ⟨h, h2⟩, fun h2 => h2.2⟩
  · rw [if_neg h, decide_eq_false (fun h2 => h h2.1)]
theorem rcent_is (l : List (List Int)) : P.quiverref12_Centroids.f l = some (decide (0 < l.length ∧ l.length ≤ 6)) := by
  unfold P.quiverref12_Centroids.f
  by_cases h : (l.length : Int) ≥ 1
  · rw [if_pos h]; congr 1; exact decide_eq_decide.mpr ⟨fun h2 => ⟨by omega, by omega⟩, fun h2 => by omega⟩
  · rw [if_neg h, decide_eq_false (fun h2 => by omega)]
theorem rd_getD (l : List (List Int)) (i : Nat) : P.rd_L4 l (i : Int) = l.getD i [] := by unfold P.rd_L4; rw [Int.toNat_natCast]
theorem rall_l1 (l : List (List Int)) (hl : l.length ≤ 9223372036854775807) : ∀ (d i k : Nat), i + d = l.length → d < k → P.quiverref12_All.l1 k l l (l.length : Int) (i : Int) = some (if (l.drop i).all (fun v => decide (v.length = (l.getD 0 []).length)) = true then 0 else 151)
  | 0, i, k + 1, h, _ => by rw [P.quiverref12_All.l1, if_neg (by omega), List.drop_eq_nil_of_le (by omega)]; rfl
  | d + 1, i, k + 1, h, hk => by
    rw [P.quiverref12_All.l1, if_pos (by omega), if_pos (by omega), if_pos (by omega), if_pos (by omega), rd_getD, show (0 : Int) = ((0 : Nat) : Int) from rfl, rd_getD, drop_at l i [] (by omega), List.all_cons]
    by_cases e : (l.getD i []).length = (l.getD 0 []).length
    · rw [if_pos (by omega), w64 (by omega) (by omega), show ((i : Int) + 1) = ((i + 1 : Nat) : Int) by omega, rall_l1 l hl d (i + 1) k (by omega) (by omega), decide_eq_true e, Bool.true_and]
      rfl
    · rw [if_neg (by omega), decide_eq_false e, Bool.false_and]; rfl
theorem rall_l0 (l : List (List Int)) (hl : l.length ≤ 9223372036854775807) (hv : ∀ v ∈ l, v.length ≤ 9223372036854775807) : ∀ (d i k : Nat), i + d = l.length → d + l.length + 1 < k → (∀ v ∈ l, v.length < k - d - 1) → P.quiverref12_All.l0 k l l (l.length : Int) (i : Int) = some (if (l.drop i).all right = true then (if l.all (fun v => decide (v.length = (l.getD 0 []).length)) = true then 0 else 151) else 150)
  | 0, i, k + 1, h, hk, hv2 => by
    rw [P.quiverref12_All.l0, if_neg (by omega), List.drop_eq_nil_of_le (by omega), show (0 : Int) = ((0 : Nat) : Int) from rfl, rall_l1 l hl l.length 0 k (by omega) (by omega), List.drop_zero]
    rfl
  | d + 1, i, k + 1, h, hk, hv2 => by
    have hi : i < l.length := by omega
    have hm : l.getD i [] ∈ l := by rw [getD_of_lt l i _ hi]; exact List.getElem_mem hi
    have h3 := hv2 _ hm
    rw [P.quiverref12_All.l0, if_pos (by omega), if_pos (by omega), if_pos (by omega), rd_getD, right_is k _ (by omega) (hv _ hm), Option.bind_some, drop_at l i [] hi, List.all_cons]
    cases hr : right (l.getD i []) with
    | false => rw [if_neg (by decide), Bool.false_and]; rfl
    | true =>
      rw [if_pos rfl, w64 (by omega) (by omega), show ((i : Int) + 1) = ((i + 1 : Nat) : Int) by omega, rall_l0 l hl hv d (i + 1) k (by omega) (by omega) (fun v hv3 => by have := hv2 v hv3; omega), Bool.true_and]
def allN (l : List (List Int)) : Int := if l.all right = true then (if l.all (fun v => decide (v.length = (l.getD 0 []).length)) = true then 0 else 151) else 150
theorem rall_is (l : List (List Int)) (hl : l.length ≤ 9223372036854775807) (hv : ∀ v ∈ l, v.length ≤ 9223372036854775807) : ∃ k, P.quiverref12_All.f k l = some (allN l) := by
  obtain ⟨M, hM⟩ : ∃ M : Nat, ∀ v ∈ l, v.length ≤ M := ⟨9223372036854775807, hv⟩
  refine ⟨M + l.length + l.length + 5, ?_⟩
  unfold P.quiverref12_All.f allN
  rw [show (0 : Int) = ((0 : Nat) : Int) from rfl, rall_l0 l hl hv l.length 0 _ (by omega) (by omega) (fun v h => by have := hM v h; omega), List.drop_zero]
  rfl
theorem cent_all (l : List (List Int)) : centOk l = (decide (0 < l.length ∧ l.length ≤ 6) && decide (allN l = 0)) := by
  unfold centOk allN
  congr 1
  have e : l.all (okCe l) = (l.all right && l.all (fun v => decide (v.length = (l.getD 0 []).length))) := by
    rw [Bool.eq_iff_iff, Bool.and_eq_true, List.all_eq_true, List.all_eq_true, List.all_eq_true]
    unfold okCe
    simp only [Bool.and_eq_true]
    exact ⟨fun h => ⟨fun v hv => (h v hv).1, fun v hv => (h v hv).2⟩, fun h v hv => ⟨h.1 v hv, h.2 v hv⟩⟩
  rw [e]
  cases l.all right <;> cases l.all (fun v => decide (v.length = (l.getD 0 []).length)) <;> rfl
theorem same_only (x : Rc) : recOk x = (sameR x (onlyR x) && okR x.f0 x.f1 x.f2 x.f3 x.f4 x.f5 x.f6) := by
  obtain ⟨a0, a1, a2, a3, a4, a5, a6⟩ := x
  unfold recOk
  rw [Bool.and_comm (okR _ _ _ _ _ _ _)]
  congr 1
  rw [Bool.eq_iff_iff, sameR_iff]
  unfold onlyR
  simp only [Bool.and_eq_true, decide_eq_true_eq, P.S28.mk.injEq, true_and, lf1, lf2, lf3, lf4, lf5, lf6]
  by_cases k1 : a0 = 1
  · subst k1; simp; exact ⟨fun h => by simp_all, fun h => by simp_all⟩
  by_cases k2 : a0 = 2
  · subst k2; simp; exact ⟨fun h => by simp_all, fun h => by simp_all⟩
  by_cases k3 : a0 = 3
  · subst k3; simp; exact ⟨fun h => by simp_all, fun h => by simp_all⟩
  by_cases k4 : a0 = 4
  · subst k4; simp; exact ⟨fun h => by simp_all, fun h => by simp_all⟩
  by_cases k5 : a0 = 5
  · subst k5; simp; exact ⟨fun h => by simp_all, fun h => by simp_all⟩
  · simp [k1, k2, k3, k4, k5]; exact ⟨fun h => by simp_all, fun h => by simp_all⟩
end

section
open Go.Shelf Go.RowKit Go.Proofs.YtngjaaldidmgjaaW.PrintWords Go.Proofs.YtngjaaldidmgjaaW.PrintLast Go.Proofs.YtngjaaldidmgjaaW.PrintMore
set_option linter.unusedVariables false
set_option linter.unusedSimpArgs false

set_option maxHeartbeats 8000000 in
set_option maxRecDepth 100000 in
theorem refRight (x : Rc) (A5 : Option Addr) (c5 : Nat) (A6 : Option Addr) (c6 : Nat) (W : World) (h5 : Kd.C kW W A5 x.f5.length x.f5) (h6 : Kd.C kV W A6 x.f6.length x.f6) (hc6 : x.f6.length ≤ c6) :
    Calls Try.prog 49 #[.agg (rcL x A5 c5 A6 c6)] W fun e w' => e = .returned (.bool (recOk x)) ∧ Below W.heap.size W w' := by
  obtain ⟨w1, hw1⟩ : ∃ w1, w1 = W.alloc (.cells (rcL x A5 c5 A6 c6) 28) := ⟨_, rfl⟩
  have hB1 : Below W.heap.size W w1 := by rw [hw1]; exact below_alloc (Below.refl _ _) _
  have hX := show w1.heap[W.heap.size]? = some (.cells (rcL x A5 c5 A6 c6) 28 (0, 0)) by rw [hw1]; exact heap_alloc_new W _
  obtain ⟨ov, hov⟩ : ∃ ov, ov = onlyV x A5 c5 A6 c6 := ⟨_, rfl⟩
  obtain ⟨s, hs⟩ : ∃ s, s = sameR x (onlyR x) := ⟨_, rfl⟩
  obtain ⟨res, hres⟩ : ∃ res, res = recOk x := ⟨_, rfl⟩
  have HRES := Aside0.mk (show res = (s && okR x.f0 x.f1 x.f2 x.f3 x.f4 x.f5 x.f6) by rw [hres, hs]; exact same_only x)
  have HO := Aside0.mk (fun (p : Gr w1) => show Calls Try.prog 85 #[.agg (rcL x A5 c5 A6 c6)] p.w fun e w' => e = .returned ov ∧ Below p.w.heap.size p.w w' by rw [hov]; exact refOnly x A5 c5 A6 c6 p.w)
  have HS := Aside0.mk (fun (p : Gr w1) => show Calls Try.prog 48 #[.agg (rcL x A5 c5 A6 c6), ov] p.w fun e w' => e = .returned (.bool s) ∧ Below p.w.heap.size p.w w' by
    rw [hov, hs]
    have hh := below_step hB1 p.h
    refine refRS x (onlyR x) A5 c5 A6 c6 _ _ _ _ p.w (Kd.C_below h5 hh) (Kd.C_below h6 hh) ?_ ?_
    · unfold onlyR
      by_cases k : x.f0 = 1
      · simp only [if_pos k]; exact Kd.C_below h5 hh
      · simp only [if_neg k]; exact Kd.C_nil _ _
    · unfold onlyR
      by_cases k : x.f0 = 4
      · simp only [if_pos k]; exact Kd.C_below h6 hh
      · simp only [if_neg k]; exact Kd.C_nil _ _)
  rw [← hres]
  clear hov hs hres
  obtain ⟨a0, a1, a2, a3, a4, l5, l6⟩ := x
  simp only at h5 h6 hc6 hX HRES HO HS hw1
  have hm5 := Kd.C_max h5
  have hm6 := Kd.C_max h6
  have HV6 := Aside0.mk (C_vlen h6)
  have H5 := Aside0.mk h5
  have H6 := Aside0.mk h6
  have HX := Aside0.mk hX
  have HB1 := Aside0.mk hB1
  have HW1 := Aside0.mk hw1
  obtain ⟨q0, q1, q2, q3, q4, q5, q6⟩ := rcF hX
  simp only at q0 q1 q2 q3 q4 q5 q6
  have Q0 := fun p => Gr.cell q0 p
  have Q1 := fun p => Gr.cell q1 p
  have Q2 := fun p => Gr.cell q2 p
  have Q3 := fun p => Gr.cell q3 p
  have Q4 := fun p => Gr.cell q4 p
  have Q5 := fun p => Gr.cell q5 p
  have Q6 := fun p => Gr.cell q6 p
  clear h5 h6 hX hB1 hw1 q0 q1 q2 q3 q4 q5 q6
  go_enter Try.func49, Try.ntmps49
  go_upto_region 1 with (fail)
  rw [HW1.out.symm]
  refine wp_region_gr (by kernel_rfl) (by kernel_rfl) ?_
  repeat (go_big_quiet_step (first | (go_at_call 85; exact Calls.gr_of (HO.out _)) | (go_at_call 48; exact Calls.gr_of (HS.out _))))
  refine wpQuiet_nil ?_
  intro w2 hw'
  have hb2 : Below w1.heap.size w1 w2 := by obtain ⟨p, rfl⟩ := hw'; exact p.h
  have HB2 := Aside0.mk (below_step HB1.out hb2)
  have HX2 := Aside0.mk (blk_below HX.out hb2)
  clear hw' hb2 Q0 Q1 Q2 Q3 Q4 Q5 Q6 HO HS HW1 HX HB1
  cases s with
  | false =>
    rw [Bool.false_and] at HRES
    go_wp2_with fail
    go_returns
    exact ⟨by rw [HRES.out]; rfl, HB2.out⟩
  | true =>
    rw [Bool.true_and] at HRES
    have q0 : w2.cell? ⟨W.heap.size, 0, none⟩ = some (.int .i64 a0) := (blk_cell HX2.out 0).trans rfl
    by_cases k1 : a0 = 1
    case pos =>
      subst k1
      have q1 : w2.cell? ⟨W.heap.size, 1, none⟩ = some (.int .u64 a1) := (blk_cell HX2.out 1).trans rfl
      have q5 : w2.cell? ⟨W.heap.size, 5, none⟩ = some (.slice A5 l5.length c5) := (blk_cell HX2.out 5).trans rfl
      have HE := Aside0.mk (show okR 1 a1 a2 a3 a4 l5 l6 = (okTs a1 && (decide (0 < l5.length) && wrsOk l5)) from rfl)
      rw [HE.out] at HRES
      clear HE
      have HT := Aside0.mk (P.quiverref24_ts.calls a1 (okTs a1) w2 (rts_is a1))
      generalize okTs a1 = t at *
      go_wp2_with fail
      refine HT.out.mono ?_
      rintro e w3 ⟨rfl, hd⟩
      have HB3 := Aside0.mk (below_step HB2.out hd.below)
      have HX3 := Aside0.mk (blk_below HX2.out hd.below)
      clear hd q0 q1 q5
      have q1 : w3.cell? ⟨W.heap.size, 1, none⟩ = some (.int .u64 a1) := (blk_cell HX3.out 1).trans rfl
      have q5 : w3.cell? ⟨W.heap.size, 5, none⟩ = some (.slice A5 l5.length c5) := (blk_cell HX3.out 5).trans rfl
      cases t with
      | false =>
        go_wp2_with fail
        go_returns
        exact ⟨by rw [HRES.out]; rfl, HB3.out⟩
      | true =>
        rw [Bool.true_and] at HRES
        by_cases hl : 0 < l5.length
        case neg =>
          have hz : l5 = [] := List.eq_nil_of_length_eq_zero (by omega)
          subst hz
          go_wp2_with fail
          go_returns
          exact ⟨by rw [HRES.out]; rfl, HB3.out⟩
        have hz : decide ((l5.length : Int) > 0) = true := decide_eq_true (by omega)
        have hz2 : decide (0 < (l5.length : Int)) = true := decide_eq_true (by omega)
        have hz3 : decide (0 < l5.length) = true := decide_eq_true hl
        rw [hz3, Bool.true_and] at HRES
        have HT2 := Aside0.mk (refWR A5 c5 l5 w3 (Kd.C_below H5.out HB3.out))
        generalize wrsOk l5 = u at *
        clear hl
        go_wp2_with fail
        refine HT2.out.mono ?_
        rintro e w4 ⟨rfl, hd⟩
        have HB4 := Aside0.mk (below_step HB3.out hd)
        have HX4 := Aside0.mk (blk_below HX3.out hd)
        clear hd q1 q5
        go_wp2_with fail
        go_returns
        exact ⟨by rw [HRES.out]; rfl, HB4.out⟩
    by_cases k2 : a0 = 2
    case pos =>
      subst k2
      have q3 : w2.cell? ⟨W.heap.size, 3, none⟩ = some (.int .i64 a3) := (blk_cell HX2.out 3).trans rfl
      have q4 : w2.cell? ⟨W.heap.size, 4, none⟩ = some (.int .i64 a4) := (blk_cell HX2.out 4).trans rfl
      have HE := Aside0.mk (show okR 2 a1 a2 a3 a4 l5 l6 = (okColl a3 && (decide (1 ≤ a4) && decide (a4 ≤ 4))) from rfl)
      rw [HE.out] at HRES
      clear HE
      have HT := Aside0.mk (P.quiverref16_Coll.calls a3 (okColl a3) w2 (rcoll_is a3))
      generalize okColl a3 = t at *
      go_wp2_with fail
      refine HT.out.mono ?_
      rintro e w3 ⟨rfl, hd⟩
      have HB3 := Aside0.mk (below_step HB2.out hd.below)
      have HX3 := Aside0.mk (blk_below HX2.out hd.below)
      clear hd q0 q3 q4
      have q3 : w3.cell? ⟨W.heap.size, 3, none⟩ = some (.int .i64 a3) := (blk_cell HX3.out 3).trans rfl
      have q4 : w3.cell? ⟨W.heap.size, 4, none⟩ = some (.int .i64 a4) := (blk_cell HX3.out 4).trans rfl
      cases t with
      | false =>
        go_wp2_with fail
        go_returns
        exact ⟨by rw [HRES.out]; rfl, HB3.out⟩
      | true =>
        rw [Bool.true_and] at HRES
        by_cases h1 : 1 ≤ a4
        case neg =>
          have b1 : decide (1 ≤ a4) = false := decide_eq_false h1
          rw [b1] at HRES
          clear h1
          go_wp2_with fail
          go_returns
          exact ⟨by rw [HRES.out]; rfl, HB3.out⟩
        rw [decide_eq_true h1, Bool.true_and] at HRES
        go_wp2_with fail
        go_returns
        exact ⟨by rw [HRES.out]; rfl, HB3.out⟩
    by_cases k3 : a0 = 3
    case pos =>
      subst k3
      have q3 : w2.cell? ⟨W.heap.size, 3, none⟩ = some (.int .i64 a3) := (blk_cell HX2.out 3).trans rfl
      have HE := Aside0.mk (show okR 3 a1 a2 a3 a4 l5 l6 = okColl a3 from rfl)
      rw [HE.out] at HRES
      clear HE
      have HT := Aside0.mk (P.quiverref16_Coll.calls a3 (okColl a3) w2 (rcoll_is a3))
      generalize okColl a3 = t at *
      go_wp2_with fail
      refine HT.out.mono ?_
      rintro e w3 ⟨rfl, hd⟩
      have HB3 := Aside0.mk (below_step HB2.out hd.below)
      have HX3 := Aside0.mk (blk_below HX2.out hd.below)
      clear hd q0 q3
      have q3 : w3.cell? ⟨W.heap.size, 3, none⟩ = some (.int .i64 a3) := (blk_cell HX3.out 3).trans rfl
      go_wp2_with fail
      go_returns
      exact ⟨by rw [HRES.out]; rfl, HB3.out⟩
    by_cases k4 : a0 = 4
    case pos =>
      subst k4
      have q3 : w2.cell? ⟨W.heap.size, 3, none⟩ = some (.int .i64 a3) := (blk_cell HX2.out 3).trans rfl
      have q6 : w2.cell? ⟨W.heap.size, 6, none⟩ = some (.slice A6 l6.length c6) := (blk_cell HX2.out 6).trans rfl
      have HE := Aside0.mk (show okR 4 a1 a2 a3 a4 l5 l6 = (okColl a3 && (decide (0 < l6.length ∧ l6.length ≤ 6) && decide (allN l6 = 0))) from (show okR 4 a1 a2 a3 a4 l5 l6 = (okColl a3 && centOk l6) from rfl).trans (by rw [cent_all]))
      rw [HE.out] at HRES
      clear HE
      have HT := Aside0.mk (P.quiverref16_Coll.calls a3 (okColl a3) w2 (rcoll_is a3))
      generalize okColl a3 = t at *
      go_wp2_with fail
      refine HT.out.mono ?_
      rintro e w3 ⟨rfl, hd⟩
      have HB3 := Aside0.mk (below_step HB2.out hd.below)
      have HX3 := Aside0.mk (blk_below HX2.out hd.below)
      clear hd q0 q3 q6
      have q3 : w3.cell? ⟨W.heap.size, 3, none⟩ = some (.int .i64 a3) := (blk_cell HX3.out 3).trans rfl
      have q6 : w3.cell? ⟨W.heap.size, 6, none⟩ = some (.slice A6 l6.length c6) := (blk_cell HX3.out 6).trans rfl
      cases t with
      | false =>
        go_wp2_with fail
        go_returns
        exact ⟨by rw [HRES.out]; rfl, HB3.out⟩
      | true =>
        rw [Bool.true_and] at HRES
        have HT2 := Aside0.mk (P.quiverref12_Centroids.calls A6 c6 l6 _ w3 (Kd.C_below H6.out HB3.out) hc6 (rcent_is l6))
        generalize decide (0 < l6.length ∧ l6.length ≤ 6) = u at *
        go_wp2_with fail
        refine HT2.out.mono ?_
        rintro e w4 ⟨rfl, hd⟩
        have HB4 := Aside0.mk (below_step HB3.out hd.below)
        have HX4 := Aside0.mk (blk_below HX3.out hd.below)
        clear hd q3 q6
        have q3 : w4.cell? ⟨W.heap.size, 3, none⟩ = some (.int .i64 a3) := (blk_cell HX4.out 3).trans rfl
        have q6 : w4.cell? ⟨W.heap.size, 6, none⟩ = some (.slice A6 l6.length c6) := (blk_cell HX4.out 6).trans rfl
        cases u with
        | false =>
          go_wp2_with fail
          go_returns
          exact ⟨by rw [HRES.out]; rfl, HB4.out⟩
        | true =>
          rw [Bool.true_and] at HRES
          obtain ⟨ka, hka⟩ := rall_is l6 hm6 HV6.out
          have HT3 := Aside0.mk (P.quiverref12_All.calls ka A6 c6 l6 _ w4 (Kd.C_below H6.out HB4.out) hc6 hka)
          clear hka
          generalize allN l6 = n at *
          go_wp2_with fail
          refine HT3.out.mono ?_
          rintro e w5 ⟨rfl, hd⟩
          have HB5 := Aside0.mk (below_step HB4.out hd.below)
          have HX5 := Aside0.mk (blk_below HX4.out hd.below)
          clear hd q3 q6
          by_cases hn : n = 0
          case pos =>
            subst hn
            go_wp2_with fail
            go_returns
            exact ⟨by rw [HRES.out]; rfl, HB5.out⟩
          have hn2 : (n == 0) = false := by rw [beq_eq_false_iff_ne]; exact hn
          rw [decide_eq_false hn] at HRES
          clear hn
          go_wp2_with fail
          go_returns
          exact ⟨by rw [HRES.out]; rfl, HB5.out⟩
    by_cases k5 : a0 = 5
    case pos =>
      subst k5
      have q2 : w2.cell? ⟨W.heap.size, 2, none⟩ = some (.int .u64 a2) := (blk_cell HX2.out 2).trans rfl
      have HE := Aside0.mk (show okR 5 a1 a2 a3 a4 l5 l6 = okTs a2 from rfl)
      rw [HE.out] at HRES
      clear HE
      have HT := Aside0.mk (P.quiverref24_ts.calls a2 (okTs a2) w2 (rts_is a2))
      generalize okTs a2 = t at *
      go_wp2_with fail
      refine HT.out.mono ?_
      rintro e w3 ⟨rfl, hd⟩
      have HB3 := Aside0.mk (below_step HB2.out hd.below)
      have HX3 := Aside0.mk (blk_below HX2.out hd.below)
      clear hd q0 q2
      have q2 : w3.cell? ⟨W.heap.size, 2, none⟩ = some (.int .u64 a2) := (blk_cell HX3.out 2).trans rfl
      go_wp2_with fail
      go_returns
      exact ⟨by rw [HRES.out]; rfl, HB3.out⟩
    have n1 : (a0 == 1) = false := by rw [beq_eq_false_iff_ne]; exact k1
    have n2 : (a0 == 2) = false := by rw [beq_eq_false_iff_ne]; exact k2
    have n3 : (a0 == 3) = false := by rw [beq_eq_false_iff_ne]; exact k3
    have n4 : (a0 == 4) = false := by rw [beq_eq_false_iff_ne]; exact k4
    have n5 : (a0 == 5) = false := by rw [beq_eq_false_iff_ne]; exact k5
    have HE := Aside0.mk (show okR a0 a1 a2 a3 a4 l5 l6 = false by unfold okR; rw [if_neg k1, if_neg k2, if_neg k3, if_neg k4, if_neg k5])
    rw [HE.out] at HRES
    clear k1 k2 k3 k4 k5
    go_wp2_with fail
    go_returns
    exact ⟨by rw [HRES.out]; rfl, HB2.out⟩
end

end Go.Proofs.Ytngjaaldidmgjaa.G
