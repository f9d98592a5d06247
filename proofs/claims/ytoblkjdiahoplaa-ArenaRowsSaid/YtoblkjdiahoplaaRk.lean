/- ArenaRows: the walk. -/
import Derived.Test.YtoblkjdiahoplaaRp
import Derived.Test.YtoblkjdiahoplaaOv
import Derived.Test.YtoblkjdiahoplaaPx10
import Derived.BigQuiet
namespace Go.Proofs.Ytoblkjdiahoplaa.G
open Go.Shelf Go.RowKit Go.Proofs.YtoblkjdiahoplaaW.PrintWords Go.Proofs.YtoblkjdiahoplaaW.PrintLast Go.Proofs.YtoblkjdiahoplaaW.PrintMore
set_option linter.unusedVariables false
set_option linter.unusedSimpArgs false

set_option maxRecDepth 100000 in
set_option maxHeartbeats 16000000 in
theorem rows_all (A0 : Option Addr) (c0 : Nat) (l0 : List Cell) (w : World) (hc0 : l0.length ≤ c0) (hr0 : Kd.C kC w A0 l0.length l0) :
    Calls Try.prog 4 #[.agg #[.slice A0 l0.length c0]] w fun e w' => e = .returned (.bool true) ∧ Below w.heap.size w w' := by
  obtain ⟨ov, hov⟩ := ovr_is l0
  obtain ⟨w1, hw1⟩ : ∃ w1, w1 = w.alloc (.cells #[.slice A0 l0.length c0] 26) := ⟨_, rfl⟩
  have HB1 := Aside0.mk (show Below w.heap.size w w1 by rw [hw1]; exact (Below.refl _ _).alloc (Nat.le_refl _) _)
  have HBA := Aside0.mk (show w1.heap[w.heap.size]? = some (.cells #[.slice A0 l0.length c0] 26 (0, 0)) by rw [hw1]; exact heap_alloc_new w _)
  have HW1 := Aside0.mk hw1
  have HR0 := Aside0.mk hr0
  have HC0 := Aside0.mk hc0
  have HOV := Aside0.mk hov
  clear hr0 hc0 hov hw1
  go_enter Try.func4, Try.ntmps4
  go_upto_region 1 with (fail)
  rw [← HW1.out]
  go_wp2_with fail
  refine (P.quiverlaw09_wakes.calls true w1 P.quiverlaw09_wakes.is).mono ?_
  rintro e1 w2 ⟨rfl, hd⟩
  have HB2 := Aside0.mk (below_step HB1.out hd)
  have HBA2 := Aside0.mk (blk_below HBA.out hd)
  have q0 : w2.cell? ⟨w.heap.size, 0, none⟩ = some (.slice A0 l0.length c0) := (blk_cell HBA2.out 0).trans rfl
  clear hd
  go_wp2_with fail
  refine (P.quiverlaw09_over.calls 200 A0 c0 l0 ov w2 (Kd.C_below HR0.out HB2.out) HC0.out HOV.out).mono ?_
  rintro e1 w3 ⟨rfl, hd⟩
  have HB3 := Aside0.mk (below_step HB2.out hd)
  have HBA3 := Aside0.mk (blk_below HBA2.out hd)
  have q0 : w3.cell? ⟨w.heap.size, 0, none⟩ = some (.slice A0 l0.length c0) := (blk_cell HBA3.out 0).trans rfl
  clear hd
  cases ov with
  | true =>
    go_wp2_with fail
    go_returns
    exact ⟨rfl, HB3.out⟩
  | false =>
  cases hok : arenaOk l0 with
  | false =>
    have HBR := Aside0.mk (arena_ByRowsA.calls (fun _ => True) A0 c0 l0 [] 190 w3 (V_of_C (Kd.C_below HR0.out HB3.out) HC0.out) (by unfold arena_ByRowsA.f; rw [hok]; rfl))
    clear hok
    go_wp2_with fail
    refine HBR.out.mono ?_
    rintro e1 w4 ⟨v0_, rfl, hN, hd⟩
    obtain ⟨A5, c5, rfl, _, _⟩ := Kd.N_reads hN
    have HB4 := Aside0.mk (below_step HB3.out hd)
    clear hN hd
    go_wp2_with fail
    go_returns
    exact ⟨rfl, HB4.out⟩
  | true =>
    have HBR := Aside0.mk (arena_ByRowsA.calls (fun _ => True) A0 c0 l0 (rowsL l0) 0 w3 (V_of_C (Kd.C_below HR0.out HB3.out) HC0.out) (by unfold arena_ByRowsA.f; rw [hok]; rfl))
    have HPK := Aside0.mk (packed_is l0 hok)
    have HPL := Aside0.mk (pack_len l0 hok)
    have HPR := Aside0.mk (pack_rows l0 hok)
    have HPO := Aside0.mk (pack_ok l0 hok)
    have HPF := Aside0.mk (pack_free l0 hok)
    have HRS := Aside0.mk (rows_side l0)
    have HRO := Aside0.mk (rows_ok l0 hok)
    have hle := rows_le l0 hok
    have HPA := Aside0.mk (show packL l0 = rowsL l0 ++ List.replicate (96 - (rowsL l0).length) zC from rfl)
    clear hok
    generalize packL l0 = pl at *
    generalize rowsL l0 = rl at *
    go_wp2_with fail
    refine HBR.out.mono ?_
    rintro e1 w4 ⟨v0_, rfl, hN, hd⟩
    obtain ⟨A5, c5, rfl, hc5, hC5⟩ := Kd.N_reads hN
    have HB4 := Aside0.mk (below_step HB3.out hd)
    have HBA4 := Aside0.mk (blk_below HBA3.out hd)
    have HC5 := Aside0.mk hC5
    have HL5 := Aside0.mk hc5
    clear hN hd hC5 hc5 q0
    go_wp2_with fail
    refine (P.arena_Packed.calls 200 (fun _ => True) A5 c5 rl pl 0 w4 (V_of_C HC5.out HL5.out) HPK.out).mono ?_
    rintro e1 w5 ⟨v1_, rfl, hN, hd⟩
    obtain ⟨A6, c6, rfl, hc6, hC6⟩ := Kd.N_reads hN
    obtain ⟨w6, hw6⟩ : ∃ w6, w6 = w5.alloc (.cells #[.slice A6 pl.length c6] 26) := ⟨_, rfl⟩
    have hb6 : Below w5.heap.size w5 w6 := by rw [hw6]; exact (Below.refl _ _).alloc (Nat.le_refl _) _
    have HB6 := Aside0.mk (below_step (below_step HB4.out hd) hb6)
    have HBA6 := Aside0.mk (blk_below (blk_below HBA4.out hd) hb6)
    have HBP6 := Aside0.mk (show w6.heap[w5.heap.size]? = some (.cells #[.slice A6 pl.length c6] 26 (0, 0)) by rw [hw6]; exact heap_alloc_new w5 _)
    have HC6 := Aside0.mk (Kd.C_below hC6 hb6)
    have HL6 := Aside0.mk hc6
    have HD5 := Aside0.mk (Kd.C_below (Kd.C_below HC5.out hd) hb6)
    have HW6 := Aside0.mk hw6
    clear hN hd hC6 hc6 hb6 hw6 HC5
    have q0 : w6.cell? ⟨w.heap.size, 0, none⟩ = some (.slice A0 l0.length c0) := (blk_cell HBA6.out 0).trans rfl
    have q1 : w6.cell? ⟨w5.heap.size, 0, none⟩ = some (.slice A6 pl.length c6) := (blk_cell HBP6.out 0).trans rfl
    have Q0 := fun p => Gr.cell q0 p
    have Q1 := fun p => Gr.cell q1 p
    have HF0 := Aside0.mk (fun (p : Gr w6) => arena_Free.calls A0 c0 l0 (96 - (rl.length : Int)) p.w (Kd.C_below (Kd.C_below HR0.out HB6.out) p.h) HC0.out (by unfold arena_Free.f; rw [HPF.out.2]))
    have HF1 := Aside0.mk (fun (p : Gr w6) => arena_Free.calls A6 c6 pl (96 - (rl.length : Int)) p.w (Kd.C_below HC6.out p.h) HL6.out (by unfold arena_Free.f; rw [HPF.out.1]))
    go_upto_region 9 with (fail)
    rw [← HW6.out]
    have hz9 : (96 : Int) - (96 - (rl.length : Int)) = (rl.length : Int) := by omega
    have hwr : IntKind.i64.wrap (rl.length : Int) = (rl.length : Int) := by rw [IntKind.wrap_i64]; omega
    have hf0 : ((96 - (rl.length : Int)) != (96 - (rl.length : Int))) = false := by simp
    go_wp2_with fail
    refine wp_region_gr (by kernel_rfl) (by kernel_rfl) ?_
    repeat (go_big_quiet_step (first | (go_at_call_of 17 (Value.agg #[.slice A0 l0.length c0]); exact Calls.gr_of (HF0.out _)) | (go_at_call_of 17 (Value.agg #[.slice A6 pl.length c6]); exact Calls.gr_of (HF1.out _))))
    refine wpQuiet_nil ?_
    intro w7 hw'
    have hb7 : Below w6.heap.size w6 w7 := by obtain ⟨p, rfl⟩ := hw'; exact p.h
    have HB7 := Aside0.mk (below_step HB6.out hb7)
    have HBP7 := Aside0.mk (blk_below HBP6.out hb7)
    have HC7 := Aside0.mk (Kd.C_below HC6.out hb7)
    have HD7 := Aside0.mk (Kd.C_below HD5.out hb7)
    have q2 : w7.cell? ⟨w5.heap.size, 0, none⟩ = some (.slice A6 pl.length c6) := (blk_cell HBP7.out 0).trans rfl
    have HBR2 := Aside0.mk (arena_ByRowsA.calls (fun _ => True) A6 c6 pl rl 0 w7 (V_of_C HC7.out HL6.out) (by unfold arena_ByRowsA.f; rw [if_pos HPO.out, HPR.out]))
    clear hw' hb7 hwr Q0 Q1 q0 q1 HF0 HF1 HBP6 HC6 HD5 HB6 HBA6 HW6 hz9 hf0 HBR
    go_wp2_with fail
    refine HBR2.out.mono ?_
    rintro e1 w8 ⟨v2_, rfl, hN, hd⟩
    obtain ⟨A8, c8, rfl, hc8, hC8⟩ := Kd.N_reads hN
    have HB8 := Aside0.mk (below_step HB7.out hd)
    have HBP8 := Aside0.mk (blk_below HBP7.out hd)
    have HP8 := Aside0.mk (Kd.C_below HC7.out hd)
    have HD8 := Aside0.mk (Kd.C_below HD7.out hd)
    have HC8 := Aside0.mk hC8
    clear hN hd hC8 hc8 q2 HBR2 HC7 HD7 HBP7 HB7
    have hll : ((rl.length : Int) != (rl.length : Int)) = false := by simp
    have hmx : rl.length ≤ 9223372036854775807 := by omega
    go_wp2_with fail
    go_loopg [60] rl.length (fun gg v60 wr => ∃ i : Nat, v60 = .int .i64 (i : Int) ∧ i ≤ rl.length ∧ rl.length - i ≤ gg ∧ Aside0 (Below w8.heap.size w8 wr))
    case atStart => exact ⟨0, rfl, by omega, by omega, ⟨Below.refl _ _⟩⟩
    case round =>
      obtain ⟨i, rfl, hi0, hg, HBi⟩ := hrel
      by_cases hlt : i < rl.length
      · have hltz : (i : Int) < (rl.length : Int) := by omega
        have hltp : (i : Int) < (pl.length : Int) := by have := HPL.out; omega
        obtain ⟨ad, Ax, cx, hA, x0, x1, x2, x3, x4, hlx, hCx⟩ := P.at_T36 (Kd.C_below HD8.out HBi.out) (i : Int) (by omega) (by omega)
        obtain ⟨bd, Ay, cy, hB, y0, y1, y2, y3, y4, hly, hCy⟩ := P.at_T36 (Kd.C_below HC8.out HBi.out) (i : Int) (by omega) (by omega)
        obtain ⟨pd, Ap, cp, hP, p0, p1, p2, p3, p4, hlp, hCp⟩ := P.at_T36 (Kd.C_below HP8.out HBi.out) (i : Int) (by omega) (by omega)
        have hpx : P.rd_T36 pl (i : Int) = P.rd_T36 rl (i : Int) := by
          show cellAt pl i = cellAt rl i
          rw [cellAt_lt rl i hlt, cellAt_lt pl i (by omega)]
          simp only [HPA.out]
          rw [List.getElem_append_left]
        have hux : (P.rd_T36 rl (i : Int)).f0 = true := by
          have := (HRO.out (rl[i]) (List.getElem_mem _)).1
          rw [← cellAt_lt rl i hlt] at this
          exact this
        subst hA
        subst hB
        subst hP
        rw [hpx, hux] at p0
        simp only [Int.toNat_natCast] at x0 x1 x2 x3 x4 y0 y1 y2 y3 y4 p0 p1 p2 p3 p4
        have hsame := fun (p : Gr wr) => codec_SameVersion.calls (P.rd_T36 rl (i : Int)).f2.f0 (P.rd_T36 rl (i : Int)).f2.f1 Ay cy (P.rd_T36 rl (i : Int)).f2.f2 (P.rd_T36 rl (i : Int)).f2.f0 (P.rd_T36 rl (i : Int)).f2.f1 Ax cx (P.rd_T36 rl (i : Int)).f2.f2 true p.w (Kd.C_below hCy p.h) hly (Kd.C_below hCx p.h) hlx (by unfold codec_SameVersion.f; simp)
        have HSM := Aside0.mk hsame
        have hq : wr.cell? ⟨w5.heap.size, 0, none⟩ = some (.slice (some pd) pl.length c6) := (blk_cell (blk_below HBP8.out HBi.out) 0).trans rfl
        have HRSi := Aside0.mk (fun (j : Nat) (e : i = j + 1) => HRS.out j (by omega))
        clear hsame hpx hCx hCy hCp hlx hly hlp hux
        have HSX := Aside0.mk (show ∀ v : Cell, v = P.rd_T36 rl (i : Int) → v = cellAt rl i from fun v h => h)
        obtain ⟨x, hx⟩ : ∃ x, x = P.rd_T36 rl (i : Int) := ⟨_, rfl⟩
        rw [← hx] at x0 x1 x2 x3 x4 y0 y1 y2 y3 y4 HSM
        have HX := Aside0.mk (show x = cellAt rl i from hx)
        clear hx HSX
        have nx1 : (x.f1 != x.f1) = false := by simp
        have X0 := fun p => Gr.cell x0 p
        have Y0 := fun p => Gr.cell y0 p
        have X1 := fun p => Gr.cell x1 p
        have Y1 := fun p => Gr.cell y1 p
        have X2 := fun p => Gr.cell x2 p
        have Y2 := fun p => Gr.cell y2 p
        have X3 := fun p => Gr.cell x3 p
        have Y3 := fun p => Gr.cell y3 p
        have X4 := fun p => Gr.cell x4 p
        have Y4 := fun p => Gr.cell y4 p
        have P0 := fun p => Gr.cell p0 p
        have QB := fun p => Gr.cell hq p
        clear x0 x1 x2 x3 x4 y0 y1 y2 y3 y4 p0 p1 p2 p3 p4 hq
        by_cases hi1 : i = 0
        · have hgt : decide ((0 : Int) < (i : Int)) = false := decide_eq_false (by omega)
          have hgn : decide (0 < i) = false := decide_eq_false (by omega)
          have hgm : ¬ 0 < i := by omega
          clear hi1 HRSi
          go_wp2_with fail
          refine wp_region_gr (by kernel_rfl) (by kernel_rfl) ?_
          simp only [List.append_eq, List.cons_append, List.nil_append]
          repeat (go_big_quiet_step ((go_at_call 18; exact Calls.gr_of (HSM.out _))))
          refine wpQuiet_nil ?_
          intro w9 hw'
          have HB9 := Aside0.mk (below_step HBi.out (show Below wr.heap.size wr w9 by obtain ⟨p, rfl⟩ := hw'; exact p.h))
          clear hw'
          go_wp2_with fail
          go_roundg (rl.length - (i + 1))
          case measure => omega
          case rel => exact ⟨i + 1, by go_num, by omega, by omega, HB9⟩
        · obtain ⟨j, rfl⟩ : ∃ j, i = j + 1 := ⟨i - 1, by omega⟩
          have hgt : (0 : Int) < (j : Int) + 1 := by omega
          have hwj : IntKind.i64.wrap (j : Int) = (j : Int) := by rw [IntKind.wrap_i64]; omega
          have hjl : (j : Int) < (rl.length : Int) := by omega
          have hl1 : (j : Int) + 1 < (rl.length : Int) := by omega
          have hl2 : (j : Int) + 1 < (pl.length : Int) := by omega
          have hj0 : (0 : Int) ≤ (j : Int) + 1 := by omega
          have hje : ((j : Int) + 1).toNat = j + 1 := by omega
          obtain ⟨ad', Az, cz, hA, z0, z1, z2, z3, z4, hlz, hCz⟩ := P.at_T36 (Kd.C_below HD8.out HBi.out) (j : Int) (by omega) (by omega)
          injection hA with hA
          subst hA
          simp only [Int.toNat_natCast] at z0 z1 z2 z3 z4
          obtain ⟨y, hy⟩ : ∃ y, y = P.rd_T36 rl (j : Int) := ⟨_, rfl⟩
          rw [← hy] at z0 z1 z2 z3 z4
          have hs1 : decide (x.f1 < y.f1) = false := by rw [HX.out, hy]; exact (HRSi.out j rfl).1
          have HS2 := Aside0.mk (show y.f1 = x.f1 → decide (x.f2.f0 < y.f2.f0) = false by rw [HX.out, hy]; exact (HRSi.out j rfl).2)
          have Z1 := fun p => Gr.cell z1 p
          have Z2 := fun p => Gr.cell z2 p
          clear hi1 HRSi hy hlz hCz z0 z1 z2 z3 z4
          by_cases he : y.f1 = x.f1
          · have he1 : (y.f1 == x.f1) = true := by rw [he]; simp
            have hs2 := HS2.out he
            rw [he] at hs1 Z1
            have he3 : (x.f1 == x.f1) = true := by simp
            clear he he1
            go_wp2_with fail
            refine wp_region_gr (by kernel_rfl) (by kernel_rfl) ?_
            simp only [List.append_eq, List.cons_append, List.nil_append]
            repeat (go_big_quiet_step ((go_at_call 18; exact Calls.gr_of (HSM.out _))))
            refine wpQuiet_nil ?_
            intro w9 hw'
            have HB9 := Aside0.mk (below_step HBi.out (show Below wr.heap.size wr w9 by obtain ⟨p, rfl⟩ := hw'; exact p.h))
            clear hw'
            go_wp2_with fail
            go_roundg (rl.length - ((j + 1) + 1))
            case measure => omega
            case rel => exact ⟨(j + 1) + 1, by go_num, by omega, by omega, HB9⟩
          · have he1 : (y.f1 == x.f1) = false := by rw [beq_eq_false_iff_ne]; exact he
            clear he HS2
            go_wp2_with fail
            refine wp_region_gr (by kernel_rfl) (by kernel_rfl) ?_
            simp only [List.append_eq, List.cons_append, List.nil_append]
            repeat (go_big_quiet_step ((go_at_call 18; exact Calls.gr_of (HSM.out _))))
            refine wpQuiet_nil ?_
            intro w9 hw'
            have HB9 := Aside0.mk (below_step HBi.out (show Below wr.heap.size wr w9 by obtain ⟨p, rfl⟩ := hw'; exact p.h))
            clear hw'
            go_wp2_with fail
            go_roundg (rl.length - ((j + 1) + 1))
            case measure => omega
            case rel => exact ⟨(j + 1) + 1, by go_num, by omega, by omega, HB9⟩
      · have hltz : ¬ (i : Int) < (rl.length : Int) := by omega
        go_wp2_with fail
        go_returns
        exact ⟨rfl, below_step HB8.out HBi.out⟩

theorem rows_walk (x0 : List Cell) (cs0 : Array Value) (w : World) (hK0 : (Kd.slice 22 kC).K w x0 cs0.toList) {Wf0 : Prop} (w0 : Wf0) :
    Calls Try.prog 4 #[.agg cs0] w fun e w' => e = .returned (.bool true) ∧ Below w.heap.size w w' := by
  obtain ⟨A0, c0, e0, h0, hC0⟩ := hK0
  obtain rfl : cs0 = #[.slice A0 x0.length c0] := by apply Array.toList_inj.1; exact e0
  exact rows_all A0 c0 x0 w h0 hC0

end Go.Proofs.Ytoblkjdiahoplaa.G
