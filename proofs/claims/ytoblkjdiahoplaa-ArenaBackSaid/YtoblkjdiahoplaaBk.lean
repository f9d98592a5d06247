/- ArenaBack: the walk. -/
import Derived.Test.YtoblkjdiahoplaaFl
import Derived.Test.YtoblkjdiahoplaaA5
import Derived.Test.YtoblkjdiahoplaaA6
import Derived.Test.YtoblkjdiahoplaaOv
import Derived.Test.YtoblkjdiahoplaaPx10
import Derived.BigQuiet
namespace Go.Proofs.Ytoblkjdiahoplaa.G
open Go.Shelf Go.RowKit Go.Proofs.YtoblkjdiahoplaaW.PrintWords Go.Proofs.YtoblkjdiahoplaaW.PrintLast Go.Proofs.YtoblkjdiahoplaaW.PrintMore
set_option linter.unusedVariables false
set_option linter.unusedSimpArgs false

theorem put_bad (l : List Cell) (id b e : Int) (v : List Int) (h : arenaOk l = false) : P.arena_Put.f l id b e v = some ([], 0, 190) := by
  unfold P.arena_Put.f arena_Check.f
  rw [h, Option.bind_some]; rfl
theorem put_ver (l : List Cell) (id b e : Int) (v : List Int) (h : arenaOk l = true) (hv : rightVer b e v = false) : P.arena_Put.f l id b e v = some ([], 0, 171) := by
  unfold P.arena_Put.f arena_Check.f
  rw [h, Option.bind_some, checkver_is, hv]; rfl
theorem sameC_self (x : Cell) : sameC x x = true := by unfold sameC; simp
theorem eqCells_self (l : List Cell) : eqCells l l = true := by
  unfold eqCells
  rw [decide_eq_true rfl, Bool.true_and]
  exact List.all_eq_true.mpr (fun k _ => sameC_self _)
theorem cell_zero (x : Cell) (h : cellOk x = true) (hu : x.f0 = false) : x = zC := by
  unfold cellOk at h
  rw [hu, if_neg (by decide)] at h
  obtain ⟨h1, h2, h3, h4⟩ := of_decide_eq_true h
  obtain ⟨f0, f1, ⟨g0, g1, g2⟩⟩ := x
  simp only at hu h1 h2 h3 h4
  subst hu h1 h2 h3 h4
  rfl
theorem back_set (l : List Cell) (n : Nat) (c : Cell) (hn : n < l.length) (ho : arenaOk l = true) (hu : (l.getD n P.z36).f0 = false) : (l.set n c).set n P.z36 = l := by
  unfold arenaOk at ho
  rw [Bool.and_eq_true] at ho
  rw [getD_of_lt l n _ hn] at hu
  have := cell_zero l[n] (List.all_eq_true.mp ho.2 _ (List.getElem_mem _)) hu
  rw [List.set_set]
  show l.set n zC = l
  rw [← this, List.set_getElem_self]
theorem of_mem (l : List Cell) (n : Nat) (id : Int) (hn : n < l.length) (hu : (cellAt l n).f0 = true) (hi : (cellAt l n).f1 = id) : (n : Int) ∈ ofL l id := by
  unfold ofL
  rw [(isort_perm (lt := lt_i (cfO l)) _).mem_iff]
  unfold ofI usedI
  refine List.mem_map.mpr ⟨n, List.mem_filter.mpr ⟨List.mem_filter.mpr ⟨List.mem_range.mpr hn, hu⟩, decide_eq_true hi⟩, rfl⟩

set_option maxRecDepth 100000 in
set_option maxHeartbeats 16000000 in
theorem back_all (A0 : Option Addr) (c0 : Nat) (l0 : List Cell) (id b e : Int) (A1 : Option Addr) (c1 : Nat) (v : List Int) (w : World)
    (hc0 : l0.length ≤ c0) (hr0 : Kd.C kC w A0 l0.length l0) (hc1 : v.length ≤ c1) (hr1 : Kd.C (Kd.int .i32) w A1 v.length v) :
    Calls Try.prog 7 #[.agg #[.slice A0 l0.length c0], .int .u64 id, .agg #[.int .u64 b, .int .u64 e, .slice A1 v.length c1]] w fun e w' => e = .returned (.bool true) ∧ Below w.heap.size w w' := by
  obtain ⟨ov, hov⟩ := ovr_is l0
  obtain ⟨w1, hw1⟩ : ∃ w1, w1 = (w.alloc (.cells #[.slice A0 l0.length c0] 26)).alloc (.cells #[.int .u64 b, .int .u64 e, .slice A1 v.length c1] 34) := ⟨_, rfl⟩
  have hsz : (w.alloc (.cells #[.slice A0 l0.length c0] 26)).heap.size = w.heap.size + 1 := by simp
  have HB1 := Aside0.mk (show Below w.heap.size w w1 by rw [hw1]; exact ((Below.refl _ _).alloc (Nat.le_refl _) _).alloc (by simp) _)
  have HBA := Aside0.mk (show w1.heap[w.heap.size]? = some (.cells #[.slice A0 l0.length c0] 26 (0, 0)) by rw [hw1]; exact (Below.heap_alloc _ _ _ (by simp)).trans (heap_alloc_new w _))
  have HBV := Aside0.mk (show w1.heap[w.heap.size + 1]? = some (.cells #[.int .u64 b, .int .u64 e, .slice A1 v.length c1] 34 (0, 0)) by rw [hw1, ← hsz]; exact heap_alloc_new _ _)
  have HW1 := Aside0.mk hw1
  have HR0 := Aside0.mk hr0
  have HR1 := Aside0.mk hr1
  have HC0 := Aside0.mk hc0
  have HC1 := Aside0.mk hc1
  have HOV := Aside0.mk hov
  clear hr0 hr1 hc0 hc1 hov hw1 hsz
  go_enter Try.func7, Try.ntmps7
  go_upto_region 1 with (fail)
  rw [← HW1.out]
  go_wp2_with fail
  refine (P.quiverlaw09_wakes.calls true w1 P.quiverlaw09_wakes.is).mono ?_
  rintro e1 w2 ⟨rfl, hd⟩
  have HB2 := Aside0.mk (below_step HB1.out hd)
  have HBA2 := Aside0.mk (blk_below HBA.out hd)
  have HBV2 := Aside0.mk (blk_below HBV.out hd)
  have q0 : w2.cell? ⟨w.heap.size, 0, none⟩ = some (.slice A0 l0.length c0) := (blk_cell HBA2.out 0).trans rfl
  clear hd
  go_wp2_with fail
  refine (P.quiverlaw09_over.calls 200 A0 c0 l0 ov w2 (Kd.C_below HR0.out HB2.out) HC0.out HOV.out).mono ?_
  rintro e1 w3 ⟨rfl, hd⟩
  have HB3 := Aside0.mk (below_step HB2.out hd)
  have HBA3 := Aside0.mk (blk_below HBA2.out hd)
  have HBV3 := Aside0.mk (blk_below HBV2.out hd)
  have q0 : w3.cell? ⟨w.heap.size, 0, none⟩ = some (.slice A0 l0.length c0) := (blk_cell HBA3.out 0).trans rfl
  have q1 : w3.cell? ⟨w.heap.size + 1, 0, none⟩ = some (.int .u64 b) := (blk_cell HBV3.out 0).trans rfl
  have q2 : w3.cell? ⟨w.heap.size + 1, 1, none⟩ = some (.int .u64 e) := (blk_cell HBV3.out 1).trans rfl
  have q3 : w3.cell? ⟨w.heap.size + 1, 2, none⟩ = some (.slice A1 v.length c1) := (blk_cell HBV3.out 2).trans rfl
  clear hd
  cases ov with
  | true =>
    go_wp2_with fail
    go_returns
    exact ⟨rfl, HB3.out⟩
  | false =>
  by_cases hl50 : 50 < v.length
  · have hlv2 : decide (50 < v.length) = true := decide_eq_true hl50
    have hlv3 : decide (50 < (v.length : Int)) = true := decide_eq_true (by omega)
    go_wp2_with fail
    go_returns
    exact ⟨rfl, HB3.out⟩
  have hlv2 : decide (50 < v.length) = false := decide_eq_false hl50
  have hlv3 : decide (50 < (v.length : Int)) = false := decide_eq_false (by omega)
  have HCP := Aside0.mk (fun L at_ er (h : P.arena_Put.f l0 id b e v = some (L, at_, er)) => P.arena_Put.calls (fun _ => True) A0 c0 l0 id b e A1 c1 v L at_ er w3 (V_of_C (Kd.C_below HR0.out HB3.out) HC0.out) (Kd.C_below HR1.out HB3.out) HC1.out h)
  clear hl50
  cases hok : arenaOk l0 with
  | false =>
    have HP := Aside0.mk (HCP.out _ _ _ (put_bad l0 id b e v hok))
    clear hok
    go_wp2_with fail
    refine HP.out.mono ?_
    rintro e1 w4 ⟨v0_, rfl, hN, hd⟩
    obtain ⟨A5, c5, rfl, _, _⟩ := Kd.N_reads hN
    have HB4 := Aside0.mk (below_step HB3.out hd)
    have HBY := Aside0.mk (fun o => (HB4.out.alloc HB4.out.size o))
    clear hN hd
    go_wp2_with fail
    go_returns
    exact ⟨rfl, HBY.out _⟩
  | true =>
  cases hv : rightVer b e v with
  | false =>
    have HP := Aside0.mk (HCP.out _ _ _ (put_ver l0 id b e v hok hv))
    clear hok hv
    go_wp2_with fail
    refine HP.out.mono ?_
    rintro e1 w4 ⟨v0_, rfl, hN, hd⟩
    obtain ⟨A5, c5, rfl, _, _⟩ := Kd.N_reads hN
    have HB4 := Aside0.mk (below_step HB3.out hd)
    have HBY := Aside0.mk (fun o => (HB4.out.alloc HB4.out.size o))
    clear hN hd
    go_wp2_with fail
    go_returns
    exact ⟨rfl, HBY.out _⟩
  | true =>
  by_cases hf : freeC l0 = 0
  · obtain ⟨hp, hf0⟩ := fill_end l0 id b e v hok hv hf
    have HP := Aside0.mk (HCP.out _ _ _ hp)
    have HF0 := Aside0.mk (fun W h => arena_Free.calls A0 c0 l0 0 W h HC0.out (by unfold arena_Free.f; rw [hf0]))
    clear hok hv hf hp hf0
    go_wp2_with fail
    refine HP.out.mono ?_
    rintro e1 w4 ⟨v0_, rfl, hN, hd⟩
    obtain ⟨A5, c5, rfl, _, _⟩ := Kd.N_reads hN
    have HB4 := Aside0.mk (below_step HB3.out hd)
    have HBA4 := Aside0.mk (blk_below HBA3.out hd)
    obtain ⟨w6, hw6⟩ : ∃ w6, w6 = w4.alloc (.cells #[.slice A5 0 c5] 26) := ⟨_, rfl⟩
    have hb6 : Below w4.heap.size w4 w6 := by rw [hw6]; exact (Below.refl _ _).alloc (Nat.le_refl _) _
    have HB6 := Aside0.mk (below_step HB4.out hb6)
    have q0 : w6.cell? ⟨w.heap.size, 0, none⟩ = some (.slice A0 l0.length c0) := (blk_cell (blk_below HBA4.out hb6) 0).trans rfl
    have q5 : w6.cell? ⟨w4.heap.size, 0, none⟩ = some (.slice A5 0 c5) := by rw [hw6]; exact (blk_cell (heap_alloc_new w4 _) 0).trans rfl
    have HW6 := Aside0.mk hw6
    clear hN hd hb6 hw6
    go_upto_region 6 with (fail)
    rw [← HW6.out]
    have HCF := Aside0.mk (HF0.out w6 (Kd.C_below HR0.out HB6.out))
    go_wp2_with fail
    refine HCF.out.mono ?_
    rintro e1 w7 ⟨rfl, hd⟩
    have HB7 := Aside0.mk (below_step HB6.out hd)
    clear hd
    go_wp2_with fail
    go_returns
    exact ⟨rfl, HB7.out⟩
  · obtain ⟨n, hn, hp, hun, hokN, hfr, _⟩ := fill_step l0 id b e v hok hv (by omega)
    have hl96 := arenaOk_len hok
    obtain ⟨N, hN⟩ : ∃ N, N = l0.set n (⟨true, id, ⟨b, e, v⟩⟩ : Cell) := ⟨_, rfl⟩
    have hlN : N.length = 96 := by rw [hN, List.length_set]; exact hl96
    have hcell : P.rd_T36 N (n : Int) = (⟨true, id, ⟨b, e, v⟩⟩ : Cell) := by
      rw [rdT_nat, hN, getD_of_lt _ _ _ (by rw [List.length_set]; omega), List.getElem_set_self]
    have hback : N.set n P.z36 = l0 := by rw [hN]; exact back_set l0 n _ (by omega) hok hun
    have hmem : (n : Int) ∈ ofL N id := of_mem N n id (by omega) (by show (P.rd_T36 N (n : Int)).f0 = true; rw [hcell]) (by show (P.rd_T36 N (n : Int)).f1 = id; rw [hcell])
    rw [← hN] at hp hokN hfr
    have hdr : arena_Drop.f N (n : Int) = some (l0, 0) := by
      have hx : (N.getD n P.z36).f0 = true := by rw [← rdT_nat, hcell]
      unfold arena_Drop.f
      rw [if_pos hokN, has_is, Option.bind_some, Int.toNat_natCast, hback]
      rw [if_pos (by rw [Bool.and_eq_true]; exact ⟨decide_eq_true (by omega), hx⟩)]
    have HP := Aside0.mk (HCP.out _ _ _ hp)
    have HMEM := Aside0.mk hmem
    have HDR := Aside0.mk hdr
    have HCELL := Aside0.mk hcell
    have HOF := Aside0.mk (show arena_Of.f N id = (ofL N id, 0) by unfold arena_Of.f; rw [if_pos hokN])
    have HOK := Aside0.mk (show arena_Check.f N = some 0 by unfold arena_Check.f; rw [if_pos hokN])
    obtain ⟨F, hF⟩ : ∃ F, F = freeC N := ⟨_, rfl⟩
    have HFN := Aside0.mk (show arena_Free.f N = some (F : Int) by unfold arena_Free.f; rw [free_is N hokN, hF])
    have HFL := Aside0.mk (show arena_Free.f l0 = some ((F : Int) + 1) by unfold arena_Free.f; rw [free_is l0 hok, ← hfr, hF]; simp)
    have hF96 : F ≤ 96 := by
      have h2 : freeC N ≤ N.length := List.countP_le_length
      omega
    have HLN := Aside0.mk hlN
    clear hok hv hf hp hun hokN hfr hN hcell hback hmem hdr hF hl96 hlN HCP
    go_wp2_with fail
    refine HP.out.mono ?_
    rintro e1 w4 ⟨v0_, rfl, hN, hd⟩
    obtain ⟨A5, c5, rfl, hc5, hC5⟩ := Kd.N_reads hN
    have HB4 := Aside0.mk (below_step HB3.out hd)
    have HBA4 := Aside0.mk (blk_below HBA3.out hd)
    have HBV4 := Aside0.mk (blk_below HBV3.out hd)
    have hlN := HLN.out
    obtain ⟨w6, hw6⟩ : ∃ w6, w6 = w4.alloc (.cells #[.slice A5 N.length c5] 26) := ⟨_, rfl⟩
    have hb6 : Below w4.heap.size w4 w6 := by rw [hw6]; exact (Below.refl _ _).alloc (Nat.le_refl _) _
    have HB6 := Aside0.mk (below_step HB4.out hb6)
    have HBA6 := Aside0.mk (blk_below HBA4.out hb6)
    have HBV6 := Aside0.mk (blk_below HBV4.out hb6)
    have HBN6 := Aside0.mk (show w6.heap[w4.heap.size]? = some (.cells #[.slice A5 N.length c5] 26 (0, 0)) by rw [hw6]; exact heap_alloc_new w4 _)
    have HC6 := Aside0.mk (Kd.C_below hC5 hb6)
    have HL6 := Aside0.mk hc5
    have HW6 := Aside0.mk hw6
    have HL0 := Aside0.mk (show Kd.C kC w6 A0 l0.length l0 from Kd.C_below HR0.out HB6.out)
    obtain ⟨ad, Ax, cx, hA, x0, x1, x2, x3, x4, hlx, hCx⟩ := P.at_T36 HC6.out (n : Int) (by omega) (by omega)
    rw [HCELL.out] at x0 x1 x2 x3 x4 hlx hCx
    simp only [Int.toNat_natCast] at x0 x1 x2 x3 x4
    subst hA
    have q0 : w6.cell? ⟨w.heap.size, 0, none⟩ = some (.slice A0 l0.length c0) := (blk_cell HBA6.out 0).trans rfl
    have q1 : w6.cell? ⟨w.heap.size + 1, 0, none⟩ = some (.int .u64 b) := (blk_cell HBV6.out 0).trans rfl
    have q2 : w6.cell? ⟨w.heap.size + 1, 1, none⟩ = some (.int .u64 e) := (blk_cell HBV6.out 1).trans rfl
    have q3 : w6.cell? ⟨w.heap.size + 1, 2, none⟩ = some (.slice A1 v.length c1) := (blk_cell HBV6.out 2).trans rfl
    have q5 : w6.cell? ⟨w4.heap.size, 0, none⟩ = some (.slice (some ad) N.length c5) := (blk_cell HBN6.out 0).trans rfl
    have Q0 := fun p => Gr.cell q0 p
    have Q1 := fun p => Gr.cell q1 p
    have Q2 := fun p => Gr.cell q2 p
    have Q3 := fun p => Gr.cell q3 p
    have Q5 := fun p => Gr.cell q5 p
    have X1 := fun p => Gr.cell x1 p
    have X2 := fun p => Gr.cell x2 p
    have X3 := fun p => Gr.cell x3 p
    have X4 := fun p => Gr.cell x4 p
    have HCK := Aside0.mk (fun (p : Gr w6) => arena_Check.calls (some ad) c5 N 0 p.w (Kd.C_below HC6.out p.h) HL6.out HOK.out)
    have HF0 := Aside0.mk (fun (p : Gr w6) => arena_Free.calls A0 c0 l0 ((F : Int) + 1) p.w (Kd.C_below HL0.out p.h) HC0.out HFL.out)
    have HF1 := Aside0.mk (fun (p : Gr w6) => arena_Free.calls (some ad) c5 N (F : Int) p.w (Kd.C_below HC6.out p.h) HL6.out HFN.out)
    have HSV := Aside0.mk (fun (p : Gr w6) => codec_SameVersion.calls b e Ax cx v b e A1 c1 v true p.w (Kd.C_below hCx p.h) hlx (Kd.C_below (Kd.C_below HR1.out HB6.out) p.h) HC1.out (by unfold codec_SameVersion.f; simp))
    have hwF : IntKind.i64.wrap (F : Int) = (F : Int) := by rw [IntKind.wrap_i64]; omega
    have hFF : ((F : Int) != (F : Int)) = false := by simp
    have hii : (id != id) = false := by simp
    have hn0 : decide ((n : Int) < 0) = false := decide_eq_false (by omega)
    have hn1 : decide ((n : Int) ≥ (N.length : Int)) = false := decide_eq_false (by omega)
    have hn2 : decide ((N.length : Int) ≤ (n : Int)) = false := decide_eq_false (by omega)
    have hn3 : (n : Int) < (N.length : Int) := by omega
    have hn4 : decide (N.length ≤ n) = false := decide_eq_false (by omega)
    have hn5 : ¬ N.length ≤ n := by omega
    clear hN hd hC5 hc5 hb6 hw6 hCx hlx x0 x1 x2 x3 x4 q0 q1 q2 q3 q5 hlN
    go_upto_region 6 with (fail)
    rw [← HW6.out]
    go_wp2_with fail
    refine wp_region_gr (by kernel_rfl) (by kernel_rfl) ?_
    repeat (go_big_quiet_step (first | (go_at_call_of 17 (Value.agg #[.slice A0 l0.length c0]); exact Calls.gr_of (HF0.out _)) | (go_at_call_of 17 (Value.agg #[.slice (some ad) N.length c5]); exact Calls.gr_of (HF1.out _)) | (go_at_call 19; exact Calls.gr_of (HCK.out _)) | (go_at_call 18; exact Calls.gr_of (HSV.out _))))
    refine wpQuiet_nil ?_
    intro w7 hw'
    have hb7 : Below w6.heap.size w6 w7 := by obtain ⟨p, rfl⟩ := hw'; exact p.h
    have HB7 := Aside0.mk (below_step HB6.out hb7)
    have HBA7 := Aside0.mk (blk_below HBA6.out hb7)
    have HBN7 := Aside0.mk (blk_below HBN6.out hb7)
    have HC7 := Aside0.mk (Kd.C_below HC6.out hb7)
    have q5 : w7.cell? ⟨w4.heap.size, 0, none⟩ = some (.slice (some ad) N.length c5) := (blk_cell HBN7.out 0).trans rfl
    clear hw' hb7 Q0 Q1 Q2 Q3 Q5 X1 X2 X3 X4 HF0 HF1 HCK HSV hwF hFF hii hn0 hn1 hn2 hn3 hn4 hn5 HB6 HBA6 HBV6 HBN6 HC6 HW6 HL0
    have HOC := Aside0.mk (arena_Of.calls (some ad) c5 N id (ofL N id) 0 w7 HC7.out HL6.out HOF.out)
    generalize ofL N id = xs at *
    go_wp2_with fail
    refine HOC.out.mono ?_
    rintro e1 w8 ⟨A8, c8, rfl, hl8, hC8, hd⟩
    have HB8 := Aside0.mk (below_step HB7.out hd)
    have HBA8 := Aside0.mk (blk_below HBA7.out hd)
    have HBN8 := Aside0.mk (blk_below HBN7.out hd)
    have HC8 := Aside0.mk (Kd.C_below HC7.out hd)
    have HX8 := Aside0.mk hC8
    have hmx := Kd.C_max hC8
    clear hd hC8 q5 HOC
    go_wp2_with fail
    go_loopg [11, 100] xs.length (fun gg v11 v100 wr => ∃ (i : Nat) (t : Bool), v100 = .int .i64 (i : Int) ∧ v11 = .bool t ∧ i ≤ xs.length ∧ xs.length - i ≤ gg ∧ Aside0 (t = (xs.take i).any (fun x => x == (n : Int))) ∧ Aside0 (∃ m, wr = w8.drewN m))
    case atStart => exact ⟨0, false, rfl, rfl, by omega, by omega, ⟨by simp⟩, ⟨0, rfl⟩⟩
    case round =>
      obtain ⟨i, t, rfl, rfl, hi0, hg, HT, HDi⟩ := hrel
      obtain ⟨m, hm⟩ := HDi.out
      subst hm
      have HBi := Aside0.mk (show Below w8.heap.size w8 (w8.drewN m) from (Drawn0.below ⟨⟨m, rfl⟩⟩))
      by_cases hlt : i < xs.length
      · have hltz : (i : Int) < (xs.length : Int) := by omega
        obtain ⟨bd, hB, y0⟩ := Kd.at_int (Kd.C_below HX8.out HBi.out) (i : Int) (by omega) (by omega)
        subst hB
        simp only [Int.toNat_natCast] at y0
        have HTS := Aside0.mk (show (xs.take (i + 1)).any (fun x => x == (n : Int)) = (t || (rd xs (i : Int) == (n : Int))) by
          rw [take_snoc xs i hlt, List.any_append, ← HT.out]; simp)
        generalize rd xs (i : Int) = y at *
        cases t with
        | true =>
          go_wp2_with fail
          go_roundg (xs.length - (i + 1))
          case measure => omega
          case rel => exact ⟨i + 1, true, by go_num, rfl, by omega, by omega, ⟨by rw [HTS.out]; rfl⟩, HDi⟩
        | false =>
          go_wp2_with fail
          go_roundg (xs.length - (i + 1))
          case measure => omega
          case rel => exact ⟨i + 1, (y == (n : Int)), by go_num, rfl, by omega, by omega, ⟨by rw [HTS.out]; rfl⟩, HDi⟩
      · have hltz : ¬ (i : Int) < (xs.length : Int) := by omega
        have ht : t = true := by
          rw [HT.out, List.take_of_length_le (by omega), List.any_eq_true]
          exact ⟨_, HMEM.out, by simp⟩
        subst ht
        have HB9 := Aside0.mk (below_step HB8.out HBi.out)
        have HBA9 := Aside0.mk (blk_below HBA8.out HBi.out)
        have HBN9 := Aside0.mk (blk_below HBN8.out HBi.out)
        have HC9 := Aside0.mk (Kd.C_below HC8.out HBi.out)
        obtain ⟨w9, hw9⟩ : ∃ w9, w9 = w8.drewN m := ⟨_, rfl⟩
        rw [← hw9] at HB9 HBA9 HBN9 HC9 ⊢
        clear hw9 HBi HDi HT
        have q5 : w9.cell? ⟨w4.heap.size, 0, none⟩ = some (.slice (some ad) N.length c5) := (blk_cell HBN9.out 0).trans rfl
        have hb10 : Below w9.heap.size w9 (w9.alloc (.cells ([(n : Int)].map (Value.int .i64)).toArray 3)) := (Below.refl _ _).alloc (Nat.le_refl _) _
        have HDC := Aside0.mk (arena_Drop.calls (fun _ => True) (some ad) c5 N (some ⟨w9.heap.size, 0, none⟩) 1 (n : Int) l0 0 (w9.alloc (.cells ([(n : Int)].map (Value.int .i64)).toArray 3)) (V_of_C (Kd.C_below HC9.out hb10) HL6.out) (C_lit .i64 w9 [(n : Int)] 3 (by simp)) HDR.out)
        have HB10 := Aside0.mk hb10
        clear hb10
        go_wp2_with fail
        refine HDC.out.mono ?_
        rintro e1 w11 ⟨v1_, rfl, hN, hd⟩
        obtain ⟨A9, c9, rfl, hc9, hC9⟩ := Kd.N_reads hN
        obtain ⟨w12, hw12⟩ : ∃ w12, w12 = w11.alloc (.cells #[.slice A9 l0.length c9] 26) := ⟨_, rfl⟩
        have hb12 : Below w11.heap.size w11 w12 := by rw [hw12]; exact (Below.refl _ _).alloc (Nat.le_refl _) _
        have HB12 := Aside0.mk (below_step (below_step (below_step HB9.out HB10.out) hd) hb12)
        have HBA12 := Aside0.mk (blk_below (blk_below (blk_below HBA9.out HB10.out) hd) hb12)
        have HC12 := Aside0.mk (Kd.C_below hC9 hb12)
        have q7 : w12.cell? ⟨w11.heap.size, 0, none⟩ = some (.slice A9 l0.length c9) := by rw [hw12]; exact (blk_cell (heap_alloc_new w11 _) 0).trans rfl
        have q8 : w12.cell? ⟨w.heap.size, 0, none⟩ = some (.slice A0 l0.length c0) := (blk_cell HBA12.out 0).trans rfl
        have HSM := Aside0.mk (arena_Same.calls A9 c9 l0 A0 c0 l0 true w12 HC12.out hc9 (Kd.C_below HR0.out HB12.out) HC0.out (by unfold arena_Same.f; rw [eqCells_self]))
        have HW12 := Aside0.mk hw12
        clear hN hd hC9 hc9 hb12 hw12 q5
        go_upto_region 18 with (fail)
        rw [← HW12.out]
        go_wp2_with fail
        refine HSM.out.mono ?_
        rintro e1 w13 ⟨rfl, hd⟩
        have HB13 := Aside0.mk (below_step HB12.out hd)
        clear hd
        go_wp2_with fail
        go_returns
        exact ⟨rfl, HB13.out⟩

theorem back_walk (x0 : List Cell) (cs0 : Array Value) (a1 : Int) (x2 : P.S34) (cs2 : Array Value) (w : World)
    (hK0 : (Kd.slice 22 kC).K w x0 cs0.toList) {Wf0 : Prop} (w0 : Wf0) {Wf1 : Prop} (w1 : Wf1) (hK2 : P.k34.K w x2 cs2.toList) {Wf2 : Prop} (w2 : Wf2) :
    Calls Try.prog 7 #[.agg cs0, .int .u64 a1, .agg cs2] w fun e w' => e = .returned (.bool true) ∧ Below w.heap.size w w' := by
  obtain ⟨A0, c0, e0, h0, hC0⟩ := hK0
  obtain ⟨A1, c1, e1, h1, hC1⟩ := P.k34_open hK2
  obtain rfl : cs0 = #[.slice A0 x0.length c0] := by apply Array.toList_inj.1; exact e0
  obtain rfl : cs2 = #[.int .u64 x2.f0, .int .u64 x2.f1, .slice A1 x2.f2.length c1] := by apply Array.toList_inj.1; exact e1
  exact back_all A0 c0 x0 a1 x2.f0 x2.f1 A1 c1 x2.f2 w h0 hC0 h1 hC1

end Go.Proofs.Ytoblkjdiahoplaa.G
