/- ArenaFills: where the law goes out early. -/
import Derived.Test.YtoblkjdiahoplaaFw
namespace Go.Proofs.Ytoblkjdiahoplaa.G
open Go.Shelf Go.RowKit Go.Proofs.YtoblkjdiahoplaaW.PrintWords Go.Proofs.YtoblkjdiahoplaaW.PrintLast Go.Proofs.YtoblkjdiahoplaaW.PrintMore
set_option linter.unusedVariables false
set_option linter.unusedSimpArgs false

set_option maxRecDepth 100000 in
set_option maxHeartbeats 2000000 in
theorem fills_over (A0 : Option Addr) (c0 : Nat) (l0 : List Cell) (b e : Int) (A1 : Option Addr) (c1 : Nat) (v : List Int) (A2 : Option Addr) (c2 : Nat) (ds : List Int) (w : World)
    (hc0 : l0.length ≤ c0) (hr0 : Kd.C kC w A0 l0.length l0) (hc1 : v.length ≤ c1) (hr1 : Kd.C (Kd.int .i32) w A1 v.length v) (hr2 : Kd.C (Kd.int .i64) w A2 ds.length ds)
    (hov : P.quiverlaw09_over.f 200 l0 = some true) :
    Calls Try.prog 5 #[.agg #[.slice A0 l0.length c0], .agg #[.int .u64 b, .int .u64 e, .slice A1 v.length c1], .slice A2 ds.length c2] w fun e w' => e = .returned (.bool true) ∧ Below w.heap.size w w' := by
  obtain ⟨w1, hw1⟩ : ∃ w1, w1 = (w.alloc (.cells #[.slice A0 l0.length c0] 26)).alloc (.cells #[.int .u64 b, .int .u64 e, .slice A1 v.length c1] 34) := ⟨_, rfl⟩
  have hsz : (w.alloc (.cells #[.slice A0 l0.length c0] 26)).heap.size = w.heap.size + 1 := by simp
  have HB1 := Aside0.mk (show Below w.heap.size w w1 by rw [hw1]; exact ((Below.refl _ _).alloc (Nat.le_refl _) _).alloc (by simp) _)
  have HBA := Aside0.mk (show w1.heap[w.heap.size]? = some (.cells #[.slice A0 l0.length c0] 26 (0, 0)) by rw [hw1]; exact (Below.heap_alloc _ _ _ (by simp)).trans (heap_alloc_new w _))
  have HBV := Aside0.mk (show w1.heap[w.heap.size + 1]? = some (.cells #[.int .u64 b, .int .u64 e, .slice A1 v.length c1] 34 (0, 0)) by rw [hw1, ← hsz]; exact heap_alloc_new _ _)
  have HW1 := Aside0.mk hw1
  have HR0 := Aside0.mk hr0
  have HR1 := Aside0.mk hr1
  have HR2 := Aside0.mk hr2
  have HC0 := Aside0.mk hc0
  have HC1 := Aside0.mk hc1
  have HOV := Aside0.mk hov
  clear hr0 hr1 hr2 hc0 hc1 hov hw1 hsz
  go_enter Try.func5, Try.ntmps5
  go_upto_region 1 with (fail)
  rw [← HW1.out]
  go_wp2_with fail
  refine (P.quiverlaw09_wakes.calls true w1 P.quiverlaw09_wakes.is).mono ?_
  rintro e1 w2 ⟨rfl, hd⟩
  have HB2 := Aside0.mk (below_step HB1.out hd)
  have HBA2 := Aside0.mk (blk_below HBA.out hd)
  have HBV2 := Aside0.mk (blk_below HBV.out hd)
  have q0 : w2.cell? ⟨w.heap.size, 0, none⟩ = some (.slice A0 l0.length c0) := (blk_cell HBA2.out 0).trans rfl
  clear hd
  go_wp2_with fail
  refine (P.quiverlaw09_over.calls 200 A0 c0 l0 true w2 (Kd.C_below HR0.out HB2.out) HC0.out HOV.out).mono ?_
  rintro e1 w3 ⟨rfl, hd⟩
  have HB3 := Aside0.mk (below_step HB2.out hd)
  have HBA3 := Aside0.mk (blk_below HBA2.out hd)
  have HBV3 := Aside0.mk (blk_below HBV2.out hd)
  have q0 : w3.cell? ⟨w.heap.size, 0, none⟩ = some (.slice A0 l0.length c0) := (blk_cell HBA3.out 0).trans rfl
  clear hd
  go_wp2_with fail
  go_returns
  exact ⟨rfl, HB3.out⟩
set_option maxRecDepth 100000 in
set_option maxHeartbeats 2000000 in
theorem fills_long (A0 : Option Addr) (c0 : Nat) (l0 : List Cell) (b e : Int) (A1 : Option Addr) (c1 : Nat) (v : List Int) (A2 : Option Addr) (c2 : Nat) (ds : List Int) (w : World)
    (hc0 : l0.length ≤ c0) (hr0 : Kd.C kC w A0 l0.length l0) (hc1 : v.length ≤ c1) (hr1 : Kd.C (Kd.int .i32) w A1 v.length v) (hr2 : Kd.C (Kd.int .i64) w A2 ds.length ds)
    (hov : P.quiverlaw09_over.f 200 l0 = some false) (hlv : 50 < v.length) :
    Calls Try.prog 5 #[.agg #[.slice A0 l0.length c0], .agg #[.int .u64 b, .int .u64 e, .slice A1 v.length c1], .slice A2 ds.length c2] w fun e w' => e = .returned (.bool true) ∧ Below w.heap.size w w' := by
  obtain ⟨w1, hw1⟩ : ∃ w1, w1 = (w.alloc (.cells #[.slice A0 l0.length c0] 26)).alloc (.cells #[.int .u64 b, .int .u64 e, .slice A1 v.length c1] 34) := ⟨_, rfl⟩
  have hsz : (w.alloc (.cells #[.slice A0 l0.length c0] 26)).heap.size = w.heap.size + 1 := by simp
  have HB1 := Aside0.mk (show Below w.heap.size w w1 by rw [hw1]; exact ((Below.refl _ _).alloc (Nat.le_refl _) _).alloc (by simp) _)
  have HBA := Aside0.mk (show w1.heap[w.heap.size]? = some (.cells #[.slice A0 l0.length c0] 26 (0, 0)) by rw [hw1]; exact (Below.heap_alloc _ _ _ (by simp)).trans (heap_alloc_new w _))
  have HBV := Aside0.mk (show w1.heap[w.heap.size + 1]? = some (.cells #[.int .u64 b, .int .u64 e, .slice A1 v.length c1] 34 (0, 0)) by rw [hw1, ← hsz]; exact heap_alloc_new _ _)
  have HW1 := Aside0.mk hw1
  have HR0 := Aside0.mk hr0
  have HR1 := Aside0.mk hr1
  have HR2 := Aside0.mk hr2
  have HC0 := Aside0.mk hc0
  have HC1 := Aside0.mk hc1
  have HOV := Aside0.mk hov
  have hlv2 : decide (50 < v.length) = true := decide_eq_true (by omega)
  have hlv3 : decide (50 < (v.length : Int)) = true := decide_eq_true (by omega)
  clear hr0 hr1 hr2 hc0 hc1 hov hlv hw1 hsz
  go_enter Try.func5, Try.ntmps5
  go_upto_region 1 with (fail)
  rw [← HW1.out]
  go_wp2_with fail
  refine (P.quiverlaw09_wakes.calls true w1 P.quiverlaw09_wakes.is).mono ?_
  rintro e1 w2 ⟨rfl, hd⟩
  have HB2 := Aside0.mk (below_step HB1.out hd)
  have HBA2 := Aside0.mk (blk_below HBA.out hd)
  have HBV2 := Aside0.mk (blk_below HBV.out hd)
  have q0 : w2.cell? ⟨w.heap.size, 0, none⟩ = some (.slice A0 l0.length c0) := (blk_cell HBA2.out 0).trans rfl
  clear hd
  go_wp2_with fail
  refine (P.quiverlaw09_over.calls 200 A0 c0 l0 false w2 (Kd.C_below HR0.out HB2.out) HC0.out HOV.out).mono ?_
  rintro e1 w3 ⟨rfl, hd⟩
  have HB3 := Aside0.mk (below_step HB2.out hd)
  have HBA3 := Aside0.mk (blk_below HBA2.out hd)
  have HBV3 := Aside0.mk (blk_below HBV2.out hd)
  have q0 : w3.cell? ⟨w.heap.size, 0, none⟩ = some (.slice A0 l0.length c0) := (blk_cell HBA3.out 0).trans rfl
  have q2 : w3.cell? ⟨w.heap.size + 1, 2, none⟩ = some (.slice A1 v.length c1) := (blk_cell HBV3.out 2).trans rfl
  clear hd
  go_wp2_with fail
  go_returns
  exact ⟨rfl, HB3.out⟩
set_option maxRecDepth 100000 in
set_option maxHeartbeats 2000000 in
theorem fills_chk (A0 : Option Addr) (c0 : Nat) (l0 : List Cell) (b e : Int) (A1 : Option Addr) (c1 : Nat) (v : List Int) (A2 : Option Addr) (c2 : Nat) (ds : List Int) (w : World)
    (hc0 : l0.length ≤ c0) (hr0 : Kd.C kC w A0 l0.length l0) (hc1 : v.length ≤ c1) (hr1 : Kd.C (Kd.int .i32) w A1 v.length v) (hr2 : Kd.C (Kd.int .i64) w A2 ds.length ds)
    (hov : P.quiverlaw09_over.f 200 l0 = some false) (hlv : v.length ≤ 50) (hok : arenaOk l0 = false) :
    Calls Try.prog 5 #[.agg #[.slice A0 l0.length c0], .agg #[.int .u64 b, .int .u64 e, .slice A1 v.length c1], .slice A2 ds.length c2] w fun e w' => e = .returned (.bool true) ∧ Below w.heap.size w w' := by
  obtain ⟨w1, hw1⟩ : ∃ w1, w1 = (w.alloc (.cells #[.slice A0 l0.length c0] 26)).alloc (.cells #[.int .u64 b, .int .u64 e, .slice A1 v.length c1] 34) := ⟨_, rfl⟩
  have hsz : (w.alloc (.cells #[.slice A0 l0.length c0] 26)).heap.size = w.heap.size + 1 := by simp
  have HB1 := Aside0.mk (show Below w.heap.size w w1 by rw [hw1]; exact ((Below.refl _ _).alloc (Nat.le_refl _) _).alloc (by simp) _)
  have HBA := Aside0.mk (show w1.heap[w.heap.size]? = some (.cells #[.slice A0 l0.length c0] 26 (0, 0)) by rw [hw1]; exact (Below.heap_alloc _ _ _ (by simp)).trans (heap_alloc_new w _))
  have HBV := Aside0.mk (show w1.heap[w.heap.size + 1]? = some (.cells #[.int .u64 b, .int .u64 e, .slice A1 v.length c1] 34 (0, 0)) by rw [hw1, ← hsz]; exact heap_alloc_new _ _)
  have HW1 := Aside0.mk hw1
  have HR0 := Aside0.mk hr0
  have HR1 := Aside0.mk hr1
  have HR2 := Aside0.mk hr2
  have HC0 := Aside0.mk hc0
  have HC1 := Aside0.mk hc1
  have HOK := Aside0.mk hok
  have HOV := Aside0.mk hov
  have hlv2 : decide (50 < v.length) = false := decide_eq_false (by omega)
  have hlv3 : decide (50 < (v.length : Int)) = false := decide_eq_false (by omega)
  clear hr0 hr1 hr2 hc0 hc1 hok hov hlv hw1 hsz
  go_enter Try.func5, Try.ntmps5
  go_upto_region 1 with (fail)
  rw [← HW1.out]
  go_wp2_with fail
  refine (P.quiverlaw09_wakes.calls true w1 P.quiverlaw09_wakes.is).mono ?_
  rintro e1 w2 ⟨rfl, hd⟩
  have HB2 := Aside0.mk (below_step HB1.out hd)
  have HBA2 := Aside0.mk (blk_below HBA.out hd)
  have HBV2 := Aside0.mk (blk_below HBV.out hd)
  have q0 : w2.cell? ⟨w.heap.size, 0, none⟩ = some (.slice A0 l0.length c0) := (blk_cell HBA2.out 0).trans rfl
  clear hd
  go_wp2_with fail
  refine (P.quiverlaw09_over.calls 200 A0 c0 l0 false w2 (Kd.C_below HR0.out HB2.out) HC0.out HOV.out).mono ?_
  rintro e1 w3 ⟨rfl, hd⟩
  have HB3 := Aside0.mk (below_step HB2.out hd)
  have HBA3 := Aside0.mk (blk_below HBA2.out hd)
  have HBV3 := Aside0.mk (blk_below HBV2.out hd)
  have q0 : w3.cell? ⟨w.heap.size, 0, none⟩ = some (.slice A0 l0.length c0) := (blk_cell HBA3.out 0).trans rfl
  have q2 : w3.cell? ⟨w.heap.size + 1, 2, none⟩ = some (.slice A1 v.length c1) := (blk_cell HBV3.out 2).trans rfl
  clear hd
  go_wp2_with fail
  refine (arena_Check.calls A0 c0 l0 190 w3 (Kd.C_below HR0.out HB3.out) HC0.out (by unfold arena_Check.f; rw [if_neg (by rw [HOK.out]; decide)])).mono ?_
  rintro e1 w4 ⟨rfl, hd⟩
  have HB4 := Aside0.mk (below_step HB3.out hd)
  have HBA4 := Aside0.mk (blk_below HBA3.out hd)
  have HBV4 := Aside0.mk (blk_below HBV3.out hd)
  clear hd
  go_wp2_with fail
  go_returns
  exact ⟨rfl, HB4.out⟩
set_option maxRecDepth 100000 in
set_option maxHeartbeats 2000000 in
theorem fills_ver (A0 : Option Addr) (c0 : Nat) (l0 : List Cell) (b e : Int) (A1 : Option Addr) (c1 : Nat) (v : List Int) (A2 : Option Addr) (c2 : Nat) (ds : List Int) (w : World)
    (hc0 : l0.length ≤ c0) (hr0 : Kd.C kC w A0 l0.length l0) (hc1 : v.length ≤ c1) (hr1 : Kd.C (Kd.int .i32) w A1 v.length v) (hr2 : Kd.C (Kd.int .i64) w A2 ds.length ds)
    (hov : P.quiverlaw09_over.f 200 l0 = some false) (hlv : v.length ≤ 50) (hok : arenaOk l0 = true) (hv : rightVer b e v = false) :
    Calls Try.prog 5 #[.agg #[.slice A0 l0.length c0], .agg #[.int .u64 b, .int .u64 e, .slice A1 v.length c1], .slice A2 ds.length c2] w fun e w' => e = .returned (.bool true) ∧ Below w.heap.size w w' := by
  obtain ⟨w1, hw1⟩ : ∃ w1, w1 = (w.alloc (.cells #[.slice A0 l0.length c0] 26)).alloc (.cells #[.int .u64 b, .int .u64 e, .slice A1 v.length c1] 34) := ⟨_, rfl⟩
  have hsz : (w.alloc (.cells #[.slice A0 l0.length c0] 26)).heap.size = w.heap.size + 1 := by simp
  have HB1 := Aside0.mk (show Below w.heap.size w w1 by rw [hw1]; exact ((Below.refl _ _).alloc (Nat.le_refl _) _).alloc (by simp) _)
  have HBA := Aside0.mk (show w1.heap[w.heap.size]? = some (.cells #[.slice A0 l0.length c0] 26 (0, 0)) by rw [hw1]; exact (Below.heap_alloc _ _ _ (by simp)).trans (heap_alloc_new w _))
  have HBV := Aside0.mk (show w1.heap[w.heap.size + 1]? = some (.cells #[.int .u64 b, .int .u64 e, .slice A1 v.length c1] 34 (0, 0)) by rw [hw1, ← hsz]; exact heap_alloc_new _ _)
  have HW1 := Aside0.mk hw1
  have HR0 := Aside0.mk hr0
  have HR1 := Aside0.mk hr1
  have HR2 := Aside0.mk hr2
  have HC0 := Aside0.mk hc0
  have HC1 := Aside0.mk hc1
  have HOK := Aside0.mk hok
  have HV := Aside0.mk hv
  have HOV := Aside0.mk hov
  have hlv2 : decide (50 < v.length) = false := decide_eq_false (by omega)
  have hlv3 : decide (50 < (v.length : Int)) = false := decide_eq_false (by omega)
  clear hr0 hr1 hr2 hc0 hc1 hok hv hov hlv hw1 hsz
  go_enter Try.func5, Try.ntmps5
  go_upto_region 1 with (fail)
  rw [← HW1.out]
  go_wp2_with fail
  refine (P.quiverlaw09_wakes.calls true w1 P.quiverlaw09_wakes.is).mono ?_
  rintro e1 w2 ⟨rfl, hd⟩
  have HB2 := Aside0.mk (below_step HB1.out hd)
  have HBA2 := Aside0.mk (blk_below HBA.out hd)
  have HBV2 := Aside0.mk (blk_below HBV.out hd)
  have q0 : w2.cell? ⟨w.heap.size, 0, none⟩ = some (.slice A0 l0.length c0) := (blk_cell HBA2.out 0).trans rfl
  clear hd
  go_wp2_with fail
  refine (P.quiverlaw09_over.calls 200 A0 c0 l0 false w2 (Kd.C_below HR0.out HB2.out) HC0.out HOV.out).mono ?_
  rintro e1 w3 ⟨rfl, hd⟩
  have HB3 := Aside0.mk (below_step HB2.out hd)
  have HBA3 := Aside0.mk (blk_below HBA2.out hd)
  have HBV3 := Aside0.mk (blk_below HBV2.out hd)
  have q0 : w3.cell? ⟨w.heap.size, 0, none⟩ = some (.slice A0 l0.length c0) := (blk_cell HBA3.out 0).trans rfl
  have q2 : w3.cell? ⟨w.heap.size + 1, 2, none⟩ = some (.slice A1 v.length c1) := (blk_cell HBV3.out 2).trans rfl
  clear hd
  go_wp2_with fail
  refine (arena_Check.calls A0 c0 l0 0 w3 (Kd.C_below HR0.out HB3.out) HC0.out (by unfold arena_Check.f; rw [if_pos HOK.out])).mono ?_
  rintro e1 w4 ⟨rfl, hd⟩
  have HB4 := Aside0.mk (below_step HB3.out hd)
  have HBA4 := Aside0.mk (blk_below HBA3.out hd)
  have HBV4 := Aside0.mk (blk_below HBV3.out hd)
  have q0 : w4.cell? ⟨w.heap.size + 1, 0, none⟩ = some (.int .u64 b) := (blk_cell HBV4.out 0).trans rfl
  have q1 : w4.cell? ⟨w.heap.size + 1, 1, none⟩ = some (.int .u64 e) := (blk_cell HBV4.out 1).trans rfl
  have q2 : w4.cell? ⟨w.heap.size + 1, 2, none⟩ = some (.slice A1 v.length c1) := (blk_cell HBV4.out 2).trans rfl
  clear hd
  go_wp2_with fail
  refine (P.codec_CheckVersion.calls b e A1 c1 v 171 w4 (Kd.C_below HR1.out HB4.out) HC1.out (by rw [checkver_is, if_neg (by rw [HV.out]; decide)])).mono ?_
  rintro e1 w5 ⟨rfl, hd⟩
  have HB5 := Aside0.mk (below_step HB4.out hd)
  have HBA5 := Aside0.mk (blk_below HBA4.out hd)
  have HBV5 := Aside0.mk (blk_below HBV4.out hd)
  clear hd
  go_wp2_with fail
  go_returns
  exact ⟨rfl, HB5.out⟩


end Go.Proofs.Ytoblkjdiahoplaa.G
