/- Contract of quiverlaw12.wakes: the layer does something. -/
import Derived.Test.YtbdoeikdoohagaaG12
import Derived.Test.YtbdoeikdoohagaaG9
import Derived.Test.YtbdoeikdoohagaaG14
namespace Go.Proofs.Ytbdoeikdoohagaa.G
open Go.Shelf Go.RowKit Go.Proofs.YtbdoeikdoohagaaW.PrintWords Go.Proofs.YtbdoeikdoohagaaW.PrintLast Go.Proofs.YtbdoeikdoohagaaW.PrintMore
set_option linter.unusedVariables false
set_option linter.unusedSimpArgs false

theorem lit1 (w : World) (x : Int) : Kd.C (Kd.int .i32) (w.alloc (.cells #[.int .i32 x] 21)) (some ⟨w.heap.size, 0, none⟩) 1 [x] := C_lit .i32 w [x] 21 (by simp)
theorem lits1 (w : World) (x : Int) : Kd.C (Kd.int .i64) (w.alloc (.cells #[.int .i64 x] 3)) (some ⟨w.heap.size, 0, none⟩) 1 [x] := C_lit .i64 w [x] 3 (by simp)
theorem lits2 (w : World) (x y : Int) : Kd.C (Kd.int .i64) (w.alloc (.cells #[.int .i64 x, .int .i64 y] 3)) (some ⟨w.heap.size, 0, none⟩) 2 [x, y] := C_lit .i64 w [x, y] 3 (by simp)
theorem litR2 (w : World) (x y : Int) : Kd.C kR (((w.alloc (.cells #[.int .i32 x] 21)).alloc (.cells #[.int .i32 y] 21)).alloc (.cells #[.slice (some ⟨w.heap.size, 0, none⟩) 1 1, .slice (some ⟨w.heap.size + 1, 0, none⟩) 1 1] 25)) (some ⟨w.heap.size + 1 + 1, 0, none⟩) 2 [[x], [y]] := by
  have a1 := lit1 w x
  have a2 := lit1 (w.alloc (.cells #[.int .i32 x] 21)) y
  have hb := heap_alloc_new ((w.alloc (.cells #[.int .i32 x] 21)).alloc (.cells #[.int .i32 y] 21)) (.cells #[.slice (some ⟨w.heap.size, 0, none⟩) 1 1, .slice (some ⟨w.heap.size + 1, 0, none⟩) 1 1] 25)
  simp only [World.size_alloc] at hb a2
  exact C_blockRow kR hb (Reps.one ⟨_, _, rfl, Nat.le_refl _, Kd.C_alloc (Kd.C_alloc a1 _) _⟩ (Reps.one ⟨_, _, rfl, Nat.le_refl _, Kd.C_alloc a2 _⟩ (Reps.none _ _))) (by simp)
theorem litR4 (w : World) (x y z u : Int) : Kd.C kR (((((w.alloc (.cells #[.int .i32 x] 21)).alloc (.cells #[.int .i32 y] 21)).alloc (.cells #[.int .i32 z] 21)).alloc (.cells #[.int .i32 u] 21)).alloc (.cells #[.slice (some ⟨w.heap.size, 0, none⟩) 1 1, .slice (some ⟨w.heap.size + 1, 0, none⟩) 1 1, .slice (some ⟨w.heap.size + 1 + 1, 0, none⟩) 1 1, .slice (some ⟨w.heap.size + 1 + 1 + 1, 0, none⟩) 1 1] 25)) (some ⟨w.heap.size + 1 + 1 + 1 + 1, 0, none⟩) 4 [[x], [y], [z], [u]] := by
  have a1 := lit1 w x
  have a2 := lit1 (w.alloc (.cells #[.int .i32 x] 21)) y
  have a3 := lit1 ((w.alloc (.cells #[.int .i32 x] 21)).alloc (.cells #[.int .i32 y] 21)) z
  have a4 := lit1 (((w.alloc (.cells #[.int .i32 x] 21)).alloc (.cells #[.int .i32 y] 21)).alloc (.cells #[.int .i32 z] 21)) u
  have hb := heap_alloc_new ((((w.alloc (.cells #[.int .i32 x] 21)).alloc (.cells #[.int .i32 y] 21)).alloc (.cells #[.int .i32 z] 21)).alloc (.cells #[.int .i32 u] 21)) (.cells #[.slice (some ⟨w.heap.size, 0, none⟩) 1 1, .slice (some ⟨w.heap.size + 1, 0, none⟩) 1 1, .slice (some ⟨w.heap.size + 1 + 1, 0, none⟩) 1 1, .slice (some ⟨w.heap.size + 1 + 1 + 1, 0, none⟩) 1 1] 25)
  simp only [World.size_alloc] at hb a2 a3 a4
  exact C_blockRow kR hb (Reps.one ⟨_, _, rfl, Nat.le_refl _, Kd.C_alloc (Kd.C_alloc (Kd.C_alloc (Kd.C_alloc a1 _) _) _) _⟩ (Reps.one ⟨_, _, rfl, Nat.le_refl _, Kd.C_alloc (Kd.C_alloc (Kd.C_alloc a2 _) _) _⟩ (Reps.one ⟨_, _, rfl, Nat.le_refl _, Kd.C_alloc (Kd.C_alloc a3 _) _⟩ (Reps.one ⟨_, _, rfl, Nat.le_refl _, Kd.C_alloc a4 _⟩ (Reps.none _ _))))) (by simp)

def wakes12.f : Option Bool := some true
set_option maxHeartbeats 4000000 in
set_option maxRecDepth 100000 in
theorem wakes12.calls (r : Bool) (w : World) (h : wakes12.f = some r) : Calls Try.prog 34 #[] w fun e w' => e = .returned (.bool r) ∧ Below w.heap.size w w' := by
  obtain rfl := Option.some.inj h
  clear h
  have hA := litR4 w 1 2 9 11
  have hD := lits2 (((((w.alloc (.cells #[.int .i32 1] 21)).alloc (.cells #[.int .i32 2] 21)).alloc (.cells #[.int .i32 9] 21)).alloc (.cells #[.int .i32 11] 21)).alloc (.cells #[.slice (some ⟨w.heap.size, 0, none⟩) 1 1, .slice (some ⟨w.heap.size + 1, 0, none⟩) 1 1, .slice (some ⟨w.heap.size + 1 + 1, 0, none⟩) 1 1, .slice (some ⟨w.heap.size + 1 + 1 + 1, 0, none⟩) 1 1] 25)) 0 1
  simp only [World.size_alloc] at hD
  have HT := Aside0.mk (means_Train.calls (some ⟨w.heap.size + 1 + 1 + 1 + 1, 0, none⟩) 4 [[1], [2], [9], [11]] (some ⟨w.heap.size + 1 + 1 + 1 + 1 + 1, 0, none⟩) 2 [0, 1] [[1], [10]] 0 _ (Kd.C_alloc hA _) (Nat.le_refl _) hD (Nat.le_refl _) (by decide +kernel))
  have HB0 := Aside0.mk (below_alloc (below_alloc (below_alloc (below_alloc (below_alloc (below_alloc (Below.refl _ w) (.cells #[.int .i32 1] 21)) (.cells #[.int .i32 2] 21)) (.cells #[.int .i32 9] 21)) (.cells #[.int .i32 11] 21)) (.cells #[.slice (some ⟨w.heap.size, 0, none⟩) 1 1, .slice (some ⟨w.heap.size + 1, 0, none⟩) 1 1, .slice (some ⟨w.heap.size + 1 + 1, 0, none⟩) 1 1, .slice (some ⟨w.heap.size + 1 + 1 + 1, 0, none⟩) 1 1] 25)) (.cells #[.int .i64 0, .int .i64 1] 3))
  clear hA hD
  go_enter Try.func34, Try.ntmps34
  go_wp2_with fail
  refine HT.out.mono ?_
  rintro e w1 ⟨v1, rfl, ho1, hb1⟩
  obtain ⟨A1, c1, ev, hl1, hC1⟩ := Kd.R_reads ho1
  obtain ⟨g, cap, rfl, hg, hgl, cells, hcells⟩ := Kd.R_form ho1 (by decide)
  injection ev with ev
  subst ev
  have HC1 := Aside0.mk hC1
  have HB1 := Aside0.mk (below_step HB0.out hb1)
  clear hb1 HT ho1 hl1 hC1 hcells
  have hA := litR2 w1 1 5
  have hD := lit1 (((w1.alloc (.cells #[.int .i32 1] 21)).alloc (.cells #[.int .i32 5] 21)).alloc (.cells #[.slice (some ⟨w1.heap.size, 0, none⟩) 1 1, .slice (some ⟨w1.heap.size + 1, 0, none⟩) 1 1] 25)) 3
  simp only [World.size_alloc] at hD
  have HA := Aside0.mk (means_Assign.calls (some ⟨w1.heap.size + 1 + 1, 0, none⟩) 2 [[1], [5]] (some ⟨w1.heap.size + 1 + 1 + 1, 0, none⟩) 1 [3] 0 0 _ (Kd.C_alloc hA _) (Nat.le_refl _) hD (Nat.le_refl _) (by decide +kernel))
  have HB2 := Aside0.mk (below_alloc (below_alloc (below_alloc (below_alloc (Below.refl _ w1) (.cells #[.int .i32 1] 21)) (.cells #[.int .i32 5] 21)) (.cells #[.slice (some ⟨w1.heap.size, 0, none⟩) 1 1, .slice (some ⟨w1.heap.size + 1, 0, none⟩) 1 1] 25)) (.cells #[.int .i32 3] 21))
  clear hA hD
  go_wp2_with fail
  refine HA.out.mono ?_
  rintro e w2 ⟨rfl, hb2⟩
  have HB2' := Aside0.mk (below_step HB2.out hb2)
  clear hb2 HA HB2
  have hD := lits1 w2 0
  have HS := Aside0.mk (means_Start.calls none 0 [] (some ⟨w2.heap.size, 0, none⟩) 1 [0] [] 4 _ (Kd.C_nil _ _) (Nat.le_refl _) hD (Nat.le_refl _) (by decide +kernel))
  clear hD
  go_wp2_with fail
  refine HS.out.mono ?_
  rintro e w3 ⟨v3, rfl, ho3, hb3⟩
  have HB3 := Aside0.mk (below_step HB2'.out (below_step (below_alloc (Below.refl _ w2) (.cells #[.int .i64 0] 3)) hb3))
  obtain ⟨ad, A0, c0, e0, q0, _, hC0⟩ := C_row HC1.out 0 (by decide)
  obtain ⟨ad', A0', c0', e', q1, _, hC1⟩ := C_row HC1.out 1 (by decide)
  injection e0 with e0
  subst e0
  injection e' with e'
  subst e'
  obtain ⟨b0, rfl, p0⟩ := C_byte' hC0 0 (by decide)
  obtain ⟨b1, rfl, p1⟩ := C_byte' hC1 0 (by decide)
  rw [add0] at q0 p0 p1
  rw [add_plain] at q1
  replace q0 : w3.cell? ⟨g, 0, none⟩ = some (.slice (some b0) 1 c0) := (HB3.out.cell (World.block_lt_of_cell? w1 _ q0)).trans q0
  replace q1 : w3.cell? ⟨g, 1, none⟩ = some (.slice (some b1) 1 c0') := (HB3.out.cell (World.block_lt_of_cell? w1 _ q1)).trans q1
  replace p0 : w3.cell? b0 = some (.int .i32 1) := (HB3.out.cell (World.block_lt_of_cell? w1 _ p0)).trans p0
  replace p1 : w3.cell? b1 = some (.int .i32 10) := (HB3.out.cell (World.block_lt_of_cell? w1 _ p1)).trans p1
  have HBF := Aside0.mk (below_step HB1.out HB3.out)
  clear hC0 hC1 ho3 hb3 HS HB3 HB2' HC1
  go_wp2_with fail
  all_goals (try (go_quiet (fail); go_wp2_with fail))
  go_returns
  first | exact ⟨rfl, HBF.out⟩ | exact ⟨rfl, pw_below_drewN HBF.out _⟩

end Go.Proofs.Ytbdoeikdoohagaa.G
