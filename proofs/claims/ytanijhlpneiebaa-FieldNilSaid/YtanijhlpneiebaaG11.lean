/- quiverlaw01.FieldNil answers true, for every whole number: of a scan that is none nothing is told. -/
import Derived.Test.YtanijhlpneiebaaG9
namespace Go.Proofs.Ytanijhlpneiebaa.G
open Go.RowKit Go.Proofs.YtanijhlpneiebaaW.PrintWords Go.Proofs.YtanijhlpneiebaaW.PrintLast Go.Proofs.YtanijhlpneiebaaW.PrintMore
set_option linter.unusedVariables false
set_option linter.unusedSimpArgs false

set_option maxHeartbeats 1000000 in
set_option maxRecDepth 100000 in
theorem off_nil (n : Int) (f : Value) (w : World) : Calls Try.prog 59 #[.pointer none, .int .i64 n, f] w fun e w' => e = .returned (.tuple #[]) ∧ w = w' := by
  go_enter Try.func59, Try.ntmps59
  go_wp2_with fail
  go_returns
  exact ⟨rfl, rfl⟩

set_option maxHeartbeats 1000000 in
set_option maxRecDepth 100000 in
theorem num_nil (n : Int) (w : World) : Calls Try.prog 28 #[.pointer none, .int .i64 n] w fun e w' => e = .returned (.int .u64 0) ∧ Below w.heap.size w w' := by
  have HB := Aside0.mk (below_alloc (Below.refl _ w) (.cells #[.int .u64 0] 23))
  have q1 : (w.alloc (.cells #[.int .u64 0] 23)).cell? ⟨w.heap.size, 0, none⟩ = some (.int .u64 0) := (blk_cell (heap_alloc_new w _) 0).trans rfl
  cases hs : isSize n with
  | true =>
    have HS := Aside0.mk hs
    clear hs
    go_enter Try.func28, Try.ntmps28
    go_wp2_with (go_at_call 56; refine (sized n _).mono ?_; rintro e w' ⟨rfl, rfl⟩; simp only [HS.out])
    refine (off_nil _ _ _).mono ?_
    rintro e w' ⟨rfl, rfl⟩
    go_wp2_with fail
    go_returns
    exact ⟨rfl, HB.out⟩
  | false =>
    have HS := Aside0.mk hs
    clear hs
    go_enter Try.func28, Try.ntmps28
    go_wp2_with (go_at_call 56; refine (sized n _).mono ?_; rintro e w' ⟨rfl, rfl⟩; simp only [HS.out])
    refine (off_nil _ _ _).mono ?_
    rintro e w' ⟨rfl, rfl⟩
    go_wp2_with fail
    go_returns
    exact ⟨rfl, HB.out⟩

theorem shift_zero (n : Int) (h : isSize n = true) : ∃ d : Int, n = d ∧ (d = 1 ∨ d = 2 ∨ d = 3 ∨ d = 4 ∨ d = 5 ∨ d = 6 ∨ d = 7 ∨ d = 8) := by
  have hs' : 1 ≤ n ∧ n ≤ 8 := by simpa [isSize] using h
  exact ⟨n, rfl, by omega⟩

set_option maxHeartbeats 2000000 in
set_option maxRecDepth 100000 in
theorem int_nil (n : Int) (w : World) : Calls Try.prog 29 #[.pointer none, .int .i64 n] w fun e w' => e = .returned (.int .i64 0) ∧ Below w.heap.size w w' := by
  cases hs : isSize n with
  | true =>
    obtain ⟨d, rfl, hd⟩ := shift_zero n hs
    clear hs
    rcases hd with rfl | rfl | rfl | rfl | rfl | rfl | rfl | rfl
    all_goals
      go_enter Try.func29, Try.ntmps29
      go_wp2_with fail
      refine (num_nil _ _).mono ?_
      rintro e w' ⟨rfl, hb⟩
      have HB := Aside0.mk hb
      clear hb
      go_wp2_with fail
      refine (sized _ _).mono ?_
      rintro e w'' ⟨rfl, rfl⟩
      simp only [show ∀ d : Int, isSize d = decide (1 ≤ d ∧ d ≤ 8) from fun _ => rfl]
      go_wp2_with fail
      go_returns
      exact ⟨rfl, HB.out⟩
  | false =>
    have HS := Aside0.mk hs
    clear hs
    go_enter Try.func29, Try.ntmps29
    go_wp2_with fail
    refine (num_nil _ _).mono ?_
    rintro e w' ⟨rfl, hb⟩
    have HB := Aside0.mk hb
    clear hb
    go_wp2_with (go_at_call 56; refine (sized n _).mono ?_; rintro e w' ⟨rfl, rfl⟩; simp only [HS.out])
    go_returns
    exact ⟨rfl, HB.out⟩

set_option maxHeartbeats 1000000 in
set_option maxRecDepth 100000 in
theorem bytes_nil (n : Int) (w : World) : Calls Try.prog 37 #[.pointer none, .int .i64 n] w fun e w' => e = .returned (.slice none 0 0) ∧ Below w.heap.size w w' := by
  have HB := Aside0.mk (below_alloc (Below.refl _ w) (.cells #[.slice none 0 0] 22))
  have q1 : (w.alloc (.cells #[.slice none 0 0] 22)).cell? ⟨w.heap.size, 0, none⟩ = some (.slice none 0 0) := (blk_cell (heap_alloc_new w _) 0).trans rfl
  go_enter Try.func37, Try.ntmps37
  go_wp2_with fail
  refine (off_nil _ _ _).mono ?_
  rintro e w' ⟨rfl, rfl⟩
  go_wp2_with fail
  go_returns
  exact ⟨rfl, HB.out⟩

theorem left_nil (w : World) : Calls Try.prog 31 #[.pointer none] w fun e w' => e = .returned (.int .i64 0) ∧ w = w' := by
  go_enter Try.func31, Try.ntmps31
  go_wp2_with fail
  go_returns
  exact ⟨rfl, rfl⟩
theorem place_nil (w : World) : Calls Try.prog 32 #[.pointer none] w fun e w' => e = .returned (.int .i64 0) ∧ w = w' := by
  go_enter Try.func32, Try.ntmps32
  go_wp2_with fail
  go_returns
  exact ⟨rfl, rfl⟩
theorem bad_nil (w : World) : Calls Try.prog 30 #[.pointer none] w fun e w' => e = .returned (.bool true) ∧ w = w' := by
  go_enter Try.func30, Try.ntmps30
  go_wp2_with fail
  go_returns
  exact ⟨rfl, rfl⟩

set_option maxHeartbeats 2000000 in
set_option maxRecDepth 100000 in
theorem fieldNil.walk (a0 : Int) (w : World) (w0 : (Lit.int .i64 a0).wf = true) : Calls Try.prog 7 #[.int .i64 a0] w fun e w' => e = .returned (.bool true) ∧ Below w.heap.size w w' := by
  go_enter Try.func7, Try.ntmps7
  go_wp2_with fail
  refine (wakes01.calls true _ rfl).mono ?_
  rintro e w1 ⟨rfl, hb1⟩
  have HB1 := Aside0.mk hb1
  clear hb1
  go_wp2_with fail
  refine (num_nil _ _).mono ?_
  rintro e w2 ⟨rfl, hb2⟩
  have HB2 := Aside0.mk (below_step HB1.out hb2)
  clear hb2
  go_wp2_with fail
  refine (int_nil _ _).mono ?_
  rintro e w3 ⟨rfl, hb3⟩
  have HB3 := Aside0.mk (below_step HB2.out hb3)
  clear hb3
  go_wp2_with fail
  refine (bytes_nil _ _).mono ?_
  rintro e w4 ⟨rfl, hb4⟩
  have HB4 := Aside0.mk (below_step HB3.out hb4)
  clear hb4
  go_wp2_with fail
  refine (left_nil _).mono ?_
  rintro e w5 ⟨rfl, rfl⟩
  go_wp2_with fail
  refine (place_nil _).mono ?_
  rintro e w6 ⟨rfl, rfl⟩
  go_wp2_with fail
  refine (bad_nil _).mono ?_
  rintro e w7 ⟨rfl, rfl⟩
  go_wp2_with fail
  go_returns
  exact ⟨rfl, HB4.out⟩
end Go.Proofs.Ytanijhlpneiebaa.G
