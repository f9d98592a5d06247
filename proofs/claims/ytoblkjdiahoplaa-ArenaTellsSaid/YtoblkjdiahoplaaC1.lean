/- Contract of codec.SameVersion. -/
import Derived.Test.YtoblkjdiahoplaaVC
import Derived.Test.YtoblkjdiahoplaaV1
import Derived.ChangeKeysEq
import Derived.Laws.StructEq
namespace Go.Proofs.Ytoblkjdiahoplaa.G
open Go.Shelf Go.RowKit Go.Proofs.YtoblkjdiahoplaaW.PrintWords Go.Proofs.YtoblkjdiahoplaaW.PrintLast Go.Proofs.YtoblkjdiahoplaaW.PrintMore
set_option linter.unusedVariables false
set_option linter.unusedSimpArgs false

set_option maxRecDepth 100000 in
theorem eq_pair (a b c d : Int) (W : World) : (Op.equalIn 10000 69 (.agg #[.int .u64 a, .int .u64 b]) (.agg #[.int .u64 c, .int .u64 d])).run Try.prog W = .ok ((a == c) && (b == d)) W := by
  obtain ⟨i, hi⟩ := Option.isSome_iff_exists.1 (show (Try.prog.info? 31).isSome = true by kernel_rfl)
  have hc : Try.prog.cellsOf 31 = 1 := by kernel_rfl
  have p0 : ∀ (x y : Int), (part 31 #[.int .u64 x, .int .u64 y] 0).run Try.prog W = .ok (.int .u64 x) W := fun x y => by kernel_rfl
  have p1 : ∀ (x y : Int), (part 31 #[.int .u64 x, .int .u64 y] 1).run Try.prog W = .ok (.int .u64 y) W := fun x y => by kernel_rfl
  have h := run_equalIn_array (P := Try.prog) (w := W) (d := 9999) (xs := #[.int .u64 a, .int .u64 b]) (ys := #[.int .u64 c, .int .u64 d]) (hu := Try.underlying69) (hi := hi)
  refine h.trans ?_
  rw [hc]
  have e0 : (Op.equalIn 9999 31 (.int .u64 a) (.int .u64 c)).run Try.prog W = .ok (a == c) W := run_equalIn_int (P := Try.prog) (w := W) 9998 31 .u64 .u64 a c Try.underlying31
  have e1 : (Op.equalIn 9999 31 (.int .u64 b) (.int .u64 d)).run Try.prog W = .ok (b == d) W := run_equalIn_int (P := Try.prog) (w := W) 9998 31 .u64 .u64 b d Try.underlying31
  simp only [List.range, List.range.loop, Op.eqItems, Sem.run_bind, p0, p1, Nat.zero_mul, Nat.one_mul, Result.andThen_ok, e0, e1]
  cases h1 : (a == c) <;> cases h2 : (b == d) <;> simp [p1, e1, h2]
def codec_SameVersion.f (a0 a1 : Int) (l : List Int) (b0 b1 : Int) (m : List Int) : Option Bool := some (decide (a0 = b0 ∧ a1 = b1 ∧ l = m))

set_option maxHeartbeats 2000000 in
set_option maxRecDepth 100000 in
theorem codec_SameVersion.calls (a0_0 a0_1 : Int) (A0_2 : Option Addr) (c0_2 : Nat) (l0_2 : List Int) (a1_0 a1_1 : Int) (A1_2 : Option Addr) (c1_2 : Nat) (l1_2 : List Int) (r : Bool) (w : World) (hr0 : Kd.C (Kd.int .i32) w A0_2 l0_2.length l0_2) (hc0 : l0_2.length ≤ c0_2) (hr1 : Kd.C (Kd.int .i32) w A1_2 l1_2.length l1_2) (hc1 : l1_2.length ≤ c1_2) (h : codec_SameVersion.f a0_0 a0_1 l0_2 a1_0 a1_1 l1_2 = some r) :
    Calls Try.prog 18 #[.agg #[.int .u64 a0_0, .int .u64 a0_1, .slice A0_2 l0_2.length c0_2], .agg #[.int .u64 a1_0, .int .u64 a1_1, .slice A1_2 l1_2.length c1_2]] w fun e w' => e = .returned (.bool r) ∧ Below w.heap.size w w' := by
  have HR0 := Aside0.mk hr0
  have HR1 := Aside0.mk hr1
  have HC0 := Aside0.mk hc0
  have HC1 := Aside0.mk hc1
  have hml := Kd.C_max hr0
  clear hr0 hr1 hc0 hc1
  go_enter Try.func18, Try.ntmps18
  have hq := eq_pair a0_0 a0_1 a1_0 a1_1
  by_cases h1 : a0_0 = a1_0 ∧ a0_1 = a1_1
  · obtain ⟨rfl, rfl⟩ := h1
    have hbb : ((a0_0 == a0_0) && (a0_1 == a0_1)) = true := by simp
    rw [hbb] at hq
    have HS := Aside0.mk (same_is (l0_2.length + 1) l0_2 l1_2 (by omega) hml)
    have hr : r = decide (l0_2 = l1_2) := by
      unfold codec_SameVersion.f at h
      rw [← Option.some.inj h]
      simp
    subst hr
    clear hbb h
    go_wp2_with fail
    refine (P.vec_Same.calls _ A0_2 c0_2 l0_2 A1_2 c1_2 l1_2 _ _ (Kd.C_below HR0.out ((below_alloc (below_alloc (Below.refl _ _) _) _))) HC0.out (Kd.C_below HR1.out ((below_alloc (below_alloc (Below.refl _ _) _) _))) HC1.out HS.out).mono ?_
    rintro e w' ⟨rfl, hd⟩
    have HB := Aside0.mk (below_step (below_alloc (below_alloc (Below.refl w.heap.size w) _) _) hd.below)
    clear hd
    go_wp2_with fail
    go_returns
    exact ⟨rfl, HB.out⟩
  · have hbb : ((a0_0 == a1_0) && (a0_1 == a1_1)) = false := by
      by_cases e : a0_0 = a1_0
      · rw [beq_eq_false_iff_ne.2 (fun e2 => h1 ⟨e, e2⟩), Bool.and_false]
      · rw [beq_eq_false_iff_ne.2 e, Bool.false_and]
    rw [hbb] at hq
    have hr : r = false := by
      unfold codec_SameVersion.f at h
      rw [← Option.some.inj h]
      exact decide_eq_false (fun e => h1 ⟨e.1, e.2.1⟩)
    subst hr
    clear hbb h h1
    go_wp2_with fail
    go_returns
    exact ⟨rfl, below_alloc (below_alloc (Below.refl w.heap.size w) _) _⟩

end Go.Proofs.Ytoblkjdiahoplaa.G
