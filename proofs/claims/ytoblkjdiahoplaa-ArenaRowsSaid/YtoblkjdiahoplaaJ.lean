/- Contracts of slices.stableCmpFunc, slices.SortStableFunc over fewer than twenty cells; of ByRows' order. -/
import Derived.Test.YtoblkjdiahoplaaI
import Derived.Test.YtoblkjdiahoplaaPx9
namespace Go.Proofs.Ytoblkjdiahoplaa.G
open Go.Shelf Go.RowKit Go.Proofs.YtoblkjdiahoplaaW.PrintWords Go.Proofs.YtoblkjdiahoplaaW.PrintLast Go.Proofs.YtoblkjdiahoplaaW.PrintMore
set_option linter.unusedVariables false
set_option linter.unusedSimpArgs false

set_option maxHeartbeats 1000000 in
set_option maxRecDepth 100000 in
/-- At most one element: nothing is read. -/
theorem ins_one (v : Value) (b : Nat) (fv : Value) (w : World) (hb : b ≤ 1) :
    Calls Try.prog 63 #[v, .int .i64 0, .int .i64 (b : Int), fv] w fun e w' => e = .returned (.tuple #[]) ∧ w = w' := by
  have hz : ¬ (1 : Int) < (b : Int) := by omega
  go_enter Try.func63, Try.ntmps63
  go_wp2_with fail
  refine wp_loop_rounds 1 ?_
  rw [rounds_succ]
  go_wp2_with fail
  go_end0
  exact ⟨rfl, rfl⟩

set_option maxHeartbeats 1000000 in
set_option maxRecDepth 100000 in
theorem stable_small (v : Value) (n : Nat) (K : Nat) (lb : Array Value) (R : World → Prop) (w : World) (hn : n < 20)
    (H : Calls Try.prog 63 #[v, .int .i64 0, .int .i64 (n : Int), .func (.func K) #[] lb] w fun e w' => e = .returned (.tuple #[]) ∧ R w') :
    Calls Try.prog 55 #[v, .int .i64 (n : Int), .func (.func K) #[] lb] w fun e w' => e = .returned (.tuple #[]) ∧ R w' := by
  have hz : ¬ (20 : Int) ≤ (n : Int) := by omega
  have hz2 : ¬ (20 : Int) < (n : Int) := by omega
  have HH := Aside0.mk H
  clear H
  go_enter Try.func55, Try.ntmps55
  go_wp2_with fail
  refine wp_loop_rounds 1 ?_
  rw [rounds_succ]
  go_wp2_with fail
  refine HH.out.mono ?_
  rintro e w1 ⟨rfl, hr⟩
  have HR := Aside0.mk hr
  clear hr
  go_wp2_with fail
  refine wp_loop_rounds 1 ?_
  rw [rounds_succ]
  go_wp2_with fail
  go_end0
  exact ⟨rfl, HR.out⟩

set_option maxHeartbeats 1000000 in
set_option maxRecDepth 100000 in
theorem sortst_small (A : Option Addr) (n c : Nat) (K : Nat) (lb : Array Value) (R : World → Prop) (w : World) (hn : n < 20)
    (H : Calls Try.prog 63 #[.slice A n c, .int .i64 0, .int .i64 (n : Int), .func (.func K) #[] lb] w fun e w' => e = .returned (.tuple #[]) ∧ R w') :
    Calls Try.prog 34 #[.slice A n c, .func (.func K) #[] lb] w fun e w' => e = .returned (.tuple #[]) ∧ R w' := by
  have HH := Aside0.mk (stable_small (.slice A n c) n K lb R w hn H)
  clear H
  go_enter Try.func34, Try.ntmps34
  go_wp2_with fail
  refine HH.out.mono ?_
  rintro e w1 ⟨rfl, hr⟩
  have HR := Aside0.mk hr
  clear hr
  go_wp2_with fail
  go_end0
  exact ⟨rfl, HR.out⟩

def sgn (x y : Int) : Int := if x < y then -1 else if y < x then 1 else 0
/-- By rows. -/
def cfR (x y : Cell) : Int := if sgn x.f1 y.f1 ≠ 0 then sgn x.f1 y.f1 else sgn x.f2.f0 y.f2.f0
theorem compare_is (x y : Int) : P.cmp_Compare_uint64.f x y = some (sgn x y) := by
  unfold P.cmp_Compare_uint64.f P.cmp_isNaN_uint64.f sgn
  by_cases h : x < y
  · simp [h]
  · by_cases h2 : y < x <;> simp [h, h2]
theorem or_is (s t : Int) : P.cmp_Or_int.f 5 [s, t] = some (if s ≠ 0 then s else t) := by
  have e0 : rd [s, t] 0 = s := rfl
  have e1 : rd [s, t] 1 = t := rfl
  have w1 : wrap64 (0 + 1) = 1 := by rw [w64 (by omega) (by omega)]; rfl
  have w2 : wrap64 (1 + 1) = 2 := by rw [w64 (by omega) (by omega)]; rfl
  unfold P.cmp_Or_int.f
  rw [P.cmp_Or_int.l0, if_pos (by simp), if_pos (by omega), if_pos (by simp), e0]
  by_cases hs : s = 0
  · rw [if_pos hs, if_neg (fun h => h hs), w1, P.cmp_Or_int.l0, if_pos (by simp), if_pos (by omega), if_pos (by simp), e1]
    by_cases ht : t = 0
    · rw [if_pos ht, w2, P.cmp_Or_int.l0, if_neg (by simp), ht]
    · rw [if_neg ht]
  · rw [if_neg hs, if_pos hs]
theorem byrows_is (x y : Cell) : P.arena_ByRows_1.f 5 x.f0 x.f1 x.f2.f0 x.f2.f1 x.f2.f2 y.f0 y.f1 y.f2.f0 y.f2.f1 y.f2.f2 = some (cfR x y) := by
  unfold P.arena_ByRows_1.f cfR
  rw [compare_is, compare_is]
  generalize sgn x.f1 y.f1 = s
  generalize sgn x.f2.f0 y.f2.f0 = t
  rw [Option.bind_some, Option.bind_some, or_is, Option.bind_some]
theorem byrows1 (x y : Cell) (A : Option Addr) (c : Nat) (B : Option Addr) (d : Nat) (W : World) (hl : x.f2.f2.length ≤ c) (hA : Kd.C (Kd.int .i32) W A x.f2.f2.length x.f2.f2) (hm : y.f2.f2.length ≤ d) (hB : Kd.C (Kd.int .i32) W B y.f2.f2.length y.f2.f2) :
    Calls Try.prog 35 (#[cV x A c, cV y B d] ++ #[]) W fun e w' => e = .returned (.int .i64 (cfR x y)) ∧ Below W.heap.size W w' :=
  P.arena_ByRows_1.calls 5 x.f0 x.f1 x.f2.f0 x.f2.f1 A c x.f2.f2 y.f0 y.f1 y.f2.f0 y.f2.f1 B d y.f2.f2 (cfR x y) W hA hl hB hm (byrows_is x y)

end Go.Proofs.Ytoblkjdiahoplaa.G
