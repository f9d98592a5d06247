/- quiverlaw05.VecDists answers true, for every two vectors and dimension. -/
import Derived.Test.YtbdoeikdoohagaaPx6
import Derived.Test.YtbdoeikdoohagaaV1
namespace Go.Proofs.Ytbdoeikdoohagaa.G
open Go.Shelf Go.RowKit Go.Proofs.YtbdoeikdoohagaaW.PrintWords Go.Proofs.YtbdoeikdoohagaaW.PrintLast Go.Proofs.YtbdoeikdoohagaaW.PrintMore
set_option linter.unusedVariables false
set_option linter.unusedSimpArgs false

theorem dists_pure (l m : List Int) (n : Int) : P.quiverlaw05_VecDists.f 203 l m n = some true := by
  unfold P.quiverlaw05_VecDists.f
  rw [show wakes05.f = some true from rfl, Option.bind_some, if_pos rfl, show (203 : Nat) = 202 + 1 from rfl]
  by_cases h1 : (l.length : Int) > 100
  · rw [if_pos h1, P.quiverlaw05_VecDists.j0, if_pos rfl]
  by_cases h2 : (m.length : Int) > 100
  · rw [if_neg h1, P.quiverlaw05_VecDists.j0, if_pos (by simpa using h2)]
  rw [if_neg h1, P.quiverlaw05_VecDists.j0, if_neg (by simpa using h2)]
  unfold vec_Dist.f vec_Check.f
  rw [Option.bind_some, Option.bind_some, of_is, Option.bind_some, same_is 202 l m (by omega) (by omega), Option.bind_some, refsame_is 202 l m (by omega) (by omega), Option.bind_some, if_neg (by simp), same_is 202 l l (by omega) (by omega), Option.bind_some, show (202 : Nat) = 201 + 1 from rfl, P.quiverlaw05_VecDists.j1, if_neg (by simp), right_is 201 l (by omega) (by omega), Option.bind_some]
  unfold checkV distR
  rw [err2]
  by_cases hl : right l = true
  · rw [if_pos hl, if_pos hl, if_pos hl, if_pos rfl]
    have hj : ∀ q : Bool, q = false → P.quiverlaw05_VecDists.j2 201 l m (if (if right l = true ∧ right m = true then (if l.length = m.length then (0 : Int) else 151) else 150) = 0 then (distV l m, (0 : Int)) else (0, if right l = true ∧ right m = true then (if l.length = m.length then (0 : Int) else 151) else 150)).1 (if (if right l = true ∧ right m = true then (if l.length = m.length then (0 : Int) else 151) else 150) = 0 then (distV l m, (0 : Int)) else (0, if right l = true ∧ right m = true then (if l.length = m.length then (0 : Int) else 151) else 150)).2 q = some true := by
      rintro q rfl
      rw [show (201 : Nat) = 200 + 1 from rfl, P.quiverlaw05_VecDists.j2, if_neg (by simp), right_is 200 m (by omega) (by omega), Option.bind_some]
      by_cases hm : right m = true
      · simp only [hl, hm, and_self, if_true]
        by_cases hlm : l.length = m.length
        · rw [if_pos (by omega), if_pos hlm, if_pos rfl, if_pos rfl, refdist_is 200 l m hlm hl hm (by omega), Option.bind_some]
          simp
        · have e1 : ¬ ((l.length : Int) = (m.length : Int)) := by omega
          simp only [e1, hlm, if_false]
          simp
      · rw [if_neg hm]
        simp [hm]
    by_cases hn : (l.length : Int) = n
    · rw [if_pos hn, if_neg (by simp [hn]), if_pos rfl]
      exact hj false rfl
    · rw [if_neg hn, if_neg (by simp [hn]), if_neg (by omega)]
      exact hj _ rfl
  · rw [if_neg hl, if_neg hl, if_neg hl, if_pos rfl, if_pos rfl]
    simp [hl]

theorem vecDists.walk (A : Option Addr) (c : Nat) (l : List Int) (B : Option Addr) (d : Nat) (m : List Int) (n : Int) (W : World) (hl : l.length ≤ c) (hC : Kd.C (Kd.int .i32) W A l.length l) (wl : ∀ x ∈ l, (Lit.int .i32 x).wf = true) (hm : m.length ≤ d) (hD : Kd.C (Kd.int .i32) W B m.length m) (wm : ∀ x ∈ m, (Lit.int .i32 x).wf = true) (wn : (Lit.int .i64 n).wf = true) :
    Calls Try.prog 4 #[.slice A l.length c, .slice B m.length d, .int .i64 n] W fun e W' => e = .returned (.bool true) ∧ Below W.heap.size W W' :=
  P.quiverlaw05_VecDists.calls _ A c l B d m n true W hC hl hD hm (dists_pure l m n)

end Go.Proofs.Ytbdoeikdoohagaa.G
