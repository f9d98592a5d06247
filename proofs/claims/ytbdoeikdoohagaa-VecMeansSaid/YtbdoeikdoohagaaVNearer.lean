/- quiverlaw05.VecNearer answers true, for every row of vectors and vector. -/
import Derived.Test.YtbdoeikdoohagaaPx7
import Derived.Test.YtbdoeikdoohagaaV1
namespace Go.Proofs.Ytbdoeikdoohagaa.G
open Go.Shelf Go.RowKit Go.Proofs.YtbdoeikdoohagaaW.PrintWords Go.Proofs.YtbdoeikdoohagaaW.PrintLast Go.Proofs.YtbdoeikdoohagaaW.PrintMore
set_option linter.unusedVariables false
set_option linter.unusedSimpArgs false

theorem over_l0 (l : List (List Int)) (hl : l.length ≤ 80) : ∀ (d i k : Nat), i + d = l.length → d < k → P.quiverlaw05_over.l0 k l (l.length : Int) (i : Int) = some ((l.drop i).any fun v => decide (100 < v.length))
  | 0, i, k + 1, h, _ => by
    rw [P.quiverlaw05_over.l0, if_neg (by omega), List.drop_eq_nil_of_le (by omega)]
    rfl
  | d + 1, i, k + 1, h, hk => by
    rw [P.quiverlaw05_over.l0, if_pos (by omega), if_pos (by omega), if_pos (by omega), rdL_nat, drop_at l i [] (by omega), List.any_cons]
    by_cases h1 : ((l.getD i []).length : Int) > 100
    · rw [if_pos h1, decide_eq_true (show 100 < (l.getD i []).length by omega)]; rfl
    · rw [if_neg h1, decide_eq_false (show ¬ 100 < (l.getD i []).length by omega), Bool.false_or, w64 (by omega) (by omega), show ((i : Int) + 1) = ((i + 1 : Nat) : Int) by omega]
      exact over_l0 l hl d (i + 1) k (by omega) (by omega)
def over (l : List (List Int)) : Bool := decide (80 < l.length) || l.any fun v => decide (100 < v.length)
theorem over_is (l : List (List Int)) (k : Nat) (hk : 81 ≤ k) : P.quiverlaw05_over.f k l = some (over l) := by
  unfold P.quiverlaw05_over.f over
  by_cases h : (l.length : Int) > 80
  · rw [if_pos h, decide_eq_true (show 80 < l.length by omega)]; rfl
  · rw [if_neg h, decide_eq_false (show ¬ 80 < l.length by omega), Bool.false_or]
    have := over_l0 l (by omega) l.length 0 k (by omega) (by omega)
    rw [List.drop_zero] at this
    exact this

/-- What the nearest of the first k is. -/
theorem nst_spec (l : List (List Int)) (v : List Int) : ∀ k, k ≤ l.length → 0 < l.length → ∃ j : Nat, (nst l v k).1 = (j : Int) ∧ j < l.length ∧ (j ≤ k) ∧ (nst l v k).2 = distV (l.getD j []) v ∧ ∀ i, i < k → (nst l v k).2 ≤ distV (l.getD i []) v ∧ (distV (l.getD i []) v = (nst l v k).2 → j ≤ i)
  | 0, _, h0 => ⟨0, rfl, h0, Nat.le_refl _, rfl, fun i hi => absurd hi (Nat.not_lt_zero _)⟩
  | k + 1, hk, h0 => by
    obtain ⟨j, h1, h2, h3, h4, h5⟩ := nst_spec l v k (by omega) h0
    unfold nst
    by_cases hc : distV (l.getD k []) v < (nst l v k).2 ∨ (distV (l.getD k []) v = (nst l v k).2 ∧ (k : Int) < (nst l v k).1)
    · rw [if_pos hc]
      refine ⟨k, rfl, by omega, by omega, rfl, fun i hi => ?_⟩
      simp only
      by_cases e : i = k
      · subst e; exact ⟨Int.le_refl _, fun _ => Nat.le_refl _⟩
      · have h6 := h5 i (by omega)
        rcases hc with hc | ⟨hc, hc2⟩
        · exact ⟨by omega, fun h => by omega⟩
        · omega
    · rw [if_neg hc]
      refine ⟨j, h1, h2, by omega, h4, fun i hi => ?_⟩
      by_cases e : i = k
      · subst e
        refine ⟨by omega, fun h => ?_⟩
        omega
      · exact h5 i (by omega)

theorem nearer_l0 (l : List (List Int)) (v : List Int) (hl : l.length ≤ 80) (j : Nat) (b : Int) (hz : allErr (v :: l) = 0) (hb : ∀ i, i < l.length → b ≤ distV (l.getD i []) v ∧ (distV (l.getD i []) v = b → j ≤ i)) : ∀ (d i k : Nat), i + d = l.length → d < k → P.quiverlaw05_VecNearer.l0 k v (j : Int) b l (l.length : Int) (i : Int) = some true
  | 0, i, k + 1, h, _ => by
    rw [P.quiverlaw05_VecNearer.l0, if_neg (by omega)]
  | d + 1, i, k + 1, h, hk => by
    obtain ⟨h1, h2⟩ := (allErr_zero _).1 hz
    rw [List.all_cons, Bool.and_eq_true] at h1
    have hr := right_at l h1.2 i (by omega)
    have hlen := len_at (v :: l) h2 (i + 1) (by simp; omega)
    simp only [List.getD_cons_succ, List.getD_cons_zero] at hlen
    have hi := hb i (by omega)
    rw [P.quiverlaw05_VecNearer.l0, if_pos (by omega), if_pos (by omega), if_pos (by omega), rdL_nat, dist_ok _ _ hr h1.1 hlen, Option.bind_some, if_pos rfl, if_neg (by omega), w64 (by omega) (by omega), show ((i : Int) + 1) = ((i + 1 : Nat) : Int) by omega]
    have ih := nearer_l0 l v hl j b hz hb d (i + 1) k (by omega) (by omega)
    by_cases e : distV (l.getD i []) v = b
    · rw [if_pos e, if_neg (by have := hi.2 e; omega)]
      exact ih
    · rw [if_neg e]
      exact ih

theorem nearer_pure (l : List (List Int)) (v : List Int) : P.quiverlaw05_VecNearer.f 200 l v = some true := by
  unfold P.quiverlaw05_VecNearer.f
  rw [show wakes05.f = some true from rfl, Option.bind_some, if_pos rfl, over_is l 200 (by omega), Option.bind_some]
  cases ho : over l with
  | true => rw [if_pos rfl]
  | false =>
    unfold over at ho
    rw [Bool.or_eq_false_iff] at ho
    have hl : l.length ≤ 80 := by have := of_decide_eq_false ho.1; omega
    unfold vec_Nearest.f
    rw [if_neg (by decide), if_pos (by omega), Option.bind_some]
    unfold nearR
    by_cases h0 : l.length = 0
    · rw [if_pos h0]; rfl
    rw [if_neg h0]
    by_cases hz : allErr (v :: l) = 0
    · rw [if_pos hz]
      obtain ⟨j, h1, h2, h3, h4, h5⟩ := nst_spec l v l.length (Nat.le_refl _) (by omega)
      simp only [if_true]
      rw [h1, if_pos (by omega), if_pos (by omega), rdL_nat]
      obtain ⟨g1, g2⟩ := (allErr_zero _).1 hz
      rw [List.all_cons, Bool.and_eq_true] at g1
      have hr := right_at l g1.2 j h2
      have hlen := len_at (v :: l) g2 (j + 1) (by simp; omega)
      simp only [List.getD_cons_succ, List.getD_cons_zero] at hlen
      rw [dist_ok _ _ hr g1.1 hlen, Option.bind_some, if_pos rfl]
      rw [h4] at h5
      exact nearer_l0 l v hl j _ hz h5 l.length 0 200 (by omega) (by omega)
    · rw [if_neg hz]
      simp only [hz, if_false]
      rfl

theorem vecNearer.walk (A : Option Addr) (c : Nat) (l : List (List Int)) (B : Option Addr) (d : Nat) (v : List Int) (W : World) (hl : l.length ≤ c) (hC : Kd.C (Kd.slice 21 (Kd.int .i32)) W A l.length l) (wl : ∀ x ∈ l, ∀ y ∈ x, (Lit.int .i32 y).wf = true) (hv : v.length ≤ d) (hD : Kd.C (Kd.int .i32) W B v.length v) (wv : ∀ x ∈ v, (Lit.int .i32 x).wf = true) :
    Calls Try.prog 8 #[.slice A l.length c, .slice B v.length d] W fun e W' => e = .returned (.bool true) ∧ Below W.heap.size W W' :=
  P.quiverlaw05_VecNearer.calls _ A c l B d v true W hC hl hD hv (nearer_pure l v)

end Go.Proofs.Ytbdoeikdoohagaa.G
