/- What the laws' helpers few and some, and the document's Same, come to: plain. -/
import Derived.Test.YtbdoeikdoohagaaV1
namespace Go.Proofs.Ytbdoeikdoohagaa.G
open Go.Shelf Go.RowKit Go.Proofs.YtbdoeikdoohagaaW.PrintWords Go.Proofs.YtbdoeikdoohagaaW.PrintLast Go.Proofs.YtbdoeikdoohagaaW.PrintMore
set_option linter.unusedVariables false
set_option linter.unusedSimpArgs false

/-- The first n, each of them cut at five. -/
def fewV (n : Nat) (l : List (List Int)) : List (List Int) := (l.take n).map (List.take 5)
def someV (l : List Int) : List Int := l.take 7
theorem mn_take {α : Type} (x : List α) (n : Nat) : ∃ m : Nat, mn (x.length : Int) (n : Int) = (m : Int) ∧ m ≤ x.length ∧ m ≤ n ∧ x.take m = x.take n := by
  unfold mn
  by_cases h : (n : Int) < (x.length : Int)
  · rw [if_pos h]; exact ⟨n, rfl, by omega, Nat.le_refl _, rfl⟩
  · rw [if_neg h]; exact ⟨x.length, rfl, Nat.le_refl _, by omega, by rw [List.take_length, List.take_of_length_le (by omega)]⟩
theorem few_l0 (l : List (List Int)) (n : Nat) (hn : n ≤ 1000) (hl : l.length ≤ 9223372036854775807) : ∀ (d i k : Nat), i + d = l.length → d < k → P.quiverlaw12_few.l0 k (n : Int) (fewV n (l.take i)) l (l.length : Int) (i : Int) = some (fewV n l)
  | 0, i, k + 1, h, _ => by
    rw [P.quiverlaw12_few.l0, if_neg (by omega), List.take_of_length_le (by omega)]
  | d + 1, i, k + 1, h, hk => by
    have ih := few_l0 l n hn hl d (i + 1) k (by omega) (by omega)
    rw [P.quiverlaw12_few.l0, if_pos (by omega), if_pos (by omega), if_pos (by omega), rdL_nat]
    by_cases hi : i < n
    · obtain ⟨m, e, h1, h2, h3⟩ := mn_take (l.getD i []) 5
      rw [show ((5 : Nat) : Int) = 5 from rfl] at e
      have hlen : (fewV n (l.take i)).length ≤ i := by unfold fewV; rw [List.length_map, List.length_take, List.length_take]; omega
      have hf : fewV n (l.take i) ++ [[] ++ (l.getD i []).take m] = fewV n (l.take (i + 1)) := by
        unfold fewV
        rw [List.take_take, List.take_take, Nat.min_eq_right (by omega), Nat.min_eq_right (by omega), take_snocR l i (by omega), List.map_append, h3]
        rfl
      rw [if_pos (by omega), Option.bind_some, e, if_pos (by omega), if_pos (by omega), Int.toNat_natCast, if_pos (by rw [List.length_take]; simp only [List.length_nil]; omega), if_pos (by omega), hf, w64 (by omega) (by omega), show ((i : Int) + 1) = ((i + 1 : Nat) : Int) by omega]
      exact ih
    · have hf : fewV n (l.take i) = fewV n (l.take (i + 1)) := by
        unfold fewV
        rw [List.take_take, List.take_take, Nat.min_eq_left (by omega), Nat.min_eq_left (by omega)]
      rw [if_neg (by omega), hf, w64 (by omega) (by omega), show ((i : Int) + 1) = ((i + 1 : Nat) : Int) by omega]
      exact ih
theorem few_is (k : Nat) (l : List (List Int)) (n : Nat) (hn : n ≤ 1000) (hl : l.length ≤ 9223372036854775807) (hk : l.length < k) : P.quiverlaw12_few.f k l (n : Int) = some (fewV n l) := by
  unfold P.quiverlaw12_few.f
  have := few_l0 l n hn hl l.length 0 k (by omega) hk
  rw [List.take_zero, show fewV n [] = [] by simp [fewV]] at this
  exact this
theorem few_len (n : Nat) (l : List (List Int)) : (fewV n l).length ≤ n := by unfold fewV; rw [List.length_map, List.length_take]; omega
theorem few_short {n : Nat} {l : List (List Int)} {x : List Int} (h : x ∈ fewV n l) : x.length ≤ 5 := by
  obtain ⟨y, _, rfl⟩ := List.mem_map.1 h
  rw [List.length_take]; omega
theorem few_short' (n : Nat) (l : List (List Int)) (i : Nat) : ((fewV n l).getD i []).length ≤ 5 := by
  by_cases h : i < (fewV n l).length
  · rw [getD_of_lt _ i [] h]; exact few_short (List.getElem_mem h)
  · rw [List.getD_eq_getElem?_getD, List.getElem?_eq_none (by omega)]; exact Nat.zero_le _
theorem some_is (l : List Int) : P.quiverlaw12_some.f l = some (someV l) := by
  obtain ⟨m, e, h1, h2, h3⟩ := mn_take l 7
  rw [show ((7 : Nat) : Int) = 7 from rfl] at e
  unfold P.quiverlaw12_some.f
  rw [Option.bind_some, e, if_pos (by omega), if_pos (by omega), Int.toNat_natCast, if_pos (by rw [List.length_take]; simp only [List.length_nil]; omega), h3]
  rfl
theorem refsameR_l0 (a b : List (List Int)) (M : Nat) (hM : ∀ i, (a.getD i []).length ≤ M) (hl : a.length ≤ 1000000) (hM2 : M ≤ 1000000) (hab : a.length = b.length) : ∀ (d i k : Nat), i + d = a.length → d + M + 1 < k → P.quiverref12_Same.l0 k a b (a.length : Int) (i : Int) = some (decide (a.drop i = b.drop i))
  | 0, i, k + 1, h, _ => by
    rw [P.quiverref12_Same.l0, if_neg (by omega), List.drop_eq_nil_of_le (by omega), List.drop_eq_nil_of_le (by omega)]
    rfl
  | d + 1, i, k + 1, h, hk => by
    have ih := refsameR_l0 a b M hM hl hM2 hab d (i + 1) k (by omega) (by omega)
    have hi := hM i
    rw [P.quiverref12_Same.l0, if_pos (by omega), if_pos (by omega), if_pos (by omega), if_pos (by omega), rdL_nat, rdL_nat, refsame_is k _ _ (by omega) (by omega), Option.bind_some, drop_at a i [] (by omega), drop_at b i [] (by omega)]
    by_cases e : a.getD i [] = b.getD i []
    · rw [if_pos (decide_eq_true e), w64 (by omega) (by omega), show ((i : Int) + 1) = ((i + 1 : Nat) : Int) by omega, ih, e]
      simp
    · rw [if_neg (by rw [decide_eq_true_iff]; exact e), decide_eq_false (fun h => e (List.cons.inj h).1)]
theorem refsameR_is (k : Nat) (a b : List (List Int)) (M : Nat) (hM : ∀ i, (a.getD i []).length ≤ M) (hl : a.length ≤ 1000000) (hM2 : M ≤ 1000000) (hk : a.length + M + 1 < k) : P.quiverref12_Same.f k a b = some (decide (a = b)) := by
  unfold P.quiverref12_Same.f
  by_cases h : a.length = b.length
  · rw [if_pos (by omega)]
    have := refsameR_l0 a b M hM hl hM2 h a.length 0 k (by omega) hk
    rw [List.drop_zero, List.drop_zero] at this
    exact this
  · rw [if_neg (by omega), decide_eq_false (fun e => h (by rw [e]))]
def mxl {α : Type} : List (List α) → Nat
  | [] => 0
  | x :: l => max x.length (mxl l)
theorem mxl_le {α : Type} : ∀ (l : List (List α)) (i : Nat), (l.getD i []).length ≤ mxl l
  | [], i => by simp
  | x :: l, 0 => by simp [mxl]; omega
  | x :: l, i + 1 => by
    have := mxl_le l i
    simp only [List.getD_cons_succ, mxl]
    omega
theorem C_inner {α : Type} {d : Kd α} {e : Nat} {w : World} {A : Option Addr} {l : List (List α)} (h : Kd.C (Kd.slice e d) w A l.length l) (i : Nat) : (l.getD i []).length ≤ 9223372036854775807 := by
  by_cases hi : i < l.length
  · obtain ⟨_, _, _, _, _, _, hC⟩ := C_row h i hi
    exact Kd.C_max hC
  · rw [List.getD_eq_getElem?_getD, List.getElem?_eq_none (by omega)]; exact Nat.zero_le _

end Go.Proofs.Ytbdoeikdoohagaa.G
