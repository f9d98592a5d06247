/- quiverlaw05.VecMoves answers true, for every three vectors. -/
import Derived.Test.YtbdoeikdoohagaaPx7
import Derived.Test.YtbdoeikdoohagaaV1
namespace Go.Proofs.Ytbdoeikdoohagaa.G
open Go.Shelf Go.RowKit Go.Proofs.YtbdoeikdoohagaaW.PrintWords Go.Proofs.YtbdoeikdoohagaaW.PrintLast Go.Proofs.YtbdoeikdoohagaaW.PrintMore
set_option linter.unusedVariables false
set_option linter.unusedSimpArgs false

theorem sq_comm : ∀ l m : List Int, sq (l.zip m) = sq (m.zip l)
  | [], _ => by simp [sq]
  | _ :: _, [] => by simp [sq]
  | x :: l, y :: m => by
    simp only [List.zip_cons_cons, sq, sq_comm l m]
    rw [← Int.neg_sub y x, Int.neg_mul_neg]
theorem sq_zero : ∀ l m : List Int, l.length = m.length → (sq (l.zip m) = 0 ↔ l = m)
  | [], [], _ => by simp [sq]
  | x :: l, y :: m, h => by
    have ih := sq_zero l m (by simpa using h)
    have hn : ∀ (a b : List Int), 0 ≤ sq (a.zip b) := by
      intro a
      induction a with
      | nil => intro b; simp [sq]
      | cons x a iha =>
        intro b
        cases b with
        | nil => simp [sq]
        | cons y b =>
          have := iha b
          have h2 : 0 ≤ (x - y) * (x - y) := by
            rcases Int.le_total 0 (x - y) with h | h
            · exact Int.mul_nonneg h h
            · exact Int.mul_nonneg_of_nonpos_of_nonpos h h
          simp only [List.zip_cons_cons, sq]
          omega
    have h1 := hn l m
    have h2 : 0 ≤ (x - y) * (x - y) := by
      rcases Int.le_total 0 (x - y) with h | h
      · exact Int.mul_nonneg h h
      · exact Int.mul_nonneg_of_nonpos_of_nonpos h h
    simp only [List.zip_cons_cons, sq, List.cons.injEq]
    constructor
    · intro h3
      have h4 : (x - y) * (x - y) = 0 := by omega
      have h5 : sq (l.zip m) = 0 := by omega
      have h6 := Int.mul_eq_zero.1 h4
      exact ⟨by omega, ih.1 h5⟩
    · rintro ⟨rfl, rfl⟩
      rw [ih.2 rfl, Int.sub_self]
      rfl
def shift (l by_ : List Int) (k : Nat) : List Int := (List.range k).map fun i => l.getD i 0 + by_.getD i 0
theorem shift_snoc (l b : List Int) (k : Nat) : shift l b (k + 1) = shift l b k ++ [l.getD k 0 + b.getD k 0] := by simp [shift, List.range_succ]
theorem shift_len (l b : List Int) (k : Nat) : (shift l b k).length = k := by simp [shift]
theorem shift_sq (l m b : List Int) (hlm : l.length = m.length) : ∀ k, k ≤ l.length → sq ((shift l b k).zip (shift m b k)) = sq ((l.take k).zip (m.take k))
  | 0, _ => by simp [shift, sq]
  | k + 1, h => by
    have app : ∀ (p q : List (Int × Int)), sq (p ++ q) = sq p + sq q := by
      intro p q
      induction p with
      | nil => simp [sq]
      | cons x p ih => simp only [List.cons_append, sq, ih]; omega
    rw [shift_snoc, shift_snoc, List.zip_append (by rw [shift_len, shift_len]), app, shift_sq l m b hlm k (by omega), List.take_succ_eq_append_getElem (show k < l.length by omega), List.take_succ_eq_append_getElem (show k < m.length by omega), List.zip_append (by rw [List.length_take, List.length_take]; omega), app, getD_of_lt l k 0 (by omega), getD_of_lt m k 0 (by omega)]
    simp only [List.zip_cons_cons, List.zip_nil_right, sq]
    rw [show l[k] + b.getD k 0 - (m[k] + b.getD k 0) = l[k] - m[k] by omega]
theorem shift_ok (l b : List Int) : ∀ k, (∀ i, i < k → -1073741823 ≤ l.getD i 0 + b.getD i 0 ∧ l.getD i 0 + b.getD i 0 ≤ 1073741823) → (shift l b k).all okC = true := by
  intro k h
  rw [List.all_eq_true]
  intro x hx
  simp only [shift, List.mem_map, List.mem_range] at hx
  obtain ⟨i, hi, rfl⟩ := hx
  exact decide_eq_true (h i hi)

theorem moves_l0 (l m b : List Int) (hl : right l = true) (hm : right m = true) (hb : right b = true) (hlm : l.length = m.length) (hlb : b.length = l.length) : ∀ (d i k : Nat), i + d = l.length → d < k → (∀ j, j < i → (-1073741823 ≤ l.getD j 0 + b.getD j 0 ∧ l.getD j 0 + b.getD j 0 ≤ 1073741823) ∧ (-1073741823 ≤ m.getD j 0 + b.getD j 0 ∧ m.getD j 0 + b.getD j 0 ≤ 1073741823)) →
    P.quiverlaw05_VecMoves.l0 k l m b (distV l m) (shift l b i) (shift m b i) (l.length : Int) (i : Int) = some true
  | 0, i, k + 1, h, _, hr => by
    obtain rfl : i = l.length := by omega
    have hlen := right_len l hl
    have r1 : right (shift l b l.length) = true := by
      unfold right
      rw [shift_len, shift_ok l b _ (fun i hi => (hr i hi).1), decide_eq_true hlen]; rfl
    have r2 : right (shift m b l.length) = true := by
      unfold right
      rw [shift_len, shift_ok m b _ (fun i hi => (hr i hi).2), decide_eq_true hlen]; rfl
    have e : distV (shift l b l.length) (shift m b l.length) = distV l m := by
      rw [distV_sq _ _ r1 r2, distV_sq l m hl hm, shift_sq l m b hlm _ (Nat.le_refl _), List.take_length, List.take_of_length_le (by omega)]
    rw [P.quiverlaw05_VecMoves.l0, if_neg (by omega), dist_ok _ _ r1 r2 (by rw [shift_len, shift_len]), Option.bind_some, if_pos rfl, e]
    simp
  | d + 1, i, k + 1, h, hk, hr => by
    have hlen := right_len l hl
    have hx := right_comp l hl i
    have hy := right_comp m hm i
    have hz := right_comp b hb i
    rw [P.quiverlaw05_VecMoves.l0, if_pos (by omega), if_pos (by omega), if_pos (by omega), if_pos (by omega), if_pos (by omega), rd_nat, rd_nat, rd_nat]
    have hsn := shift_snoc l b i
    have hsn2 := shift_snoc m b i
    have hr' : (-1073741823 ≤ l.getD i 0 + b.getD i 0 ∧ l.getD i 0 + b.getD i 0 ≤ 1073741823) ∧ (-1073741823 ≤ m.getD i 0 + b.getD i 0 ∧ m.getD i 0 + b.getD i 0 ≤ 1073741823) → ∀ j, j < i + 1 → (-1073741823 ≤ l.getD j 0 + b.getD j 0 ∧ l.getD j 0 + b.getD j 0 ≤ 1073741823) ∧ (-1073741823 ≤ m.getD j 0 + b.getD j 0 ∧ m.getD j 0 + b.getD j 0 ≤ 1073741823) := fun h j hj => by
      by_cases e : j = i
      · rw [e]; exact h
      · exact hr j (by omega)
    generalize l.getD i 0 = x at *
    generalize m.getD i 0 = y at *
    generalize b.getD i 0 = z at *
    rw [w64 (i := x) (by omega) (by omega), w64 (i := y) (by omega) (by omega), w64 (i := z) (by omega) (by omega), w64 (i := x + z) (by omega) (by omega), w64 (i := y + z) (by omega) (by omega), w64 (i := (i : Int) + 1) (by omega) (by omega), show ((i : Int) + 1) = ((i + 1 : Nat) : Int) by omega]
    by_cases h1 : mx (x + z) (y + z) > 1073741823
    · rw [if_pos h1]
    · by_cases h2 : mn (x + z) (y + z) < -1073741823
      · rw [if_neg h1, if_pos h2]
      · have h3 : (-1073741823 ≤ x + z ∧ x + z ≤ 1073741823) ∧ (-1073741823 ≤ y + z ∧ y + z ≤ 1073741823) := by
          unfold mx at h1
          unfold mn at h2
          split at h1 <;> split at h2 <;> omega
        rw [if_neg h1, if_neg h2, if_pos (by rw [shift_len]; omega), if_pos (by rw [shift_len]; omega), w32 (by omega) (by omega), w32 (by omega) (by omega), ← hsn, ← hsn2]
        exact moves_l0 l m b hl hm hb hlm hlb d (i + 1) k (by omega) (by omega) (hr' h3)

theorem distR_comm (l m : List Int) : distR l m = distR m l := by
  by_cases h : (distR l m).2 = 0
  · obtain ⟨h1, h2, h3, h4⟩ := dist_zero h
    have h5 : distR m l = (distV m l, 0) := Option.some.inj (dist_ok m l h2 h1 h3.symm)
    rw [h4, h5, distV_sq l m h1 h2, distV_sq m l h2 h1, sq_comm]
  · have e1 : allErr [l, m] = allErr [m, l] := by
      rw [err2, err2]
      by_cases h1 : right l = true ∧ right m = true
      · rw [if_pos h1, if_pos h1.symm]
        by_cases h2 : l.length = m.length
        · rw [if_pos h2, if_pos h2.symm]
        · rw [if_neg h2, if_neg (fun e => h2 e.symm)]
      · rw [if_neg h1, if_neg (fun e => h1 e.symm)]
    unfold distR at h ⊢
    rw [← e1]
    by_cases e : allErr [l, m] = 0
    · rw [if_pos e] at h; exact absurd rfl h
    · rw [if_neg e, if_neg e]
theorem moves_pure (l m b : List Int) : P.quiverlaw05_VecMoves.f 21 l m b = some true := by
  unfold P.quiverlaw05_VecMoves.f
  rw [show wakes05.f = some true from rfl, Option.bind_some, if_pos rfl]
  unfold vec_Dist.f
  rw [Option.bind_some, Option.bind_some, distR_comm m l, if_pos rfl, show (21 : Nat) = 20 + 1 from rfl, P.quiverlaw05_VecMoves.j0, if_neg (by simp)]
  by_cases h : (distR l m).2 = 0
  · obtain ⟨hl, hm, hlm, e⟩ := dist_zero h
    have hlen := right_len l hl
    rw [e, if_pos rfl, same_is 20 l m (by omega) (by omega), Option.bind_some]
    have hz := sq_zero l m hlm
    rw [← distV_sq l m hl hm] at hz
    rw [if_neg (by rw [show (distV l m == 0) = decide (l = m) by rw [Bool.eq_iff_iff, beq_iff_eq, decide_eq_true_iff]; exact hz]; simp), of_is, Option.bind_some]
    by_cases hb : right b = true
    · rw [if_pos hb]
      by_cases hbl : (b.length : Int) = (l.length : Int)
      · rw [if_pos hbl, if_pos rfl]
        exact moves_l0 l m b hl hm hb hlm (by omega) l.length 0 20 (by omega) (by omega) (fun j hj => absurd hj (Nat.not_lt_zero _))
      · rw [if_neg hbl, if_neg (by omega)]
    · rw [if_neg hb, if_neg (by omega)]
  · rw [if_neg h]
    unfold distR at h ⊢
    by_cases e : allErr [l, m] = 0
    · rw [if_pos e] at h; exact absurd rfl h
    · rw [if_neg e]; rfl

theorem vecMoves.walk (A : Option Addr) (c : Nat) (l : List Int) (B : Option Addr) (d : Nat) (m : List Int) (C : Option Addr) (f : Nat) (b : List Int) (W : World) (hl : l.length ≤ c) (hC : Kd.C (Kd.int .i32) W A l.length l) (wl : ∀ x ∈ l, (Lit.int .i32 x).wf = true) (hm : m.length ≤ d) (hD : Kd.C (Kd.int .i32) W B m.length m) (wm : ∀ x ∈ m, (Lit.int .i32 x).wf = true) (hb : b.length ≤ f) (hE : Kd.C (Kd.int .i32) W C b.length b) (wb : ∀ x ∈ b, (Lit.int .i32 x).wf = true) :
    Calls Try.prog 5 #[.slice A l.length c, .slice B m.length d, .slice C b.length f] W fun e W' => e = .returned (.bool true) ∧ Below W.heap.size W W' :=
  P.quiverlaw05_VecMoves.calls _ A c l B d m C f b true W hC hl hD hm hE hb (moves_pure l m b)

end Go.Proofs.Ytbdoeikdoohagaa.G
