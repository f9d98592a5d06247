/- ArenaPacks: plain. -/
import Derived.Test.YtoblkjdiahoplaaA3
import Derived.Test.YtoblkjdiahoplaaPx11
namespace Go.Proofs.Ytoblkjdiahoplaa.G
open Go.Shelf Go.RowKit Go.Proofs.YtoblkjdiahoplaaW.PrintWords Go.Proofs.YtoblkjdiahoplaaW.PrintLast Go.Proofs.YtoblkjdiahoplaaW.PrintMore
set_option linter.unusedVariables false
set_option linter.unusedSimpArgs false

theorem refver_is (k : Nat) (b e : Int) (v : List Int) (hk : v.length < k) (hl : v.length ≤ 9223372036854775807) : P.quiverref07_RightVersion.f k b e v = some (rightVer b e v) := by
  unfold P.quiverref07_RightVersion.f rightVer
  by_cases h1 : b < 1
  · rw [if_pos h1, decide_eq_false (show ¬ (1 ≤ b ∧ b ≤ 1099511627776) by omega)]; simp
  · by_cases h2 : b > 1099511627776
    · rw [if_neg h1, if_pos h2, decide_eq_false (show ¬ (1 ≤ b ∧ b ≤ 1099511627776) by omega)]; simp
    · rw [if_neg h1, if_neg h2, decide_eq_true (show 1 ≤ b ∧ b ≤ 1099511627776 by omega), right_is k v hk hl]
      by_cases h3 : e > 1099511627776
      · rw [if_pos h3, decide_eq_false (show ¬ (e = 0 ∨ (b < e ∧ e ≤ 1099511627776)) by omega)]; simp
      · rw [if_neg h3]
        by_cases h4 : e = 0
        · rw [if_pos h4, decide_eq_true (show e = 0 ∨ (b < e ∧ e ≤ 1099511627776) by omega)]; simp
        · rw [if_neg h4]
          by_cases h5 : e ≤ b
          · rw [if_pos h5, decide_eq_false (show ¬ (e = 0 ∨ (b < e ∧ e ≤ 1099511627776)) by omega)]; simp
          · rw [if_neg h5, decide_eq_true (show e = 0 ∨ (b < e ∧ e ≤ 1099511627776) by omega)]; simp
theorem refcell_is (k : Nat) (x : Cell) (hk : x.f2.f2.length < k) (hl : x.f2.f2.length ≤ 50) :
    P.quiverref09_Cell.f k x.f0 x.f1 x.f2.f0 x.f2.f1 x.f2.f2 = some (cellOk x) := by
  unfold P.quiverref09_Cell.f cellOk
  by_cases h : x.f0 = true
  · rw [if_pos h, if_pos h, refver_is k _ _ _ hk (by omega), Option.bind_some]
  · rw [if_neg h, if_neg h]
    by_cases h1 : x.f1 = 0
    · rw [if_pos h1]
      by_cases h2 : x.f2.f0 = 0
      · rw [if_pos h2]
        by_cases h3 : x.f2.f1 = 0
        · rw [if_pos h3]
          cases hv : x.f2.f2 with
          | nil => simp [h1, h2, h3]
          | cons a t => simp [h1, h2, h3]; omega
        · rw [if_neg h3]; simp [h3]
      · rw [if_neg h2]; simp [h2]
    · rw [if_neg h1]; simp [h1]
/-- The law's own bound: a step of the loop, and the whole. -/
theorem over_l0 (l : List Cell) (hl : l.length ≤ 120) : ∀ (d i k : Nat), i + d = l.length → d < k →
    P.quiverlaw09_overCells.l0 k l (l.length : Int) (i : Int) = some (!((l.drop i).all (fun x => decide (x.f2.f2.length ≤ 50)))) := by
  intro d
  induction d with
  | zero =>
    intro i k hi hk
    obtain ⟨k', rfl⟩ : ∃ k', k = k' + 1 := ⟨k - 1, by omega⟩
    rw [P.quiverlaw09_overCells.l0, if_neg (by omega), List.drop_eq_nil_of_le (by omega)]; rfl
  | succ d ih =>
    intro i k hi hk
    obtain ⟨k', rfl⟩ : ∃ k', k = k' + 1 := ⟨k - 1, by omega⟩
    rw [P.quiverlaw09_overCells.l0, if_pos (by omega), if_pos (by omega), if_pos (by omega), show P.rd_T36 l (i : Int) = l.getD i P.z36 from by unfold P.rd_T36; rw [Int.toNat_natCast],
      show wrap64 ((i : Int) + 1) = ((i + 1 : Nat) : Int) from by rw [w64 (by omega) (by omega)]; omega, ih (i + 1) k' (by omega) (by omega),
      drop_at l i P.z36 (by omega), List.all_cons]
    generalize l.getD i P.z36 = x
    by_cases hx : ((x.f2.f2.length : Nat) : Int) > 50
    · rw [if_pos hx, decide_eq_false (show ¬ x.f2.f2.length ≤ 50 by omega)]; rfl
    · rw [if_neg hx, decide_eq_true (show x.f2.f2.length ≤ 50 by omega)]; rfl
theorem over_is (k : Nat) (l : List Cell) (hk : 121 < k) : P.quiverlaw09_overCells.f k l = some true ∨
    (P.quiverlaw09_overCells.f k l = some false ∧ l.length ≤ 120 ∧ ∀ x ∈ l, x.f2.f2.length ≤ 50) := by
  unfold P.quiverlaw09_overCells.f
  by_cases h : (l.length : Int) > 120
  · rw [if_pos h]; exact Or.inl rfl
  · rw [if_neg h]
    have e := over_l0 l (by omega) l.length 0 k (by omega) (by omega)
    rw [List.drop_zero] at e
    rw [show (0 : Int) = ((0 : Nat) : Int) from rfl, e]
    cases ha : l.all (fun x => decide (x.f2.f2.length ≤ 50)) with
    | false => exact Or.inl rfl
    | true => exact Or.inr ⟨rfl, by omega, fun x hx => of_decide_eq_true (List.all_eq_true.mp ha x hx)⟩
theorem samever_self (k : Nat) (a b : Int) (v : List Int) (hk : v.length < k) (hl : v.length ≤ 50) : P.quiverref07_SameVersion.f k a b v a b v = some true := by
  unfold P.quiverref07_SameVersion.f
  rw [if_pos rfl, if_pos rfl, refsame_is k v v hk (by omega), decide_eq_true rfl]; rfl
theorem samecells_self (l : List Cell) (hl : l.length ≤ 120) (hv : ∀ x ∈ l, x.f2.f2.length ≤ 50) : ∀ (d i k : Nat), i + d = l.length → d + 51 < k →
    P.quiverref09_SameCells.l0 k l l (i : Int) = some true := by
  intro d
  induction d with
  | zero =>
    intro i k hi hk
    obtain ⟨k', rfl⟩ : ∃ k', k = k' + 1 := ⟨k - 1, by omega⟩
    rw [P.quiverref09_SameCells.l0, if_neg (by omega)]
  | succ d ih =>
    intro i k hi hk
    obtain ⟨k', rfl⟩ : ∃ k', k = k' + 1 := ⟨k - 1, by omega⟩
    have hx : (P.rd_T36 l (i : Int)).f2.f2.length ≤ 50 := by
      unfold P.rd_T36
      rw [Int.toNat_natCast, getD_of_lt l i _ (by omega)]
      exact hv _ (List.getElem_mem _)
    rw [P.quiverref09_SameCells.l0, if_pos (by omega), if_pos (by omega), if_pos (by omega), if_neg (by simp), if_pos rfl, samever_self k' _ _ _ (by omega) hx, Option.bind_some, if_pos rfl,
      show wrap64 ((i : Int) + 1) = ((i + 1 : Nat) : Int) from by rw [w64 (by omega) (by omega)]; omega]
    exact ih (i + 1) k' (by omega) (by omega)
theorem same_self (k : Nat) (l : List Cell) (hl : l.length ≤ 120) (hv : ∀ x ∈ l, x.f2.f2.length ≤ 50) (hk : 180 < k) : P.quiverref09_Same.f k l l = some true := by
  unfold P.quiverref09_Same.f P.quiverref09_SameCells.f
  have e := samecells_self l hl hv l.length 0 k (by omega) (by omega)
  rw [if_pos rfl, show (0 : Int) = ((0 : Nat) : Int) from rfl, e]; rfl
theorem packs_loop (l : List Cell) (hl : l.length ≤ 96) (hv : ∀ x ∈ l, x.f2.f2.length ≤ 50) : ∀ (d i k k2 : Nat) (acc : List Cell), i + d = l.length → d < k → d + 200 < k2 →
    acc.length = 96 → (∀ x ∈ acc, x.f2.f2.length ≤ 50) →
    ∃ R e, P.arena_Packed.l0 k l (l.length : Int) (i : Int) acc = some (R, e) ∧ P.quiverlaw09_ArenaPacks.l0 k2 e l (l.length : Int) (i : Int) R acc = some true := by
  intro d
  induction d with
  | zero =>
    intro i k k2 acc hi hk hk2 ha hav
    obtain ⟨k', rfl⟩ : ∃ k', k = k' + 1 := ⟨k - 1, by omega⟩
    obtain ⟨k2', rfl⟩ : ∃ k', k2 = k' + 1 := ⟨k2 - 1, by omega⟩
    refine ⟨acc, 0, ?_, ?_⟩
    · rw [P.arena_Packed.l0, if_neg (by omega)]
    · rw [P.quiverlaw09_ArenaPacks.l0, if_neg (by omega), if_pos rfl, same_self k2' acc (by omega) hav (by omega), Option.bind_some]
  | succ d ih =>
    intro i k k2 acc hi hk hk2 ha hav
    obtain ⟨k', rfl⟩ : ∃ k', k = k' + 1 := ⟨k - 1, by omega⟩
    obtain ⟨k2', rfl⟩ : ∃ k', k2 = k' + 1 := ⟨k2 - 1, by omega⟩
    have hx : (P.rd_T36 l (i : Int)).f2.f2.length ≤ 50 := by
      unfold P.rd_T36
      rw [Int.toNat_natCast, getD_of_lt l i _ (by omega)]
      exact hv _ (List.getElem_mem _)
    have e1 : wrap64 ((i : Int) + 1) = ((i + 1 : Nat) : Int) := by rw [w64 (by omega) (by omega)]; omega
    rw [P.arena_Packed.l0, if_pos (by omega), if_pos (by omega), if_pos (by omega)]
    generalize hX : P.rd_T36 l (i : Int) = X at hx
    by_cases hu : X.f0 = true
    · rw [if_pos hu, right_f X, Option.bind_some]
      by_cases ho : cellOk X = true
      · rw [if_pos ho, if_pos (by omega), e1]
        obtain ⟨R, e, h1, h2⟩ := ih (i + 1) k' k2' (acc.set (i : Int).toNat (⟨X.f0, X.f1, (⟨X.f2.f0, X.f2.f1, X.f2.f2⟩ : P.S34)⟩ : Cell)) (by omega) (by omega) (by omega) (by rw [List.length_set]; exact ha)
          (fun x h => (List.mem_or_eq_of_mem_set h).elim (hav x) (fun h => by rw [h]; exact hx))
        refine ⟨R, e, h1, ?_⟩
        rw [P.quiverlaw09_ArenaPacks.l0, if_pos (by omega), if_pos (by omega), if_pos (by omega), hX, if_pos hu, refcell_is k2' X (by omega) hx, Option.bind_some, if_pos ho, e1]
        unfold P.quiverref09_With.f
        rw [Option.bind_some, if_pos (by rw [List.length_nil]; omega), Option.bind_some, List.nil_append, if_pos (by omega), if_pos (by omega), Option.bind_some]
        exact h2
      · rw [if_neg ho]
        refine ⟨[], 2, rfl, ?_⟩
        rw [P.quiverlaw09_ArenaPacks.l0, if_pos (by omega), if_pos (by omega), if_pos (by omega), hX, if_pos hu, refcell_is k2' X (by omega) hx, Option.bind_some, if_neg ho]; rfl
    · rw [if_neg hu]
      refine ⟨[], 2, rfl, ?_⟩
      rw [P.quiverlaw09_ArenaPacks.l0, if_pos (by omega), if_pos (by omega), if_pos (by omega), hX, if_neg hu]; rfl
theorem packs_f (l : List Cell) : P.quiverlaw09_ArenaPacks.f 400 l = some true := by
  unfold P.quiverlaw09_ArenaPacks.f
  rw [P.quiverlaw09_wakes.is, Option.bind_some, if_pos rfl]
  rcases over_is 400 l (by omega) with h | ⟨h, hl, hv⟩
  · rw [h, Option.bind_some, if_pos rfl]
  · rw [h, Option.bind_some, if_neg (by simp)]
    unfold P.arena_Packed.f
    by_cases h96 : (l.length : Int) > 96
    · rw [if_pos h96, Option.bind_some, if_pos h96]; rfl
    · have hz : ∀ x ∈ List.replicate 96 P.z36, x.f2.f2.length ≤ 50 := fun x hx => by rw [List.eq_of_mem_replicate hx]; decide
      obtain ⟨R, e, h1, h2⟩ := packs_loop l (by omega) hv l.length 0 400 400 (List.replicate 96 P.z36) (by omega) (by omega) (by omega) (by rw [List.length_replicate]) hz
      rw [if_neg h96]
      unfold P.arena_New.f
      rw [if_pos (by decide), Option.bind_some, show (0 : Int) = ((0 : Nat) : Int) from rfl, h1, Option.bind_some, if_neg h96]
      unfold P.quiverref09_New.f
      rw [if_pos (by decide), Option.bind_some]
      exact h2
theorem packs_walk (A0 : Option Addr) (c0 : Nat) (l0 : List Cell) (w : World) (hc0 : l0.length ≤ c0) (hr0 : Kd.C kC w A0 l0.length l0) {Wf : Prop} (wf : Wf) :
    Calls Try.prog 3 #[.slice A0 l0.length c0] w fun e w' => e = .returned (.bool true) ∧ Below w.heap.size w w' := by
  have h := P.quiverlaw09_ArenaPacks.calls 400 A0 c0 l0 true w hr0 hc0 (packs_f l0)
  exact h

end Go.Proofs.Ytoblkjdiahoplaa.G
