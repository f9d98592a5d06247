/- Plain: the used cells by rows; what Packed makes of cells that may be; ArenaRows' law. No walk. -/
import Derived.Test.YtoblkjdiahoplaaB3
import Derived.Test.YtoblkjdiahoplaaPx8
namespace Go.Proofs.Ytoblkjdiahoplaa.G
open Go.Shelf Go.RowKit Go.Proofs.YtoblkjdiahoplaaW.PrintWords Go.Proofs.YtoblkjdiahoplaaW.PrintLast Go.Proofs.YtoblkjdiahoplaaW.PrintMore
set_option linter.unusedVariables false
set_option linter.unusedSimpArgs false

theorem cellAt_lt (l : List Cell) (k : Nat) (h : k < l.length) : cellAt l k = l[k] := by
  unfold cellAt P.rd_T36
  rw [Int.toNat_natCast, List.getD_eq_getElem?_getD, List.getElem?_eq_getElem h]; rfl
theorem usedL_take (l : List Cell) : ∀ n, n ≤ l.length → usedL l n = (l.take n).filter (fun x => x.f0) := by
  intro n
  induction n with
  | zero => intro _; rfl
  | succ n ih =>
    intro h
    unfold usedL at ih ⊢
    rw [usedI_succ, List.map_append, ih (by omega), List.take_add_one, List.filter_append, List.getElem?_eq_getElem (by omega)]
    congr 1
    rw [← cellAt_lt l n (by omega)]
    cases hx : (cellAt l n).f0 <;> simp [hx]
theorem usedL_is (l : List Cell) : usedL l l.length = l.filter (fun x => x.f0) := by rw [usedL_take l l.length (Nat.le_refl _), List.take_length]
theorem usedL_len (l : List Cell) (n : Nat) : (usedL l n).length = (usedI l n).length := by unfold usedL; rw [List.length_map]
theorem rowsL_len (l : List Cell) : (rowsL l).length = (usedI l l.length).length := by unfold rowsL; rw [isort_len, usedL_len]
theorem rowsL_used (l : List Cell) (x : Cell) (h : x ∈ rowsL l) : x.f0 = true ∧ x ∈ l := by
  have h := (isort_perm (lt := lt_c cfR) (usedL l l.length)).mem_iff.mp h
  rw [usedL_is, List.mem_filter] at h
  exact ⟨h.2, h.1⟩
theorem rowsL_sorted (l : List Cell) : Srt (lt_c cfR) (rowsL l) := isort_sorted so_R _
/-- The cells by rows in an arena's first slots. -/
def packL (l : List Cell) : List Cell := rowsL l ++ List.replicate (96 - (rowsL l).length) zC
theorem zC_used : zC.f0 = false := rfl
theorem zC_ok : cellOk zC = true := by decide
theorem rows_le (l : List Cell) (h : arenaOk l = true) : (rowsL l).length ≤ 96 := by
  have h96 : l.length = 96 := by
    unfold arenaOk at h
    rw [Bool.and_eq_true] at h
    exact of_decide_eq_true h.1
  rw [rowsL_len]
  have := usedI_len l l.length
  omega
theorem rows_ok (l : List Cell) (h : arenaOk l = true) (x : Cell) (hx : x ∈ rowsL l) : x.f0 = true ∧ cellOk x = true := by
  obtain ⟨h1, h2⟩ := rowsL_used l x hx
  unfold arenaOk at h
  rw [Bool.and_eq_true] at h
  exact ⟨h1, List.all_eq_true.mp h.2 x h2⟩
theorem pack_len (l : List Cell) (h : arenaOk l = true) : (packL l).length = 96 := by
  have := rows_le l h
  unfold packL
  rw [List.length_append, List.length_replicate]
  omega
theorem pack_ok (l : List Cell) (h : arenaOk l = true) : arenaOk (packL l) = true := by
  have hl := pack_len l h
  unfold arenaOk
  rw [hl, Bool.and_eq_true]
  refine ⟨rfl, List.all_eq_true.mpr (fun x hx => ?_)⟩
  rcases List.mem_append.mp hx with hx | hx
  · exact (rows_ok l h x hx).2
  · rw [(List.mem_replicate.mp hx).2]; exact zC_ok
theorem pack_used (l : List Cell) (h : arenaOk l = true) : usedL (packL l) (packL l).length = rowsL l := by
  rw [usedL_is]
  unfold packL
  rw [List.filter_append, List.filter_eq_self.mpr (fun x hx => (rows_ok l h x hx).1), List.filter_eq_nil_iff.mpr (fun x hx => by rw [(List.mem_replicate.mp hx).2]; simp [zC_used]), List.append_nil]
theorem pack_rows (l : List Cell) (h : arenaOk l = true) : rowsL (packL l) = rowsL l := by
  show isort (lt_c cfR) (usedL (packL l) (packL l).length) = rowsL l
  rw [pack_used l h]
  exact isort_of_sorted _ (rowsL_sorted l)
theorem pack_free (l : List Cell) (h : arenaOk l = true) : freeN (packL l) = 96 - ((rowsL l).length : Int) ∧ freeN l = 96 - ((rowsL l).length : Int) := by
  unfold freeN
  rw [if_pos (pack_ok l h), if_pos h, ← usedL_len, pack_used l h, rowsL_len]
  exact ⟨rfl, rfl⟩
theorem packed_loop (l : List Cell) (hl : l.length ≤ 96) (ho : ∀ x ∈ l, x.f0 = true ∧ cellOk x = true) : ∀ (d i k : Nat) (acc : List Cell), i + d = l.length → d < k → acc = l.take i ++ List.replicate (96 - i) zC →
    P.arena_Packed.l0 k l (l.length : Int) (i : Int) acc = some (l ++ List.replicate (96 - l.length) zC, 0) := by
  intro d
  induction d with
  | zero =>
    intro i k acc hi hk ha
    obtain ⟨k', rfl⟩ : ∃ k', k = k' + 1 := ⟨k - 1, by omega⟩
    rw [P.arena_Packed.l0, if_neg (by omega), ha, show i = l.length by omega, List.take_length]
  | succ d ih =>
    intro i k acc hi hk ha
    obtain ⟨k', rfl⟩ : ∃ k', k = k' + 1 := ⟨k - 1, by omega⟩
    have e1 : wrap64 ((i : Int) + 1) = ((i + 1 : Nat) : Int) := by rw [w64 (by omega) (by omega)]; omega
    have hX : P.rd_T36 l (i : Int) = l[i] := cellAt_lt l i (by omega)
    have hx := ho l[i] (List.getElem_mem _)
    have hal : acc.length = 96 := by rw [ha]; simp; omega
    rw [P.arena_Packed.l0, if_pos (by omega), if_pos (by omega), if_pos (by omega), hX, if_pos hx.1, right_f, Option.bind_some, if_pos hx.2, if_pos (by omega), e1]
    refine ih (i + 1) k' _ (by omega) (by omega) ?_
    show acc.set i l[i] = _
    rw [ha, show 96 - i = (96 - (i + 1)) + 1 by omega, List.replicate_succ, List.take_add_one, List.getElem?_eq_getElem (by omega), set_mid _ _ _ _ i (by simp; omega), List.append_assoc]
    rfl
theorem packed_is (l : List Cell) (h : arenaOk l = true) : P.arena_Packed.f 200 (rowsL l) = some (packL l, 0) := by
  have hl := rows_le l h
  unfold P.arena_Packed.f
  rw [if_neg (by omega), P.arena_New.f, if_pos (by omega), Option.bind_some]
  exact packed_loop (rowsL l) hl (rows_ok l h) (rowsL l).length 0 200 _ (by omega) (by omega) rfl
/-- What the law looks at, at place i. -/
theorem rows_side (l : List Cell) (i : Nat) (hi : i + 1 < (rowsL l).length) :
    decide ((cellAt (rowsL l) i).f1 > (cellAt (rowsL l) (i + 1)).f1) = false ∧ ((cellAt (rowsL l) i).f1 = (cellAt (rowsL l) (i + 1)).f1 → decide ((cellAt (rowsL l) i).f2.f0 > (cellAt (rowsL l) (i + 1)).f2.f0) = false) := by
  have h := List.pairwise_iff_getElem.mp (rowsL_sorted l) i (i + 1) (by omega) hi (by omega)
  rw [cellAt_lt _ _ (show i < _ by omega), cellAt_lt _ _ hi]
  have h := of_decide_eq_false h
  unfold cfR sgn at h
  constructor
  · refine decide_eq_false ?_
    grind
  · intro he
    refine decide_eq_false ?_
    grind

end Go.Proofs.Ytoblkjdiahoplaa.G
