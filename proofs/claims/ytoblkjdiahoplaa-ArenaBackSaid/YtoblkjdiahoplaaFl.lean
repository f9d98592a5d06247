/- ArenaFills: plain. What Put, Free and Drop compute, and how many cells are free. -/
import Derived.Test.YtoblkjdiahoplaaDr
import Derived.Test.YtoblkjdiahoplaaA4
namespace Go.Proofs.Ytoblkjdiahoplaa.G
open Go.Shelf Go.RowKit Go.Proofs.YtoblkjdiahoplaaW.PrintWords Go.Proofs.YtoblkjdiahoplaaW.PrintLast Go.Proofs.YtoblkjdiahoplaaW.PrintMore
set_option linter.unusedVariables false
set_option linter.unusedSimpArgs false

theorem rdT_nat (l : List Cell) (n : Nat) : P.rd_T36 l (n : Int) = l.getD n P.z36 := by
  unfold P.rd_T36
  rw [Int.toNat_natCast]
/-- How many cells are free. -/
def freeC (l : List Cell) : Nat := l.countP (fun x => !x.f0)
theorem usedI_count (l : List Cell) : ∀ n, n ≤ l.length → (usedI l n).length = (l.take n).countP (fun x => x.f0) := by
  intro n
  induction n with
  | zero => intro _; rfl
  | succ n ih =>
    intro hn
    rw [usedI_succ, List.length_append, ih (by omega), List.take_add_one, List.countP_append, List.getElem?_eq_getElem (by omega)]
    have e : cellAt l n = l[n] := by
      unfold cellAt
      first | exact getD_of_lt l n _ (by omega) | (rw [rdT_nat]; exact getD_of_lt l n _ (by omega))
    rw [e]
    cases h : (l[n]).f0 <;> simp [h]
theorem free_is (l : List Cell) (h : arenaOk l = true) : freeN l = (freeC l : Int) := by
  have hl : l.length = 96 := by
    unfold arenaOk at h
    rw [Bool.and_eq_true] at h
    exact of_decide_eq_true h.1
  unfold freeN freeC
  rw [if_pos h, usedI_count l l.length (Nat.le_refl _), List.take_length]
  have e := List.length_eq_countP_add_countP (fun x : Cell => x.f0) (l := l)
  have e2 : List.countP (fun a : Cell => decide ¬a.f0 = true) l = List.countP (fun x : Cell => !x.f0) l := by
    refine List.countP_congr (fun x _ => ?_)
    cases x.f0 <;> simp
  rw [e2] at e
  omega
theorem least_is (l : List Cell) : (leastF l = -1 ∧ freeC l = 0) ∨ ∃ n, n < l.length ∧ leastF l = (n : Int) ∧ (l.getD n P.z36).f0 = false := by
  unfold leastF
  by_cases h : ∃ j, 0 ≤ j ∧ j < 0 + l.length ∧ (fun j => !(P.rd_T36 l ((j : Nat) : Int)).f0) j = true
  · obtain ⟨n, _, h1, h2, h3, _⟩ := firstP_pos _ l.length 0 h
    refine .inr ⟨n, by omega, h3, ?_⟩
    simp only [rdT_nat] at h2
    cases hb : (l.getD n P.z36).f0 with
    | false => rfl
    | true => rw [hb] at h2; cases h2
  · refine .inl ⟨firstP_neg _ l.length 0 (fun j h1 h2 => ?_), ?_⟩
    · cases hb : (fun j => !(P.rd_T36 l ((j : Nat) : Int)).f0) j with
      | false => exact hb
      | true => exact absurd ⟨j, h1, h2, hb⟩ h
    · unfold freeC
      rw [List.countP_eq_zero]
      intro x hx hb
      obtain ⟨j, hj, rfl⟩ := List.getElem_of_mem hx
      refine h ⟨j, Nat.zero_le _, by omega, ?_⟩
      show (!(P.rd_T36 l ((j : Nat) : Int)).f0) = true
      rw [rdT_nat, getD_of_lt l j _ hj]
      exact hb
theorem freeC_set (l : List Cell) (n : Nat) (x : Cell) (hn : n < l.length) (h : (l.getD n P.z36).f0 = false) (hx : x.f0 = true) : freeC (l.set n x) + 1 = freeC l := by
  unfold freeC
  rw [getD_of_lt l n _ hn] at h
  have e : l = l.take n ++ l[n] :: l.drop (n + 1) := by rw [← List.drop_eq_getElem_cons hn, List.take_append_drop]
  have e2 : l.set n x = l.take n ++ x :: l.drop (n + 1) := by rw [List.set_eq_take_append_cons_drop, if_pos hn]
  have c1 := congrArg (List.countP (fun x : Cell => !x.f0)) e
  rw [List.countP_append, List.countP_cons, h] at c1
  rw [e2, List.countP_append, List.countP_cons, hx]
  simp at c1 ⊢
  omega
theorem arenaOk_len {l : List Cell} (h : arenaOk l = true) : l.length = 96 := by
  unfold arenaOk at h
  rw [Bool.and_eq_true] at h
  exact of_decide_eq_true h.1
theorem arenaOk_set {l : List Cell} (n : Nat) {x : Cell} (h : arenaOk l = true) (hx : cellOk x = true) : arenaOk (l.set n x) = true := by
  have hl := arenaOk_len h
  unfold arenaOk at h ⊢
  rw [Bool.and_eq_true] at h ⊢
  refine ⟨decide_eq_true (by rw [List.length_set]; exact hl), List.all_eq_true.mpr fun y hy => ?_⟩
  rcases List.mem_or_eq_of_mem_set hy with h1 | h1
  · exact List.all_eq_true.mp h.2 y h1
  · rw [h1]; exact hx
theorem cellOk_zero : cellOk P.z36 = true := by decide
theorem drop_ok {l : List Cell} {s : Int} {r : List Cell} {e : Int} (h : arenaOk l = true) (hd : arena_Drop.f l s = some (r, e)) (he : e = 0) : arenaOk r = true := by
  subst he
  unfold arena_Drop.f at hd
  rw [if_pos h, has_is, Option.bind_some] at hd
  split at hd
  · simp only [Option.some.injEq, Prod.mk.injEq] at hd
    rw [← hd.1]
    exact arenaOk_set _ h cellOk_zero
  · simp at hd
theorem drop_some (l : List Cell) (s : Int) : ∃ r e, arena_Drop.f l s = some (r, e) := by
  unfold arena_Drop.f
  split
  · rw [has_is, Option.bind_some]
    split <;> exact ⟨_, _, rfl⟩
  · exact ⟨_, _, rfl⟩
theorem put_is (l : List Cell) (id b e : Int) (v : List Int) (h : arenaOk l = true) (hv : rightVer b e v = true) :
    P.arena_Put.f l id b e v = if leastF l < 0 then some ([], 0, 6) else some (l.set (leastF l).toNat ⟨true, id, ⟨b, e, v⟩⟩, leastF l, 0) := by
  have hl := arenaOk_len h
  have hlv : v.length ≤ 4 := by
    unfold rightVer right at hv
    rw [Bool.and_eq_true, Bool.and_eq_true, Bool.and_eq_true] at hv
    exact (of_decide_eq_true hv.1.1.1).2
  unfold P.arena_Put.f arena_Check.f
  rw [if_pos h, Option.bind_some, if_pos rfl, checkver_is, if_pos hv, Option.bind_some, if_pos rfl, idx_free.f, Option.bind_some]
  by_cases h0 : leastF l < 0
  · rw [if_pos h0, if_pos h0]
  · rw [if_neg h0, if_neg h0]
    unfold clone_i32.f P.arena_copied.f clone_Cell.f
    have hlt : leastF l < 96 := by
      rcases least_is l with ⟨h1, _⟩ | ⟨n, h1, h2, _⟩
      · omega
      · omega
    rw [if_pos (by omega), Option.bind_some, if_pos (by omega), Option.bind_some, Option.bind_some, if_pos (by omega), if_pos (by omega)]
/-- One round of the law's filling. -/
theorem fill_step (l : List Cell) (id b e : Int) (v : List Int) (h : arenaOk l = true) (hv : rightVer b e v = true) (hf : 0 < freeC l) :
    ∃ n, n < 96 ∧ P.arena_Put.f l id b e v = some (l.set n ⟨true, id, ⟨b, e, v⟩⟩, (n : Int), 0) ∧ (l.getD n P.z36).f0 = false ∧
      arenaOk (l.set n ⟨true, id, ⟨b, e, v⟩⟩) = true ∧ freeC (l.set n ⟨true, id, ⟨b, e, v⟩⟩) + 1 = freeC l ∧
      (∀ k : Nat, k = n ∨ (l.getD k P.z36).f0 = true → ((l.set n (⟨true, id, ⟨b, e, v⟩⟩ : Cell)).getD k P.z36).f0 = true) := by
  have hl := arenaOk_len h
  rcases least_is l with ⟨_, h1⟩ | ⟨n, h1, h2, h3⟩
  · omega
  · refine ⟨n, by omega, ?_, h3, arenaOk_set n h (by unfold cellOk; rw [if_pos rfl]; exact hv), freeC_set l n _ h1 h3 rfl, fun k hk => ?_⟩
    · rw [put_is l id b e v h hv, if_neg (by omega), h2, Int.toNat_natCast]
    · by_cases hkn : k = n
      · subst hkn
        rw [getD_of_lt _ _ _ (by rw [List.length_set]; exact h1), List.getElem_set_self]
      · have h4 := hk.resolve_left hkn
        rw [List.getD_eq_getElem?_getD, List.getElem?_set_ne (Ne.symm hkn), ← List.getD_eq_getElem?_getD]
        exact h4
theorem fill_end (l : List Cell) (id b e : Int) (v : List Int) (h : arenaOk l = true) (hv : rightVer b e v = true) (hf : freeC l = 0) : P.arena_Put.f l id b e v = some ([], 0, 6) ∧ freeN l = 0 := by
  rw [free_is l h, hf]
  refine ⟨?_, rfl⟩
  rw [put_is l id b e v h hv]
  rcases least_is l with ⟨h1, _⟩ | ⟨n, h1, h2, h3⟩
  · rw [if_pos (by omega)]
  · have := freeC_set l n ⟨true, 0, ⟨0, 0, []⟩⟩ h1 h3 rfl
    omega

end Go.Proofs.Ytoblkjdiahoplaa.G
