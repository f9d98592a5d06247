/- What the document's functions over trainings come to: All, Centroids, Parts, Start, Round: plain. -/
import Derived.Test.YtbdoeikdoohagaaV2
import Derived.Test.YtbdoeikdoohagaaLw
import Derived.Test.YtbdoeikdoohagaaPx5
import Derived.HandedShaped
namespace Go.Proofs.Ytbdoeikdoohagaa.G
open Go.Shelf Go.RowKit Go.Proofs.YtbdoeikdoohagaaW.PrintWords Go.Proofs.YtbdoeikdoohagaaW.PrintLast Go.Proofs.YtbdoeikdoohagaaW.PrintMore
set_option linter.unusedVariables false
set_option linter.unusedSimpArgs false

theorem all12_l1 (l : List (List Int)) (hl : l.length ≤ 1000000) : ∀ (d i k : Nat), i + d = l.length → d < k → P.quiverref12_All.l1 k l l (l.length : Int) (i : Int) = some (if (l.drop i).all (fun v => decide (v.length = (l.getD 0 []).length)) = true then 0 else 151)
  | 0, i, k + 1, h, _ => by
    rw [P.quiverref12_All.l1, if_neg (by omega), List.drop_eq_nil_of_le (by omega)]
    rfl
  | d + 1, i, k + 1, h, hk => by
    rw [P.quiverref12_All.l1, if_pos (by omega), if_pos (by omega), if_pos (by omega), if_pos (by omega), rdL_nat, show P.rd_L1 l 0 = l.getD 0 [] from rdL_nat l 0, drop_at l i [] (by omega), List.all_cons]
    by_cases h1 : (l.getD i []).length = (l.getD 0 []).length
    · rw [if_pos (by omega), decide_eq_true h1, Bool.true_and, w64 (by omega) (by omega), show ((i : Int) + 1) = ((i + 1 : Nat) : Int) by omega]
      exact all12_l1 l hl d (i + 1) k (by omega) (by omega)
    · rw [if_neg (by omega), decide_eq_false h1, Bool.false_and]
      rfl
theorem all12_l0 (l : List (List Int)) (hl : l.length ≤ 1000000) (hv : ∀ i, (l.getD i []).length ≤ 100) : ∀ (d i k : Nat), i + d = l.length → d + l.length + 101 < k → P.quiverref12_All.l0 k l l (l.length : Int) (i : Int) = some (if (l.drop i).all right = true then (if sameLens l = true then 0 else 151) else 150)
  | 0, i, k + 1, h, hk => by
    rw [P.quiverref12_All.l0, if_neg (by omega), List.drop_eq_nil_of_le (by omega)]
    have := all12_l1 l hl l.length 0 k (by omega) (by omega)
    rw [List.drop_zero] at this
    exact this
  | d + 1, i, k + 1, h, hk => by
    have hi := hv i
    rw [P.quiverref12_All.l0, if_pos (by omega), if_pos (by omega), if_pos (by omega), rdL_nat, right_is k _ (by omega) (by omega), Option.bind_some, drop_at l i [] (by omega), List.all_cons]
    cases hr : right (l.getD i []) with
    | true =>
      rw [if_pos rfl, Bool.true_and, w64 (by omega) (by omega), show ((i : Int) + 1) = ((i + 1 : Nat) : Int) by omega]
      exact all12_l0 l hl hv d (i + 1) k (by omega) (by omega)
    | false =>
      rw [if_neg (by decide), Bool.false_and]
      rfl
theorem all12_is (l : List (List Int)) (hl : l.length ≤ 200) (hv : ∀ i, (l.getD i []).length ≤ 100) : P.quiverref12_All.f 1000 l = some (allErr l) := by
  unfold P.quiverref12_All.f allErr
  have := all12_l0 l (by omega) hv l.length 0 1000 (by omega) (by omega)
  rw [List.drop_zero] at this
  exact this
theorem cent12_is (c : List (List Int)) : P.quiverref12_Centroids.f c = some (decide (centErr c = 0)) := by
  unfold P.quiverref12_Centroids.f centErr
  by_cases h1 : c.length = 0
  · rw [if_neg (by omega), if_pos h1]; rfl
  · rw [if_pos (by omega), if_neg h1]
    by_cases h2 : 6 < c.length
    · rw [if_pos h2, decide_eq_false (by omega)]; rfl
    · rw [if_neg h2, decide_eq_true (by omega)]; rfl
theorem nst_k (k : Nat) (l : List (List Int)) (v : List Int) (hl : l.length ≤ 80) (h0 : 0 < l.length) (hz : allErr (v :: l) = 0) (hk : 100 ≤ k) : P.quiverref05_Nearest.f k l v = some (own1 l v) := by
  unfold P.quiverref05_Nearest.f own1
  have := refnear_l0 l v (by omega) hz (l.length - 1) 1 k (by omega) (by omega) (by omega)
  rw [show (nst l v 1).1 = 0 by
    rw [nst]
    split
    · rfl
    · rfl] at this
  exact this
theorem parts_l0 (c l : List (List Int)) (hc0 : 0 < c.length) (hc : c.length ≤ 80) (hl : l.length ≤ 1000) (hz : ∀ v ∈ l, allErr (v :: c) = 0) : ∀ (d i k : Nat), i + d = l.length → d + 100 < k → P.quiverref12_Parts.l0 k c (partsV c (l.take i)) l (l.length : Int) (i : Int) = some (partsV c l)
  | 0, i, k + 1, h, _ => by
    rw [P.quiverref12_Parts.l0, if_neg (by omega), List.take_of_length_le (by omega)]
  | d + 1, i, k + 1, h, hk => by
    have hi : i < l.length := by omega
    have hg : l.getD i [] = l[i] := getD_of_lt l i [] hi
    have hpl : (partsV c (l.take i)).length < 17592186044416 := by unfold partsV; rw [List.length_map, List.length_take]; omega
    rw [P.quiverref12_Parts.l0, if_pos (by omega), if_pos (by omega), if_pos (by omega), rdL_nat, hg, nst_k k c _ hc hc0 (hz _ (List.getElem_mem hi)) (by omega), Option.bind_some, if_pos hpl, w64 (by omega) (by omega), show ((i : Int) + 1) = ((i + 1 : Nat) : Int) by omega]
    have ih := parts_l0 c l hc0 hc hl hz d (i + 1) k (by omega) (by omega)
    rw [show partsV c (l.take (i + 1)) = partsV c (l.take i) ++ [own1 c l[i]] by rw [List.take_succ_eq_append_getElem hi]; unfold partsV; rw [List.map_append]; rfl] at ih
    exact ih
theorem parts_is (k : Nat) (c l : List (List Int)) (hc0 : 0 < c.length) (hc : c.length ≤ 80) (hl : l.length ≤ 1000) (hz : ∀ v ∈ l, allErr (v :: c) = 0) (hk : l.length + 100 < k) : P.quiverref12_Parts.f k c l = some (partsV c l) := by
  unfold P.quiverref12_Parts.f
  have := parts_l0 c l hc0 hc hl hz l.length 0 k (by omega) hk
  rw [List.take_zero, show partsV c [] = [] from rfl] at this
  exact this
/-- A row of numbers that may be written, its block from b0 on. -/
def MutR (W : World) (b0 : Nat) (p : List Int) (c : List Value) : Prop :=
  ∃ A' c', c = [.slice A' p.length c'] ∧ ∀ k, k < p.length → ∃ g', A' = some ⟨g', 0, none⟩ ∧ b0 ≤ g' ∧ (∃ cur, W.heap[g']? = some (.cells cur 21 (0, 0))) ∧ ∃ x, W.cell? ⟨g', k, none⟩ = some (.int .i32 x)
/-- Rows that may be written. -/
def Mut (W : World) (b0 : Nat) (A : Option Addr) (R : List (List Int)) : Prop :=
  ∀ i, i < R.length → ∃ ad A' c', A = some ad ∧ (∃ cs, W.heap[ad.block]? = some (.cells cs 25 (0, 0))) ∧ W.cell? (ad.add i) = some (.slice A' (R.getD i []).length c') ∧ MutR W b0 (R.getD i []) [.slice A' (R.getD i []).length c']
theorem mutR_of {W : World} {b0 : Nat} {ok : Nat → Prop} {p : List Int} {c : List Value} (h : kR.M W b0 ok p c) : MutR W b0 p c := by
  obtain ⟨v, rfl, hR⟩ := h
  obtain ⟨inner, ho⟩ := Kd.R_own hR
  obtain ⟨A', c', rfl, hl, hC⟩ := Kd.R_reads hR
  refine ⟨A', c', rfl, fun k hk => ?_⟩
  rcases ho.2 with ⟨he, _⟩ | ⟨g, cap, cur, he, hg, hh, _⟩
  · injection he with _ h2 _
    omega
  · injection he with h1 _ _
    subst h1
    obtain ⟨ad, cc, hA, _, hK, hcell⟩ := Kd.C_get hC 0 (k : Int) (by omega) (by omega)
    injection hA with hA
    subst hA
    have hK' : cc = [.int .i32 (p.getD k 0)] := by rw [Int.toNat_natCast] at hK; exact hK
    subst hK'
    have h0 : W.cell? ((⟨g, 0, none⟩ : Addr).add ((k : Int).toNat * 1 + 0)) = some (.int .i32 (p.getD k 0)) := hcell 0 _ rfl
    refine ⟨g, rfl, hg, ⟨_, hh⟩, p.getD k 0, ?_⟩
    by_cases e0 : k = 0
    · subst e0
      simpa [Addr.add] using h0
    · simpa [Addr.add, e0] using h0
theorem mut_of {W : World} {b0 : Nat} {ok : Nat → Prop} {A : Option Addr} {c : Nat} {R : List (List Int)} (h : Kd.R kR 25 W b0 ok (.slice A R.length c) R) : Mut W b0 A R := by
  intro i hi
  obtain ⟨inner, ho⟩ := Kd.R_own h
  have h2 := h.2.imp_ (fun _ _ hp => mutR_of hp)
  obtain ⟨A1, c1, he, _, hr⟩ := OwnRow.reads h2
  injection he with hA _ _
  subst hA
  obtain ⟨ad, cc, hA, _, hM, hcell⟩ := hr.get_ [] (i : Int) (by omega) (by omega)
  subst hA
  rw [Int.toNat_natCast] at hM hcell
  obtain ⟨A', c', rfl, hrow⟩ := hM
  have ht := own_typed ho ad.block (by simp [Value.ownBlock])
  exact ⟨ad, A', c', rfl, ht, by simpa using (show W.cell? (ad.add (i * 1 + 0)) = _ from hcell 0 _ rfl), A', c', rfl, hrow⟩
theorem Mut.set {W : World} {b0 : Nat} {A : Option Addr} {R : List (List Int)} (h : Mut W b0 A R) {g k : Nat} {cur : Array Value} (hg : W.heap[g]? = some (.cells cur 21 (0, 0))) (y : Int) : Mut (W.setCell ⟨g, k, none⟩ (.int .i32 y)) b0 A R := by
  intro i hi
  obtain ⟨ad, A', c', rfl, ⟨cs, hs⟩, hcell, A2, c2, e2, hrow⟩ := h i hi
  injection e2 with e2 _
  injection e2 with e2 _ e3
  subst e2 e3
  have hne : ad.block ≠ g := blk_ne hs hg (by decide)
  refine ⟨ad, A', c', rfl, ⟨cs, blk_far hs hne _⟩, (World.cell?_setCell_other _ _ _ _ (fun e => hne ?_)).trans hcell, A', c', rfl, fun k' hk' => ?_⟩
  · have := congrArg Addr.block e
    rw [block_add] at this
    exact this.symm
  · obtain ⟨g', hA, hb, ⟨cur', hh⟩, hx⟩ := hrow k' hk'
    refine ⟨g', hA, hb, ?_, someInt_setCell hx _ _⟩
    by_cases e : g' = g
    · subst e
      exact ⟨_, blk_set hh _ _⟩
    · exact ⟨_, blk_far hh (p := ⟨g, k, none⟩) e _⟩
theorem Mut.kept {W W' : World} {b0 : Nat} {A : Option Addr} {R : List (List Int)} (h : Mut W b0 A R) (hb : Below W.heap.size W W') : Mut W' b0 A R := by
  intro i hi
  obtain ⟨ad, A', c', rfl, ⟨cs, hs⟩, hcell, A2, c2, e2, hrow⟩ := h i hi
  refine ⟨ad, A', c', rfl, ⟨cs, blk_below hs hb⟩, (hb.cell (World.block_lt_of_cell? W _ hcell)).trans hcell, A2, c2, e2, fun k' hk' => ?_⟩
  obtain ⟨g', hA, hb', ⟨cur', hh⟩, x, hx⟩ := hrow k' hk'
  exact ⟨g', hA, hb', ⟨cur', blk_below hh hb⟩, x, (hb.cell (World.block_lt_of_cell? W _ hx)).trans hx⟩

end Go.Proofs.Ytbdoeikdoohagaa.G
