/- Contract of snaps.End. -/
import Derived.Test.YtfpicgefmgnfnaaG4
import Derived.Test.YtfpicgefmgnfnaaS1
import Derived.Deep.RegionWith
namespace Go.Proofs.Ytfpicgefmgnfnaa.G
open Go.Shelf Go.RowKit Go.Proofs.YtfpicgefmgnfnaaW.PrintWords Go.Proofs.YtfpicgefmgnfnaaW.PrintLast Go.Proofs.YtfpicgefmgnfnaaW.PrintMore
set_option linter.unusedVariables false
set_option linter.unusedSimpArgs false

theorem place_bound (num : Int) : ∀ (l : List H) (i : Int), place num i l = -1 ∨ (i ≤ place num i l ∧ place num i l < i + l.length)
  | [], i => .inl rfl
  | h :: l, i => by
    unfold place
    split
    · right; simp; omega
    · rcases place_bound num l (i + 1) with h | h
      · exact .inl h
      · right; simp; omega

def snaps_End.f (a : Int) (l : List H) (num : Int) : Option (Int × List H × Int) :=
  if right a l = true then (if place num 0 l < 0 then some (0, [], 271) else some (a, l.eraseIdx (place num 0 l).toNat, 0)) else some (0, [], 270)

set_option maxHeartbeats 4000000 in
set_option maxRecDepth 100000 in
theorem snaps_End.calls (a : Int) (A : Option Addr) (c : Nat) (l : List H) (num : Int) (r1 : Int) (r2 : List H) (r3 : Int) (w : World) (hr : Kd.C P.k33 w A l.length l) (hc : l.length ≤ c) (h : snaps_End.f a l num = some (r1, r2, r3)) :
    Calls Try.prog 9 #[.agg #[.int .i64 a, .slice A l.length c], .int .i64 num] w fun e w' => ∃ v1_ : Value, e = .returned (.tuple #[.agg #[.int .i64 r1, v1_], .int .i64 r3]) ∧ Kd.R P.k33 33 w' w.heap.size (fun _ => True) v1_ r2 ∧ Below w.heap.size w w' := by
  have hu24 := Try.underlying24
  have hu58 := Try.underlying58
  have HR := Aside0.mk hr
  have hchk := fun (W : World) (hb : Below w.heap.size w W) => P.snaps_Check.calls (l.length + 3) a A c l _ W (Kd.C_below HR.out hb) hc (check_is _ a l (Nat.le_refl _))
  unfold snaps_End.f at h
  clear hr
  cases hright : right a l with
  | false =>
    rw [hright] at h
    simp only [hright, Bool.false_eq_true, if_false, Option.some.injEq, Prod.mk.injEq] at h hchk
    obtain ⟨rfl, rfl, rfl⟩ := h
    go_enter Try.func9, Try.ntmps9
    go_wp2_with (go_at_call 15; refine (hchk _ (((Below.refl _ w).alloc (Nat.le_refl _) _).alloc (by simp) _)).mono ?_; rintro e w2 ⟨rfl, hb⟩; have HBw2 : Aside0 (Below w.heap.size w w2) := ⟨below_step (((Below.refl _ w).alloc (Nat.le_refl _) _).alloc (by simp) _) hb⟩; have Sw2 : Aside0 (w.heap.size + 2 ≤ w2.heap.size) := ⟨by have := hb.size; simp at this; omega⟩; have B1w2 : Aside0 (w2.heap[w.heap.size]? = some (Obj.cells #[.int .i64 a, .slice A l.length c] 24 (0, 0))) := ⟨blk_below (blk_alloc (blk_new w (Obj.cells #[.int .i64 a, .slice A l.length c] 24 (0, 0))) (Obj.cells #[.int .i64 0, .slice none 0 0] 24 (0, 0))) hb⟩; have B2w2 : Aside0 (w2.heap[w.heap.size + 1]? = some (Obj.cells #[.int .i64 0, .slice none 0 0] 24 (0, 0))) := ⟨by have := blk_below (blk_new (w.alloc (Obj.cells #[.int .i64 a, .slice A l.length c] 24 (0, 0))) (Obj.cells #[.int .i64 0, .slice none 0 0] 24 (0, 0))) hb; simpa using this⟩; have c0 : w2.cell? ⟨w.heap.size, 0, none⟩ = some (.int .i64 a) := (blk_cell B1w2.out 0).trans rfl; have c1 : w2.cell? ⟨w.heap.size, 1, none⟩ = some (.slice A l.length c) := (blk_cell B1w2.out 1).trans rfl; have d0 : w2.cell? ⟨w.heap.size + 1, 0, none⟩ = some (.int .i64 0) := (blk_cell B2w2.out 0).trans rfl; have d1 : w2.cell? ⟨w.heap.size + 1, 1, none⟩ = some (.slice none 0 0) := (blk_cell B2w2.out 1).trans rfl; have f0 := blk_frozen B2w2.out 0; have f1 := blk_frozen B2w2.out 1; clear hb)
    refine bodyPost_ret (results_ct rfl _ _ (w.heap.size + 1) 24 #[.int .i64 0, .slice none 0 0] (0, 0) _ rfl (blk_put (blk_put B2w2.out 0 _ rfl) 1 _ rfl) hu24 rfl (by kernel_rfl)) rfl ?_
    exact ⟨_, rfl, Kd.R_nil _ _ _ _ _, (HBw2.out.setCell (by simp) _).setCell (by simp) _⟩
  | true =>
    rw [hright] at h
    simp only [hright, if_true] at h hchk
    have hlen := (right_len hright).1
    have hof := fun (W : World) (hb : Below w.heap.size w W) => reg_of.calls a A c l num (place num 0 l) W (Kd.C_below HR.out hb) hc (by unfold reg_of.f; rw [if_pos (by omega)])
    have hcl := fun (W : World) (hb : Below w.heap.size w W) => clone_Handle.calls A c l l W (Kd.C_below HR.out hb) hc (by unfold clone_Handle.f; rw [if_pos (by omega)])
    have HL := Aside0.mk hlen
    clear hlen
    by_cases hp : place num 0 l < 0
    · simp only [hp, if_true, Option.some.injEq, Prod.mk.injEq] at h
      obtain ⟨rfl, rfl, rfl⟩ := h
      go_enter Try.func9, Try.ntmps9
      go_wp2_with (first | (go_at_call 15; refine (hchk _ (((Below.refl _ w).alloc (Nat.le_refl _) _).alloc (by simp) _)).mono ?_; rintro e w2 ⟨rfl, hb⟩; have HBw2 : Aside0 (Below w.heap.size w w2) := ⟨below_step (((Below.refl _ w).alloc (Nat.le_refl _) _).alloc (by simp) _) hb⟩; have Sw2 : Aside0 (w.heap.size + 2 ≤ w2.heap.size) := ⟨by have := hb.size; simp at this; omega⟩; have B1w2 : Aside0 (w2.heap[w.heap.size]? = some (Obj.cells #[.int .i64 a, .slice A l.length c] 24 (0, 0))) := ⟨blk_below (blk_alloc (blk_new w (Obj.cells #[.int .i64 a, .slice A l.length c] 24 (0, 0))) (Obj.cells #[.int .i64 0, .slice none 0 0] 24 (0, 0))) hb⟩; have B2w2 : Aside0 (w2.heap[w.heap.size + 1]? = some (Obj.cells #[.int .i64 0, .slice none 0 0] 24 (0, 0))) := ⟨by have := blk_below (blk_new (w.alloc (Obj.cells #[.int .i64 a, .slice A l.length c] 24 (0, 0))) (Obj.cells #[.int .i64 0, .slice none 0 0] 24 (0, 0))) hb; simpa using this⟩; have c0 : w2.cell? ⟨w.heap.size, 0, none⟩ = some (.int .i64 a) := (blk_cell B1w2.out 0).trans rfl; have c1 : w2.cell? ⟨w.heap.size, 1, none⟩ = some (.slice A l.length c) := (blk_cell B1w2.out 1).trans rfl; have d0 : w2.cell? ⟨w.heap.size + 1, 0, none⟩ = some (.int .i64 0) := (blk_cell B2w2.out 0).trans rfl; have d1 : w2.cell? ⟨w.heap.size + 1, 1, none⟩ = some (.slice none 0 0) := (blk_cell B2w2.out 1).trans rfl; have f0 := blk_frozen B2w2.out 0; have f1 := blk_frozen B2w2.out 1; clear hb) | (go_at_call 24; refine (hof _ HBw2.out).mono ?_; rintro e w3 ⟨rfl, hb⟩; have HBw3 : Aside0 (Below w.heap.size w w3) := ⟨below_step HBw2.out hb⟩; have Sw3 : Aside0 (w.heap.size + 2 ≤ w3.heap.size) := ⟨by have h1 := hb.size; have h2 := Sw2.out; (try simp at h1); omega⟩; have B1w3 : Aside0 (w3.heap[w.heap.size]? = some (Obj.cells #[.int .i64 a, .slice A l.length c] 24 (0, 0))) := ⟨(hb.block _ (by have h2 := Sw2.out; (try simp); omega)).trans B1w2.out⟩; have B2w3 : Aside0 (w3.heap[w.heap.size + 1]? = some (Obj.cells #[.int .i64 0, .slice none 0 0] 24 (0, 0))) := ⟨(hb.block _ (by have h2 := Sw2.out; (try simp); omega)).trans B2w2.out⟩; have c0w3 : w3.cell? ⟨w.heap.size, 0, none⟩ = some (.int .i64 a) := (blk_cell B1w3.out 0).trans rfl; have c1w3 : w3.cell? ⟨w.heap.size, 1, none⟩ = some (.slice A l.length c) := (blk_cell B1w3.out 1).trans rfl; have d0w3 : w3.cell? ⟨w.heap.size + 1, 0, none⟩ = some (.int .i64 0) := (blk_cell B2w3.out 0).trans rfl; have d1w3 : w3.cell? ⟨w.heap.size + 1, 1, none⟩ = some (.slice none 0 0) := (blk_cell B2w3.out 1).trans rfl; have f0w3 := blk_frozen B2w3.out 0; have f1w3 := blk_frozen B2w3.out 1; clear hb))
      refine bodyPost_ret (results_ct rfl _ _ (w.heap.size + 1) 24 #[.int .i64 0, .slice none 0 0] (0, 0) _ rfl (blk_put (blk_put B2w3.out 0 _ rfl) 1 _ rfl) hu24 rfl (by kernel_rfl)) rfl ?_
      exact ⟨_, rfl, Kd.R_nil _ _ _ _ _, (HBw3.out.setCell (by simp) _).setCell (by simp) _⟩
    · simp only [hp, if_false, Option.some.injEq, Prod.mk.injEq] at h
      obtain ⟨rfl, rfl, rfl⟩ := h
      obtain ⟨i, hi0, hi⟩ : ∃ i : Nat, place num 0 l = i ∧ i < l.length := by
        rcases place_bound num l 0 with h | h
        · omega
        · exact ⟨(place num 0 l).toNat, by omega, by omega⟩
      rw [hi0] at hof hp ⊢
      rw [Int.toNat_natCast]
      have hwr : IntKind.i64.wrap ((i : Int) + 1) = (i : Int) + 1 := by rw [IntKind.wrap_i64]; have := HL.out; omega
      go_enter Try.func9, Try.ntmps9
      go_wp2_with (first | (go_at_call 15; refine (hchk _ (((Below.refl _ w).alloc (Nat.le_refl _) _).alloc (by simp) _)).mono ?_; rintro e w2 ⟨rfl, hb⟩; have HBw2 : Aside0 (Below w.heap.size w w2) := ⟨below_step (((Below.refl _ w).alloc (Nat.le_refl _) _).alloc (by simp) _) hb⟩; have Sw2 : Aside0 (w.heap.size + 2 ≤ w2.heap.size) := ⟨by have := hb.size; simp at this; omega⟩; have B1w2 : Aside0 (w2.heap[w.heap.size]? = some (Obj.cells #[.int .i64 a, .slice A l.length c] 24 (0, 0))) := ⟨blk_below (blk_alloc (blk_new w (Obj.cells #[.int .i64 a, .slice A l.length c] 24 (0, 0))) (Obj.cells #[.int .i64 0, .slice none 0 0] 24 (0, 0))) hb⟩; have B2w2 : Aside0 (w2.heap[w.heap.size + 1]? = some (Obj.cells #[.int .i64 0, .slice none 0 0] 24 (0, 0))) := ⟨by have := blk_below (blk_new (w.alloc (Obj.cells #[.int .i64 a, .slice A l.length c] 24 (0, 0))) (Obj.cells #[.int .i64 0, .slice none 0 0] 24 (0, 0))) hb; simpa using this⟩; have c0 : w2.cell? ⟨w.heap.size, 0, none⟩ = some (.int .i64 a) := (blk_cell B1w2.out 0).trans rfl; have c1 : w2.cell? ⟨w.heap.size, 1, none⟩ = some (.slice A l.length c) := (blk_cell B1w2.out 1).trans rfl; have d0 : w2.cell? ⟨w.heap.size + 1, 0, none⟩ = some (.int .i64 0) := (blk_cell B2w2.out 0).trans rfl; have d1 : w2.cell? ⟨w.heap.size + 1, 1, none⟩ = some (.slice none 0 0) := (blk_cell B2w2.out 1).trans rfl; have f0 := blk_frozen B2w2.out 0; have f1 := blk_frozen B2w2.out 1; clear hb) | (go_at_call 24; refine (hof _ HBw2.out).mono ?_; rintro e w3 ⟨rfl, hb⟩; have HBw3 : Aside0 (Below w.heap.size w w3) := ⟨below_step HBw2.out hb⟩; have Sw3 : Aside0 (w.heap.size + 2 ≤ w3.heap.size) := ⟨by have h1 := hb.size; have h2 := Sw2.out; (try simp at h1); omega⟩; have B1w3 : Aside0 (w3.heap[w.heap.size]? = some (Obj.cells #[.int .i64 a, .slice A l.length c] 24 (0, 0))) := ⟨(hb.block _ (by have h2 := Sw2.out; (try simp); omega)).trans B1w2.out⟩; have B2w3 : Aside0 (w3.heap[w.heap.size + 1]? = some (Obj.cells #[.int .i64 0, .slice none 0 0] 24 (0, 0))) := ⟨(hb.block _ (by have h2 := Sw2.out; (try simp); omega)).trans B2w2.out⟩; have c0w3 : w3.cell? ⟨w.heap.size, 0, none⟩ = some (.int .i64 a) := (blk_cell B1w3.out 0).trans rfl; have c1w3 : w3.cell? ⟨w.heap.size, 1, none⟩ = some (.slice A l.length c) := (blk_cell B1w3.out 1).trans rfl; have d0w3 : w3.cell? ⟨w.heap.size + 1, 0, none⟩ = some (.int .i64 0) := (blk_cell B2w3.out 0).trans rfl; have d1w3 : w3.cell? ⟨w.heap.size + 1, 1, none⟩ = some (.slice none 0 0) := (blk_cell B2w3.out 1).trans rfl; have f0w3 := blk_frozen B2w3.out 0; have f1w3 := blk_frozen B2w3.out 1; clear hb))
      go_region_with (first | (go_at_call 23; refine (hcl _ ?hs).mono ?_; (case hs => exact below_drew1 HBw3.out); rintro e w4 ⟨v4, rfl, hR, hb⟩; have Sz : Aside0 (w3.heap.size ≤ w4.heap.size) := ⟨hb.size⟩; have R4 := Aside0.mk hR; clear hR; have HBw4 : Aside0 (Below w.heap.size w w4) := ⟨below_step (below_drew1 HBw3.out) hb⟩; have Sw4 : Aside0 (w.heap.size + 2 ≤ w4.heap.size) := ⟨by have h1 := hb.size; have h2 := Sw3.out; (try simp at h1); omega⟩; have B1w4 : Aside0 (w4.heap[w.heap.size]? = some (Obj.cells #[.int .i64 a, .slice A l.length c] 24 (0, 0))) := ⟨(hb.block _ (by have h2 := Sw3.out; (try simp); omega)).trans B1w3.out⟩; have B2w4 : Aside0 (w4.heap[w.heap.size + 1]? = some (Obj.cells #[.int .i64 0, .slice none 0 0] 24 (0, 0))) := ⟨(hb.block _ (by have h2 := Sw3.out; (try simp); omega)).trans B2w3.out⟩; have c0w4 : w4.cell? ⟨w.heap.size, 0, none⟩ = some (.int .i64 a) := (blk_cell B1w4.out 0).trans rfl; have c1w4 : w4.cell? ⟨w.heap.size, 1, none⟩ = some (.slice A l.length c) := (blk_cell B1w4.out 1).trans rfl; have d0w4 : w4.cell? ⟨w.heap.size + 1, 0, none⟩ = some (.int .i64 0) := (blk_cell B2w4.out 0).trans rfl; have d1w4 : w4.cell? ⟨w.heap.size + 1, 1, none⟩ = some (.slice none 0 0) := (blk_cell B2w4.out 1).trans rfl; have f0w4 := blk_frozen B2w4.out 0; have f1w4 := blk_frozen B2w4.out 1; clear hb) | (go_at_call 25; refine (del_R w3.heap.size l v4 w4 i hi Sz.out R4.out).mono ?_; rintro e w5 ⟨v5, rfl, hR, hb⟩; obtain ⟨A5, c5, e5⟩ := Kd.R_slice hR; subst e5; have R5 := Aside0.mk hR; clear hR; have HBw5 : Aside0 (Below w.heap.size w w5) := ⟨HBw4.out.trans (hb.mono (by have := Sw3.out; omega))⟩; have B1w5 : Aside0 (w5.heap[w.heap.size]? = some (Obj.cells #[.int .i64 a, .slice A l.length c] 24 (0, 0))) := ⟨(hb.block _ (by have := Sw3.out; omega)).trans B1w4.out⟩; have B2w5 : Aside0 (w5.heap[w.heap.size + 1]? = some (Obj.cells #[.int .i64 0, .slice none 0 0] 24 (0, 0))) := ⟨(hb.block _ (by have := Sw3.out; omega)).trans B2w4.out⟩; have c0w5 : w5.cell? ⟨w.heap.size, 0, none⟩ = some (.int .i64 a) := (blk_cell B1w5.out 0).trans rfl; have d0w5 : w5.cell? ⟨w.heap.size + 1, 0, none⟩ = some (.int .i64 0) := (blk_cell B2w5.out 0).trans rfl; have d1w5 : w5.cell? ⟨w.heap.size + 1, 1, none⟩ = some (.slice none 0 0) := (blk_cell B2w5.out 1).trans rfl; have f0w5 := blk_frozen B2w5.out 0; have f1w5 := blk_frozen B2w5.out 1; clear hb))
      all_goals go_wp2
      all_goals refine bodyPost_ret (results_ct rfl _ _ (w.heap.size + 1) 24 #[.int .i64 a, .slice A5 (l.eraseIdx i).length c5] (0, 0) _ rfl (blk_put (blk_put B2w5.out 0 _ rfl) 1 _ rfl) hu24 rfl (by kernel_rfl)) rfl ?_
      all_goals exact ⟨_, rfl, Kd.R_lower (Kd.R_mono (Kd.R_step (Kd.R_bound R5.out) (fun k ho hk => by have h1 := ho.2.1; have h2 := Sw3.out; have h3 : k ≠ w.heap.size + 1 := (by omega); exact (Below.heap_setCell _ ⟨w.heap.size + 1, 1, none⟩ _ k h3).trans (Below.heap_setCell _ ⟨w.heap.size + 1, 0, none⟩ _ k h3))) (fun _ _ => trivial)) (by have := Sw3.out; omega), (HBw5.out.setCell (by simp) _).setCell (by simp) _⟩

end Go.Proofs.Ytfpicgefmgnfnaa.G
