/- Contract of slices.Delete at handles (one element, in place), over the seat's translation. -/
import Derived.Test.YtfpicgefmgnfnaaG1
import Derived.Deep.RegionLaw
import Derived.OwnWalk
import Derived.Shelf.RegionOpenPlain
namespace Go.Proofs.Ytfpicgefmgnfnaa.G
open Go.RowKit Go.Proofs.YtfpicgefmgnfnaaW.PrintWords Go.Proofs.YtfpicgefmgnfnaaW.PrintLast Go.Proofs.YtfpicgefmgnfnaaW.PrintMore
set_option linter.unusedVariables false
set_option linter.unusedSimpArgs false

/-- append with a run that is known, as one step of a region that draws. -/
theorem step_append_run {P : Program} {ops : Array Oper} {o : Oper} {a : Act} {w : World} {K : Act → World → Prop} {Q : Exit → Act → World → Prop} {E : Prop}
    (hg : o.guard = none) (s x : Operand) (t : TypeId) (hop : o.op = Op.call { callee := Callee.builtin Builtin.append, args := #[s, x], argTypes := #[t, t] })
    (vs vx v : Value) (w1 : World) (hs : a.eval s = vs) (hx : a.eval x = vx)
    (hrun : (Builtin.append_ #[t, t] o.type #[vs, vx]).run P w = .ok v w1)
    (hK : K (a.put o.dst v) w1) :
    if Region.wanted o (yielded ops a.tmps) = true then Oper.wp P o a w K Q else E := by
  have hw : Region.wanted o (yielded ops a.tmps) = true := by simp [Region.wanted, hg]
  rw [if_pos hw]
  unfold Oper.wp
  simp [execOp, hop, resolve, invoke, builtin, hs, hx, hrun, Result.andThen]
  exact hK

theorem clear_run (w : World) (g o c ty : Nat) (hc : ∀ j, j < 2 → (w.cell? ⟨g, o + j, none⟩).isSome = true) (hf : ∀ j, j < 2 → w.frozen? ⟨g, o + j, none⟩ = false) :
    (Builtin.clear_ #[22] ty #[.slice (some ⟨g, o, none⟩) 1 c]).run Try.prog w = .ok (.tuple #[]) (w.setCells g o [.int .i64 0, .int .u64 0]) := by
  have hst := run_storeCells_cells (P := Try.prog) g o [.int .i64 0, .int .u64 0] 0 w (by simpa using hc) (by simpa using hf) (by intro v hv; simp at hv; rcases hv with rfl | rfl <;> rfl)
  simp only [Nat.add_zero] at hst
  have hzc : (Builtin.zeroCells (Value.agg #[(Value.int .i64 0), (Value.int .u64 0)]).cells 1).toList = [.int .i64 0, .int .u64 0] := by kernel_rfl
  simp [Builtin.clear_, run_underlying Try.underlying22, Try.zeroValue33, hzc, hst]

set_option maxHeartbeats 2000000 in
set_option maxRecDepth 1000000 in
theorem del (base g cap i n : Nat) (xs : List Value) (w : World) (hown : w.ownsRow base 33 2 (.slice (some ⟨g, 0, none⟩) n cap) n xs) (h1 : ∀ u ∈ xs, u.oneCell' = true) (hi : i < n) :
    Calls Try.prog 25 #[.slice (some ⟨g, 0, none⟩) n cap, .int .i64 i, .int .i64 ((i : Int) + 1)] w fun e w' => e = .returned (.slice (some ⟨g, 0, none⟩) (n - 1) cap) ∧ w'.ownsRow base 33 2 (.slice (some ⟨g, 0, none⟩) (n - 1) cap) (n - 1) (xs.take (i * 2) ++ xs.drop ((i + 1) * 2)) ∧ w.grownBy w' (some g) := by
  have hown' := hown
  obtain ⟨hl, hh⟩ := hown
  rcases hh with ⟨h, _⟩ | ⟨g', cap', cur, hv, hbg, hg, hnc, hcm, hcs, htake⟩
  · cases h
  cases hv
  have hcm' : cap ≤ 9223372036854775807 := by simp only [maxLen] at hcm; omega
  have hic : i ≤ cap := by omega
  have hjc : i + 1 ≤ cap := by omega
  have hwr : IntKind.i64.wrap ((i : Int) + 1) = (i : Int) + 1 := by rw [IntKind.wrap_i64]; omega
  have hp0 : (0 : Int) ≤ (i : Int) + 1 := by omega
  have hp1 : (i : Int) + 1 ≤ (n : Int) := by omega
  have hp2 : ((i : Int) + 1).toNat = i + 1 := by omega
  have hp3 : (i : Int) ≠ (i : Int) + 1 := by omega
  have hp4 : (i : Int) ≤ (i : Int) + 1 := by omega
  obtain ⟨i0, hi0, hz0, hz1, hz2⟩ := info_parts info_Handle
  have hlen : (xs.drop ((i + 1) * 2)).length = (n - (i + 1)) * 2 := by simp; omega
  obtain ⟨A, hA, hsrc⟩ : ∃ A : Addr, (if cap = i + 1 then some (⟨g, 0, none⟩ : Addr) else some ⟨g, (i + 1) * 2, none⟩) = some A ∧ Hid (∀ t u, (xs.drop ((i + 1) * 2))[t]? = some u → w.drew.cell? (A.add t) = some u) := by
    by_cases h : cap = i + 1
    · refine ⟨⟨g, 0, none⟩, by simp [h], fun t u hu => ?_⟩
      have h0 : (xs.drop ((i + 1) * 2)).length = 0 := by rw [hlen]; omega
      rw [List.length_eq_zero_iff.1 h0] at hu
      simp at hu
    · refine ⟨⟨g, (i + 1) * 2, none⟩, by simp [h], fun t u hu => ?_⟩
      have ht : t < (n - (i + 1)) * 2 := by
        have := (List.getElem?_eq_some_iff.1 hu).1
        rwa [hlen] at this
      rw [List.getElem?_drop] at hu
      rw [Addr.add_lit]
      exact (hown'.cellAt _ (by omega)).trans hu
  have hpre : w.drew.ownsRow base 33 2 (.slice (some ⟨g, 0, none⟩) i cap) i (xs.take (i * 2)) :=
    ⟨by simp; omega, .inr ⟨g, cap, cur, rfl, hbg, hg, hic, hcm, hcs, by rw [← htake, List.take_take]; congr 1; omega⟩⟩
  obtain ⟨w1, hrun, hown1, hg1⟩ := run_append_fits (P := Try.prog) w.drew base 22 22 33 i0 2 Try.underlying22 hi0 hz1 g i cap _ hpre A (n - (i + 1)) (cap - (i + 1)) (xs.drop ((i + 1) * 2)) hlen hsrc.out (fun u hu => h1 u (List.drop_subset _ _ hu)) (by omega)
  obtain ⟨c1, hg1h, hc1s, hc1t⟩ : ∃ c1 : Array Value, w1.heap[g]? = some (.cells c1 33 (0, 0)) ∧ c1.size = cap * 2 ∧ c1.toList.take ((i + (n - (i + 1))) * 2) = xs.take (i * 2) ++ xs.drop ((i + 1) * 2) := by
    rcases hown1.2 with ⟨h, _⟩ | ⟨g', cap', cur', hv, _, hh, _, _, hs, ht⟩
    · cases h
    · cases hv
      exact ⟨cur', hh, hs, ht⟩
  have hn1 : n - (n - 1) = 1 := by omega
  have hn2 : i + (n - (i + 1)) = n - 1 := by omega
  rw [hn2] at hrun hown1 hc1t
  have hcl : ∀ ty c, (Builtin.clear_ #[22] ty #[.slice (some ⟨g, (n - 1) * 2, none⟩) 1 c]).run Try.prog w1 = .ok (.tuple #[]) (w1.setCells g ((n - 1) * 2) [.int .i64 0, .int .u64 0]) := by
    intro ty c
    refine clear_run w1 g _ c ty (fun j hj => ?_) (fun j hj => ?_)
    · have hlt : (n - 1) * 2 + j < c1.size := by omega
      simp [World.cell?, hg1h, hlt]
    · simp [World.frozen?, hg1h]
  have hfin : (w1.setCells g ((n - 1) * 2) [.int .i64 0, .int .u64 0]).ownsRow base 33 2 (.slice (some ⟨g, 0, none⟩) (n - 1) cap) (n - 1) (xs.take (i * 2) ++ xs.drop ((i + 1) * 2)) ∧ w.grownBy (w1.setCells g ((n - 1) * 2) [.int .i64 0, .int .u64 0]) (some g) := by
    simp only [World.setCells]
    have h2 := heap_setCell_same (w1.setCell ⟨g, (n - 1) * 2, none⟩ (.int .i64 0)) g ((n - 1) * 2 + 1) _ _ (.int .u64 0) (heap_setCell_same w1 g ((n - 1) * 2) c1 _ (.int .i64 0) hg1h)
    refine ⟨⟨hown1.1, .inr ⟨g, cap, _, rfl, hbg, h2, by omega, hcm, by simp [hc1s], ?_⟩⟩, ?_⟩
    · rw [← hc1t]
      apply List.ext_getElem?
      intro k
      simp only [List.getElem?_take, Array.toList_setIfInBounds, List.getElem?_set]
      by_cases hk : k < (n - 1) * 2
      · rw [if_pos hk, if_pos hk, if_neg (by omega), if_neg (by omega)]
      · rw [if_neg hk, if_neg hk]
    · exact ⟨hg1.1, hg1.2, hg1.3, by simpa using hg1.4, fun k hk hne => by
        have : k ≠ g := fun e => hne (by rw [e])
        rw [heap_setCell_other _ _ _ _ this, heap_setCell_other _ _ _ _ this]
        exact hg1.5 k hk hne⟩
  have H1 := Aside0.mk hrun
  have H2 := Aside0.mk hfin
  have X1 := Aside0.mk hown1
  clear hrun hfin hown1 hg1 hg1h hc1s hc1t hpre hsrc hlen hown' htake hg hcs hl h1
  go_enter Try.func25, Try.ntmps25
  go_wp2_with fail
  go_region_law (refine step_append_run rfl (.tmp 22) (.tmp 25) 22 rfl (.slice (some ⟨g, 0, none⟩) i cap) (.slice (some A) (n - (i + 1)) (cap - (i + 1))) (.slice (some ⟨g, 0, none⟩) (n - 1) cap) w1 (by simp [Act.eval, Act.put]) (by simp [Act.eval, Act.put]) H1.out ?_)

  go_wp2

  all_goals go_ret
  all_goals exact ⟨rfl, H2.out.1, H2.out.2⟩

theorem del_R (base : Nat) (l : List P.S33) (v : Value) (w : World) (i : Nat) (hi : i < l.length) (hb : base ≤ w.heap.size) (h : Kd.R P.k33 33 w base (fun _ => True) v l) :
    Calls Try.prog 25 #[v, .int .i64 i, .int .i64 ((i : Int) + 1)] w fun e w' => ∃ v', e = .returned v' ∧ Kd.R P.k33 33 w' base (fun _ => True) v' (l.eraseIdx i) ∧ Below base w w' := by
  obtain ⟨_, inner, hown, hr⟩ := h
  have hone : ∀ u ∈ inner, u.oneCell' = true := Kd.reps_one hr (by decide) (fun _ _ hp => P.k33.K_one (P.k33.K_of_M hp))
  have hown' : w.ownsRow base 33 2 v l.length inner := hown
  rcases hown'.2 with ⟨rfl, h0⟩ | ⟨g, cap, cur, rfl, hbg, hg, hnc, hcm, hcs, htake⟩
  · omega
  refine (del base g cap i l.length inner w hown' hone hi).mono ?_
  rintro e w' ⟨rfl, ho, hgr⟩
  have hlen : (l.eraseIdx i).length = l.length - 1 := by rw [List.length_eraseIdx, if_pos hi]
  refine ⟨_, rfl, ⟨fun _ _ => trivial, inner.take (i * 2) ++ inner.drop ((i + 1) * 2), ?_, ?_⟩, ?_⟩
  · rw [hlen]; exact ho
  · rw [List.eraseIdx_eq_take_drop_succ]
    exact Kd.reps_append (Kd.reps_take hr (by omega)) (Kd.reps_drop hr)
  · exact (Below.refl base w).grown hgr hb (fun k hk => by cases hk; exact hbg)

end Go.Proofs.Ytfpicgefmgnfnaa.G
