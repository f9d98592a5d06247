/- Contract of vec.Dist; quiverlaw05.wakes is true, in whatever memory. -/
import Derived.Test.YtbdoeikdoohagaaG11
namespace Go.Proofs.Ytbdoeikdoohagaa.G
open Go.Shelf Go.RowKit Go.Proofs.YtbdoeikdoohagaaW.PrintWords Go.Proofs.YtbdoeikdoohagaaW.PrintLast Go.Proofs.YtbdoeikdoohagaaW.PrintMore
set_option linter.unusedVariables false
set_option linter.unusedSimpArgs false

def distR (l m : List Int) : Int × Int := if allErr [l, m] = 0 then (distV l m, 0) else (0, allErr [l, m])
def vec_Dist.f (l m : List Int) : Option (Int × Int) := some (distR l m)

set_option maxHeartbeats 2000000 in
set_option maxRecDepth 100000 in
theorem vec_Dist.calls (A : Option Addr) (c : Nat) (l : List Int) (A' : Option Addr) (c' : Nat) (m : List Int) (r1 r2 : Int) (w : World) (hr : Kd.C (Kd.int .i32) w A l.length l) (hc : l.length ≤ c) (hr' : Kd.C (Kd.int .i32) w A' m.length m) (hc' : m.length ≤ c') (h : vec_Dist.f l m = some (r1, r2)) :
    Calls Try.prog 23 #[.slice A l.length c, .slice A' m.length c'] w fun e w' => e = .returned (.tuple #[.int .u64 r1, .int .i64 r2]) ∧ Below w.heap.size w w' := by
  replace h := Option.some.inj h
  unfold distR at h
  have HR := Aside0.mk hr
  have HR' := Aside0.mk hr'
  have HC := Aside0.mk hc
  have HC' := Aside0.mk hc'
  have HK := Aside0.mk (show kR.K w l [.slice A l.length c] from ⟨A, c, rfl, hc, hr⟩)
  have HK' := Aside0.mk (show kR.K w m [.slice A' m.length c'] from ⟨A', c', rfl, hc', hr'⟩)
  generalize hzz : allErr [l, m] = z at h
  have HZZ := Aside0.mk hzz
  have H := Aside0.mk h
  clear hr hr' h hc hc' hzz
  go_enter Try.func23, Try.ntmps23
  go_wp2_with ((with_reducible refine gate_dst (N := 9) rfl ?_); refine Kd.R_lit (Kd.fixed kR w) (w0 := w) w.heap.size 25 ?hg (N := 9) ?hd (xs := [l, m]) (inner := [.slice A l.length c, .slice A' m.length c']) (ok := fun _ => True) (okp := fun _ => True) ?hr ?hp (fun _ hk => hk) trivial (Below.refl _ _) (Nat.le_refl _) (by simp) ?_; (case hd => rfl); (case hg => rfl); (case hr => first | (go_simp; done) | (go_simp; rfl)); (case hp => exact Reps.one HK.out (Reps.one HK'.out (Reps.none _ _))); intro v1 w1 ho hb hg_ hnew_; clear hg_ hnew_; obtain ⟨A2, c2, e2, hl2, hC2⟩ := Kd.R_reads ho; subst e2; have HC2 := Aside0.mk (ReadsRow.imp_ hC2 (Below.refl _ _) (fun _ _ hp => kR.K_below hb hp) : Kd.C kR w1 A2 [l, m].length [l, m]); have HL2 := Aside0.mk hl2; have HB1 := Aside0.mk hb; clear ho hb hl2 hC2)
  refine (vec_all.calls A2 c2 [l, m] z w1 HC2.out HL2.out (congrArg some HZZ.out)).mono ?_
  rintro e w3 ⟨rfl, hb3⟩
  have HB3 := Aside0.mk (below_step HB1.out hb3)
  clear hb3
  have h := H.out
  by_cases hz : z = 0
  case neg =>
    rw [if_neg hz] at h
    obtain ⟨rfl, rfl⟩ := Prod.mk.inj h
    have e1 : (z != 0) = true := by rw [bne_iff_ne]; exact hz
    clear h hz H
    go_wp2_with fail
    go_returns
    exact ⟨rfl, HB3.out⟩
  case pos =>
    rw [if_pos hz] at h
    obtain ⟨rfl, rfl⟩ := Prod.mk.inj h
    subst hz
    clear h H
    have hd := dist_at [l] m (by
      have hh := (allErr_zero _).1 HZZ.out
      refine (allErr_zero _).2 ⟨?_, ?_⟩
      · have := hh.1
        simp only [List.all_cons, List.all_nil, Bool.and_true, Bool.and_eq_true] at this ⊢
        exact ⟨this.2, this.1⟩
      · have := hh.2
        simp only [sameLens, List.all_cons, List.all_nil, Bool.and_true, Bool.and_eq_true, decide_eq_true_eq, List.getD_cons_zero] at this ⊢
        exact ⟨trivial, this.2.symm⟩) 0 (by simp)
    have HD := Aside0.mk (vec_dist.calls A c l A' c' m (distV l m) w3 (Kd.C_below HR.out HB3.out) HC.out (Kd.C_below HR'.out HB3.out) HC'.out hd)
    clear hd
    go_wp2_with fail
    refine HD.out.mono ?_
    rintro e w4 ⟨rfl, hb4⟩
    have HB4 := Aside0.mk (below_step HB3.out hb4)
    clear hb4
    go_wp2_with fail
    go_returns
    exact ⟨rfl, HB4.out⟩

/-- A row that lies in a block of its own, known whole. -/
theorem C_blockRow {α : Type} (d : Kd α) {w : World} {g t : Nat} {cs : List Value} {l : List α} (hb : w.heap[g]? = some (.cells cs.toArray t (0, 0))) (h : Reps (d.K w) d.sz l cs) (hl : l.length ≤ 9223372036854775807) : Kd.C d w (some ⟨g, 0, none⟩) l.length l := by
  refine ⟨rfl, hl, fun _ => ⟨_, rfl, fun j p hj => ?_⟩⟩
  have hK := h.2 j p hj
  refine ⟨_, d.K_len hK, hK, fun i u hu => ?_⟩
  rw [add_plain, blk_cell hb]
  rw [List.getElem?_take] at hu
  split at hu
  · rw [List.getElem?_drop] at hu
    simpa using hu
  · cases hu

def wakes05.f : Option Bool := some true
set_option maxHeartbeats 2000000 in
set_option maxRecDepth 100000 in
theorem wakes05.calls (r : Bool) (w : World) (h : wakes05.f = some r) : Calls Try.prog 18 #[] w fun e w' => e = .returned (.bool r) ∧ Below w.heap.size w w' := by
  obtain rfl := Option.some.inj h
  clear h
  have hC1 : Kd.C (Kd.int .i32) (w.alloc (.cells #[.int .i32 1, .int .i32 2] 21)) (some ⟨w.heap.size, 0, none⟩) 2 [1, 2] := C_lit .i32 w [1, 2] 21 (by decide)
  have hC2 : Kd.C (Kd.int .i32) ((w.alloc (.cells #[.int .i32 1, .int .i32 2] 21)).alloc (.cells #[.int .i32 4, .int .i32 6] 21)) (some ⟨w.heap.size + 1, 0, none⟩) 2 [4, 6] := by
    have := C_lit .i32 (w.alloc (.cells #[.int .i32 1, .int .i32 2] 21)) [4, 6] 21 (by decide)
    rwa [World.size_alloc] at this
  have HD := Aside0.mk (vec_Dist.calls (some ⟨w.heap.size, 0, none⟩) 2 [1, 2] (some ⟨w.heap.size + 1, 0, none⟩) 2 [4, 6] 25 0 _ (Kd.C_alloc hC1 _) (Nat.le_refl _) hC2 (Nat.le_refl _) (by decide +kernel))
  have HB0 := Aside0.mk (below_alloc (below_alloc (Below.refl _ w) (.cells #[.int .i32 1, .int .i32 2] 21)) (.cells #[.int .i32 4, .int .i32 6] 21))
  clear hC1 hC2
  go_enter Try.func18, Try.ntmps18
  go_wp2_with fail
  refine HD.out.mono ?_
  rintro e w1 ⟨rfl, hb1⟩
  have HB1 := Aside0.mk (below_step HB0.out hb1)
  clear hb1 HD
  go_wp2_with fail
  have hC3 : Kd.C kR ((((w1.alloc (.cells #[.int .i32 1] 21)).alloc (.cells #[.int .i32 2] 21)).alloc (.cells #[.int .i32 (-4)] 21)).alloc (.cells #[.slice (some ⟨w1.heap.size, 0, none⟩) 1 1, .slice (some ⟨w1.heap.size + 1, 0, none⟩) 1 1, .slice (some ⟨w1.heap.size + 1 + 1, 0, none⟩) 1 1] 25)) (some ⟨w1.heap.size + 1 + 1 + 1, 0, none⟩) 3 [[1], [2], [-4]] := by
    have a1 : Kd.C (Kd.int .i32) (w1.alloc (.cells #[.int .i32 1] 21)) (some ⟨w1.heap.size, 0, none⟩) 1 [1] := C_lit .i32 w1 [1] 21 (by decide)
    have a2 : Kd.C (Kd.int .i32) ((w1.alloc (.cells #[.int .i32 1] 21)).alloc (.cells #[.int .i32 2] 21)) (some ⟨w1.heap.size + 1, 0, none⟩) 1 [2] := by
      have := C_lit .i32 (w1.alloc (.cells #[.int .i32 1] 21)) [2] 21 (by decide)
      rwa [World.size_alloc] at this
    have a3 : Kd.C (Kd.int .i32) (((w1.alloc (.cells #[.int .i32 1] 21)).alloc (.cells #[.int .i32 2] 21)).alloc (.cells #[.int .i32 (-4)] 21)) (some ⟨w1.heap.size + 1 + 1, 0, none⟩) 1 [-4] := by
      have := C_lit .i32 ((w1.alloc (.cells #[.int .i32 1] 21)).alloc (.cells #[.int .i32 2] 21)) [-4] 21 (by decide)
      rwa [World.size_alloc, World.size_alloc] at this
    have hb := heap_alloc_new (((w1.alloc (.cells #[.int .i32 1] 21)).alloc (.cells #[.int .i32 2] 21)).alloc (.cells #[.int .i32 (-4)] 21)) (.cells #[.slice (some ⟨w1.heap.size, 0, none⟩) 1 1, .slice (some ⟨w1.heap.size + 1, 0, none⟩) 1 1, .slice (some ⟨w1.heap.size + 1 + 1, 0, none⟩) 1 1] 25)
    simp only [World.size_alloc] at hb
    exact C_blockRow kR hb (Reps.one ⟨_, _, rfl, Nat.le_refl _, Kd.C_alloc (Kd.C_alloc (Kd.C_alloc a1 _) _) _⟩ (Reps.one ⟨_, _, rfl, Nat.le_refl _, Kd.C_alloc (Kd.C_alloc a2 _) _⟩ (Reps.one ⟨_, _, rfl, Nat.le_refl _, Kd.C_alloc a3 _⟩ (Reps.none _ _)))) (by decide)
  have HM := Aside0.mk (vec_Mean.calls (some ⟨w1.heap.size + 1 + 1 + 1, 0, none⟩) 3 [[1], [2], [-4]] [-1] 0 _ hC3 (Nat.le_refl _) (by decide +kernel))
  clear hC3
  refine HM.out.mono ?_
  rintro e w2 ⟨v2, rfl, ho, hb2⟩
  obtain ⟨A3, c3, rfl, hl3, hC3⟩ := Kd.R_reads ho
  obtain ⟨ad, rfl, hcell⟩ := C_byte' hC3 0 (by decide)
  rw [add0] at hcell
  replace hcell : w2.cell? ad = some (.int .i32 (-1)) := hcell
  have HB2 := Aside0.mk (below_step (below_alloc (below_alloc (below_alloc (below_alloc HB1.out _) _) _) _) hb2)
  clear ho hb2 HM hC3 hl3
  go_wp2_with fail
  all_goals (try (go_quiet (fail); go_wp2_with fail))
  go_returns
  first | exact ⟨rfl, HB2.out⟩ | exact ⟨rfl, pw_below_drewN HB2.out _⟩

end Go.Proofs.Ytbdoeikdoohagaa.G
