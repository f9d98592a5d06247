/- quiverlaw24.RecordBack answers true. -/
import Derived.Test.YtngjaaldidmgjaaMI
namespace Go.Proofs.Ytngjaaldidmgjaa.G
open Go.Shelf Go.RowKit Go.Proofs.YtngjaaldidmgjaaW.PrintWords Go.Proofs.YtngjaaldidmgjaaW.PrintLast Go.Proofs.YtngjaaldidmgjaaW.PrintMore
attribute [local go_sem] max2_int min2_int max_two min_two
set_option linter.unusedVariables false
set_option linter.unusedSimpArgs false

def op12_0 : Oper := { dst := some 24, op := Go.Op.load 28 (Go.Operand.tmp 3), type := 28, pos := "outright.go:15", after := #[], guard := none }
def op12_1 : Oper := { dst := some 25, op := Go.Op.call { callee := Go.Callee.value (Go.Operand.func 15), args := #[Go.Operand.tmp 24], argTypes := #[28] }, type := 28, pos := "outright.go:15", after := #[{ on := 0, ground := Go.Ground.data }], guard := none }
def op12_2 : Oper := { dst := some 26, op := Go.Op.load 28 (Go.Operand.tmp 4), type := 28, pos := "outright.go:15", after := #[], guard := none }
def op12_3 : Oper := { dst := some 27, op := Go.Op.call { callee := Go.Callee.value (Go.Operand.func 15), args := #[Go.Operand.tmp 26], argTypes := #[28] }, type := 28, pos := "outright.go:15", after := #[{ on := 2, ground := Go.Ground.data }, { on := 1, ground := Go.Ground.chain }], guard := none }
def op12_4 : Oper := { dst := some 7, op := Go.Op.alloc 28, type := 0, pos := "outright.go:15", after := #[], guard := none }
def op12_5 : Oper := { dst := some 8, op := Go.Op.alloc 28, type := 0, pos := "outright.go:15", after := #[], guard := none }
def op12_6 : Oper := { dst := none, op := Go.Op.store 28 (Go.Operand.tmp 7) (Go.Operand.tmp 25), type := 0, pos := "outright.go:15", after := #[{ on := 4, ground := Go.Ground.data }, { on := 1, ground := Go.Ground.data }, { on := 3, ground := Go.Ground.chain }, { on := 0, ground := Go.Ground.phase }, { on := 1, ground := Go.Ground.phase }, { on := 2, ground := Go.Ground.textOnly Go.Departure.lateStores }, { on := 3, ground := Go.Ground.textOnly Go.Departure.lateStoresUnsure }, { on := 4, ground := Go.Ground.phase }, { on := 5, ground := Go.Ground.phase }], guard := none }
def op12_7 : Oper := { dst := none, op := Go.Op.store 28 (Go.Operand.tmp 8) (Go.Operand.tmp 27), type := 0, pos := "outright.go:15", after := #[{ on := 5, ground := Go.Ground.data }, { on := 3, ground := Go.Ground.data }, { on := 6, ground := Go.Ground.chain }, { on := 0, ground := Go.Ground.phase }, { on := 1, ground := Go.Ground.phase }, { on := 2, ground := Go.Ground.phase }, { on := 3, ground := Go.Ground.phase }, { on := 4, ground := Go.Ground.phase }, { on := 5, ground := Go.Ground.phase }, { on := 6, ground := Go.Ground.phase }], guard := none }
set_option maxHeartbeats 4000000 in
set_option maxRecDepth 100000 in
theorem recordBack.walk (x0 : Rc) (cs0 : Array Value) (x1 : Rc) (cs1 : Array Value) (A2 : Option Addr) (c2 : Nat) (l2 : List Int) (W : World) (hK0 : kRc.K W x0 cs0.toList) (w0 : wfRc x0) (hK1 : kRc.K W x1 cs1.toList) (w1 : wfRc x1) (hl2 : l2.length ≤ c2) (hC2 : Kd.C (Kd.int .u8) W A2 l2.length l2) (hw2 : ∀ x ∈ l2, (Lit.int .u8 x).wf = true) :
    Calls Try.prog 12 #[.agg cs0, .agg cs1, .slice A2 l2.length c2] W fun e w' => e = .returned (.bool true) ∧ Below W.heap.size W w' := by
  obtain ⟨A5, c5, A6, c6, rfl, h5, g5, h6, g6⟩ := rc_open hK0
  obtain ⟨B5, d5, B6, d6, rfl, k5, j5, k6, j6⟩ := rc_open hK1
  obtain ⟨n, hn1, hn2, hmin, hcut, hCr, hlr⟩ := cut_min A2 c2 l2 600 hl2
  replace hmin : (if (600 : Int) < (l2.length : Int) then (600 : Int) else (l2.length : Int)) = (n : Int) := hmin
  have hby : ∀ x ∈ l2.take n, isB x := fun x hx => wf_u8 (hw2 x (List.mem_of_mem_take hx))
  have hrl : (l2.take n).length ≤ 600 := by rw [List.length_take]; omega
  have HC := Aside0.mk (hCr W hC2)
  have HLR := Aside0.mk hlr
  have HBY := Aside0.mk hby
  generalize l2.take n = raw at *
  have HV0 := Aside0.mk (few_rcV w0)
  have HV1 := Aside0.mk (few_rcV w1)
  obtain ⟨w2, hw2'⟩ : ∃ w2, w2 = (W.alloc (.cells (rcL x0 A5 c5 A6 c6) 28)).alloc (.cells (rcL x1 B5 d5 B6 d6) 28) := ⟨_, rfl⟩
  have hs1 : (W.alloc (.cells (rcL x0 A5 c5 A6 c6) 28)).heap.size = W.heap.size + 1 := by simp
  have hB2 : Below W.heap.size W w2 := by rw [hw2']; exact ((Below.refl _ _).alloc (Nat.le_refl _) _).alloc (by rw [hs1]; omega) _
  have hX := show w2.heap[W.heap.size]? = some (.cells (rcL x0 A5 c5 A6 c6) 28 (0, 0)) by rw [hw2']; exact (Below.heap_alloc _ _ _ (by rw [hs1]; omega)).trans (heap_alloc_new W _)
  have hY := show w2.heap[W.heap.size + 1]? = some (.cells (rcL x1 B5 d5 B6 d6) 28 (0, 0)) by rw [hw2', ← hs1]; exact heap_alloc_new _ _
  have HWK := Aside0.mk (wakes24 w2)
  have HW := Aside0.mk hw2'
  have HB2 := Aside0.mk hB2
  have HX := Aside0.mk hX
  have HY := Aside0.mk hY
  have HF0 := Aside0.mk (fun (W' : World) (h : Below w2.heap.size w2 W') => fewS x0 A5 c5 A6 c6 W' (Kd.C_below g5 (below_step hB2 h)) h5 (Kd.C_below g6 (below_step hB2 h)) h6)
  have HF1 := Aside0.mk (fun (W' : World) (h : Below w2.heap.size w2 W') => fewS x1 B5 d5 B6 d6 W' (Kd.C_below j5 (below_step hB2 h)) k5 (Kd.C_below j6 (below_step hB2 h)) k6)
  clear hK0 hK1 hw2' hs1 hB2 hX hY g5 g6 j5 j6 h5 h6 k5 k6 w0 w1 hCr hlr hby hn1 hn2 hw2 hl2 hC2
  go_enter Try.func12, Try.ntmps12
  go_upto_region 1 with (fail)
  rw [← HW.out]
  go_upto_region 3 with (go_at_call 14; refine HWK.out.mono ?_; rintro e w3 ⟨rfl, hb⟩; have HB3 := Aside0.mk hb; clear hb)
  have x0c : ∀ j v, (rcL x0 A5 c5 A6 c6)[j]? = some v → w3.cell? ⟨W.heap.size, j, none⟩ = some v := fun j v h => (blk_cell (blk_below HX.out HB3.out) j).trans h
  have y0c : ∀ j v, (rcL x1 B5 d5 B6 d6)[j]? = some v → w3.cell? ⟨W.heap.size + 1, j, none⟩ = some v := fun j v h => (blk_cell (blk_below HY.out HB3.out) j).trans h
  have xc0 : w3.cell? ⟨W.heap.size, 0, none⟩ = some (.int .i64 x0.f0) := x0c 0 _ rfl
  have xc1 : w3.cell? ⟨W.heap.size, 1, none⟩ = some (.int .u64 x0.f1) := x0c 1 _ rfl
  have xc2 : w3.cell? ⟨W.heap.size, 2, none⟩ = some (.int .u64 x0.f2) := x0c 2 _ rfl
  have xc3 : w3.cell? ⟨W.heap.size, 3, none⟩ = some (.int .i64 x0.f3) := x0c 3 _ rfl
  have xc4 : w3.cell? ⟨W.heap.size, 4, none⟩ = some (.int .i64 x0.f4) := x0c 4 _ rfl
  have xc5 : w3.cell? ⟨W.heap.size, 5, none⟩ = some (.slice A5 x0.f5.length c5) := x0c 5 _ rfl
  have xc6 : w3.cell? ⟨W.heap.size, 6, none⟩ = some (.slice A6 x0.f6.length c6) := x0c 6 _ rfl
  have yc0 : w3.cell? ⟨W.heap.size + 1, 0, none⟩ = some (.int .i64 x1.f0) := y0c 0 _ rfl
  have yc1 : w3.cell? ⟨W.heap.size + 1, 1, none⟩ = some (.int .u64 x1.f1) := y0c 1 _ rfl
  have yc2 : w3.cell? ⟨W.heap.size + 1, 2, none⟩ = some (.int .u64 x1.f2) := y0c 2 _ rfl
  have yc3 : w3.cell? ⟨W.heap.size + 1, 3, none⟩ = some (.int .i64 x1.f3) := y0c 3 _ rfl
  have yc4 : w3.cell? ⟨W.heap.size + 1, 4, none⟩ = some (.int .i64 x1.f4) := y0c 4 _ rfl
  have yc5 : w3.cell? ⟨W.heap.size + 1, 5, none⟩ = some (.slice B5 x1.f5.length d5) := y0c 5 _ rfl
  have yc6 : w3.cell? ⟨W.heap.size + 1, 6, none⟩ = some (.slice B6 x1.f6.length d6) := y0c 6 _ rfl
  clear x0c y0c
  replace HF0 := Aside0.mk (fun (W' : World) (h : Below w3.heap.size w3 W') => HF0.out W' (below_step HB3.out h))
  replace HF1 := Aside0.mk (fun (W' : World) (h : Below w3.heap.size w3 W') => HF1.out W' (below_step HB3.out h))
  go_cut [7, 8] (fun v7 v8 wc => PairRel x0 x1 w3 v7 v8 wc)
  case first =>
    refine wp_region_noPanic ?_
    refine wp_region_held_drew (S := (fun w' => Below w3.heap.size w3 w')) (by kernel_rfl) (below_drew1 (Below.refl _ _)) (fun hHeld => ?_)
    refine wpAnyH_take (i := 0) (oi := op12_0) (v := .agg #[.int .i64 x0.f0, .int .u64 x0.f1, .int .u64 x0.f2, .int .i64 x0.f3, .int .i64 x0.f4, .slice A5 x0.f5.length c5, .slice A6 x0.f6.length c6]) rfl (by kernel_rfl) (by kernel_rfl) (by kernel_rfl) (fun _ _ _ h => h) (Or.inl ⟨by rfl, ?_⟩) hHeld ?_
    · unfold op12_0
      intro wq hq
      have k0 := (hq.cell (World.block_lt_of_cell? w3 _ xc0)).trans xc0
      have k1 := (hq.cell (World.block_lt_of_cell? w3 _ xc1)).trans xc1
      have k2 := (hq.cell (World.block_lt_of_cell? w3 _ xc2)).trans xc2
      have k3 := (hq.cell (World.block_lt_of_cell? w3 _ xc3)).trans xc3
      have k4 := (hq.cell (World.block_lt_of_cell? w3 _ xc4)).trans xc4
      have k5 := (hq.cell (World.block_lt_of_cell? w3 _ xc5)).trans xc5
      have k6 := (hq.cell (World.block_lt_of_cell? w3 _ xc6)).trans xc6
      first | (go_simp; done) | (go_simp; with_reducible rfl)
    unfold op12_0
    simp only [Act.put, List.setIfInBounds_toArray, List.set_cons_zero, List.set_cons_succ]
    refine wpAnyH_take (i := 2) (oi := op12_2) (v := .agg #[.int .i64 x1.f0, .int .u64 x1.f1, .int .u64 x1.f2, .int .i64 x1.f3, .int .i64 x1.f4, .slice B5 x1.f5.length d5, .slice B6 x1.f6.length d6]) rfl (by kernel_rfl) (by kernel_rfl) (by kernel_rfl) (fun _ _ _ h => h) (Or.inl ⟨by rfl, ?_⟩) hHeld ?_
    · unfold op12_2
      intro wq hq
      have k0 := (hq.cell (World.block_lt_of_cell? w3 _ yc0)).trans yc0
      have k1 := (hq.cell (World.block_lt_of_cell? w3 _ yc1)).trans yc1
      have k2 := (hq.cell (World.block_lt_of_cell? w3 _ yc2)).trans yc2
      have k3 := (hq.cell (World.block_lt_of_cell? w3 _ yc3)).trans yc3
      have k4 := (hq.cell (World.block_lt_of_cell? w3 _ yc4)).trans yc4
      have k5 := (hq.cell (World.block_lt_of_cell? w3 _ yc5)).trans yc5
      have k6 := (hq.cell (World.block_lt_of_cell? w3 _ yc6)).trans yc6
      first | (go_simp; done) | (go_simp; with_reducible rfl)
    unfold op12_2
    simp only [Act.put, List.setIfInBounds_toArray, List.set_cons_zero, List.set_cons_succ]
    have HB := Aside0.mk (show Below w3.heap.size w3 w3.drew from below_drew1 (Below.refl _ _))
    clear hHeld
    refine wpAnyH_ready (rs := [1, 4, 5]) (by kernel_rfl) (by simp) ?_
    refine AllReadyH.cons (o := op12_1) rfl (fun K hK => ?_) ?_
    · unfold op12_1
      go_simp
      go_at_call 15
      refine (HF0.out _ HB.out).mono ?_
      rintro e v0 ⟨a5, p5, a6, p6, rfl, hs, hb⟩
      replace HB := Aside0.mk (below_step HB.out hb)
      have R0 := Aside0.mk hs
      clear hs hb
      refine hK.out _ _ HB.out (fun _ => ?_)
      clear hK K
      try simp only [Act.put, List.setIfInBounds_toArray, List.set_cons_zero, List.set_cons_succ]
      refine wpAnyH_ready (rs := [3, 4, 5]) (by kernel_rfl) (by simp) ?_
      refine AllReadyH.cons (o := op12_3) rfl (fun K hK => ?_) ?_
      · unfold op12_3
        go_simp
        go_at_call 15
        refine (HF1.out _ HB.out).mono ?_
        rintro e v1 ⟨b5, q5, b6, q6, rfl, hs, hb⟩
        replace HB := Aside0.mk (below_step HB.out hb)
        replace R0 := Aside0.mk (R0.out.below hb)
        have R1 := Aside0.mk hs
        clear hs hb
        refine hK.out _ _ HB.out (fun _ => ?_)
        clear hK K
        try simp only [Act.put, List.setIfInBounds_toArray, List.set_cons_zero, List.set_cons_succ]
        refine wpAnyH_ready (rs := [4, 5]) (by kernel_rfl) (by simp) ?_
        refine AllReadyH.cons (o := op12_4) rfl (fun K hK => ?_) ?_
        · unfold op12_4
          refine box_step (N := 7) (cs := zcL) (t := 28) (by rfl) rfl (by first | (go_simp; done) | (go_simp; rfl)) ?_
          intro B0 hB v2 hbox hb
          have G0 := Aside0.mk (show w3.heap.size ≤ B0 by rw [hB]; exact below_size HB.out)
          replace HB := Aside0.mk (below_step HB.out hb)
          replace R0 := Aside0.mk (R0.out.below hb)
          replace R1 := Aside0.mk (R1.out.below hb)
          have H0 := Aside0.mk hbox
          clear hbox hb hB
          refine hK.out _ _ HB.out (fun _ => ?_)
          clear hK K
          try simp only [Act.put, List.setIfInBounds_toArray, List.set_cons_zero, List.set_cons_succ]
          refine wpAnyH_ready (rs := [5]) (by kernel_rfl) (by simp) ?_
          refine AllReadyH.cons (o := op12_5) rfl (fun K hK => ?_) ?_
          · unfold op12_5
            refine box_step (N := 8) (cs := zcL) (t := 28) (by rfl) rfl (by first | (go_simp; done) | (go_simp; rfl)) ?_
            intro B1 hB v3 hbox hb
            have G1 := Aside0.mk (show w3.heap.size ≤ B1 by rw [hB]; exact below_size HB.out)
            have HNE := Aside0.mk (show B0 ≠ B1 by rw [hB]; exact Nat.ne_of_lt (blk_lt H0.out))
            replace HB := Aside0.mk (below_step HB.out hb)
            replace H0 := Aside0.mk (blk_below H0.out hb)
            replace R0 := Aside0.mk (R0.out.below hb)
            replace R1 := Aside0.mk (R1.out.below hb)
            have H1 := Aside0.mk hbox
            clear hbox hb hB
            refine hK.out _ _ HB.out (fun _ => ?_)
            clear hK K
            try simp only [Act.put, List.setIfInBounds_toArray, List.set_cons_zero, List.set_cons_succ]
            refine wpAnyH_ready (rs := [6]) (by kernel_rfl) (by simp) ?_
            refine AllReadyH.cons (o := op12_6) rfl (fun K hK => ?_) AllReadyH.nil
            unfold op12_6
            obtain ⟨⟨e0, e1, e2, e3, e4, e5, e6⟩, f0, f1, f2, f3, f4, f5, f6⟩ := boxF H0.out
            go_simp
            refine boxK (K := K _) H0.out ?_
            intro s0 hX hf
            have HX0 := Aside0.mk (show s0.heap[B0]? = some (.cells (rcL (fewR x0) a5 p5 a6 p6) 28 (0, 0)) from hX)
            replace R0 := Aside0.mk (R0.out.fr H0.out hf)
            replace R1 := Aside0.mk (R1.out.fr H0.out hf)
            replace H1 := Aside0.mk (hf.blk H1.out (fun e => HNE.out e.symm))
            replace HB := Aside0.mk (below_step' HB.out (Below.refl _ _) hf (fun k hk => by rw [hk]; exact G0.out))
            clear e0 e1 e2 e3 e4 e5 e6 f0 f1 f2 f3 f4 f5 f6 hX hf
            refine hK.out _ _ HB.out (fun _ => ?_)
            clear hK K
            try simp only [Act.put, List.setIfInBounds_toArray, List.set_cons_zero, List.set_cons_succ]
            refine wpAnyH_ready (rs := [7]) (by kernel_rfl) (by simp) ?_
            refine AllReadyH.cons (o := op12_7) rfl (fun K hK => ?_) AllReadyH.nil
            unfold op12_7
            obtain ⟨⟨e0, e1, e2, e3, e4, e5, e6⟩, f0, f1, f2, f3, f4, f5, f6⟩ := boxF H1.out
            go_simp
            refine boxK (K := K _) H1.out ?_
            intro s1 hX hf
            have HX1 := Aside0.mk (show s1.heap[B1]? = some (.cells (rcL (fewR x1) b5 q5 b6 q6) 28 (0, 0)) from hX)
            replace R0 := Aside0.mk (R0.out.fr H1.out hf)
            replace R1 := Aside0.mk (R1.out.fr H1.out hf)
            replace HX0 := Aside0.mk (hf.blk HX0.out (fun e => HNE.out e))
            replace HB := Aside0.mk (below_step' HB.out (Below.refl _ _) hf (fun k hk => by rw [hk]; exact G1.out))
            clear e0 e1 e2 e3 e4 e5 e6 f0 f1 f2 f3 f4 f5 f6 hX hf
            refine hK.out _ _ HB.out (fun _ => ?_)
            clear hK K
            try simp only [Act.put, List.setIfInBounds_toArray, List.set_cons_zero, List.set_cons_succ]
            refine wpAnyH_done (by kernel_rfl) ?_ _
            refine NoPanic.normal ?_
            go_wp2_with fail
            go_meet
            exact ⟨B0, B1, a5, p5, a6, p6, b5, q5, b6, q6, rfl, rfl, HB, ⟨R0.out.at HX0.out⟩, ⟨R1.out.at HX1.out⟩⟩
          exact AllReadyH.nil
        refine AllReadyH.cons (o := op12_5) rfl (fun K hK => ?_) ?_
        · unfold op12_5
          refine box_step (N := 8) (cs := zcL) (t := 28) (by rfl) rfl (by first | (go_simp; done) | (go_simp; rfl)) ?_
          intro B1 hB v2 hbox hb
          have G1 := Aside0.mk (show w3.heap.size ≤ B1 by rw [hB]; exact below_size HB.out)
          replace HB := Aside0.mk (below_step HB.out hb)
          replace R0 := Aside0.mk (R0.out.below hb)
          replace R1 := Aside0.mk (R1.out.below hb)
          have H1 := Aside0.mk hbox
          clear hbox hb hB
          refine hK.out _ _ HB.out (fun _ => ?_)
          clear hK K
          try simp only [Act.put, List.setIfInBounds_toArray, List.set_cons_zero, List.set_cons_succ]
          refine wpAnyH_ready (rs := [4]) (by kernel_rfl) (by simp) ?_
          refine AllReadyH.cons (o := op12_4) rfl (fun K hK => ?_) ?_
          · unfold op12_4
            refine box_step (N := 7) (cs := zcL) (t := 28) (by rfl) rfl (by first | (go_simp; done) | (go_simp; rfl)) ?_
            intro B0 hB v3 hbox hb
            have G0 := Aside0.mk (show w3.heap.size ≤ B0 by rw [hB]; exact below_size HB.out)
            have HNE := Aside0.mk (show B0 ≠ B1 from fun e => Nat.ne_of_lt (blk_lt H1.out) (e.symm.trans hB))
            replace HB := Aside0.mk (below_step HB.out hb)
            replace H1 := Aside0.mk (blk_below H1.out hb)
            replace R0 := Aside0.mk (R0.out.below hb)
            replace R1 := Aside0.mk (R1.out.below hb)
            have H0 := Aside0.mk hbox
            clear hbox hb hB
            refine hK.out _ _ HB.out (fun _ => ?_)
            clear hK K
            try simp only [Act.put, List.setIfInBounds_toArray, List.set_cons_zero, List.set_cons_succ]
            refine wpAnyH_ready (rs := [6]) (by kernel_rfl) (by simp) ?_
            refine AllReadyH.cons (o := op12_6) rfl (fun K hK => ?_) AllReadyH.nil
            unfold op12_6
            obtain ⟨⟨e0, e1, e2, e3, e4, e5, e6⟩, f0, f1, f2, f3, f4, f5, f6⟩ := boxF H0.out
            go_simp
            refine boxK (K := K _) H0.out ?_
            intro s0 hX hf
            have HX0 := Aside0.mk (show s0.heap[B0]? = some (.cells (rcL (fewR x0) a5 p5 a6 p6) 28 (0, 0)) from hX)
            replace R0 := Aside0.mk (R0.out.fr H0.out hf)
            replace R1 := Aside0.mk (R1.out.fr H0.out hf)
            replace H1 := Aside0.mk (hf.blk H1.out (fun e => HNE.out e.symm))
            replace HB := Aside0.mk (below_step' HB.out (Below.refl _ _) hf (fun k hk => by rw [hk]; exact G0.out))
            clear e0 e1 e2 e3 e4 e5 e6 f0 f1 f2 f3 f4 f5 f6 hX hf
            refine hK.out _ _ HB.out (fun _ => ?_)
            clear hK K
            try simp only [Act.put, List.setIfInBounds_toArray, List.set_cons_zero, List.set_cons_succ]
            refine wpAnyH_ready (rs := [7]) (by kernel_rfl) (by simp) ?_
            refine AllReadyH.cons (o := op12_7) rfl (fun K hK => ?_) AllReadyH.nil
            unfold op12_7
            obtain ⟨⟨e0, e1, e2, e3, e4, e5, e6⟩, f0, f1, f2, f3, f4, f5, f6⟩ := boxF H1.out
            go_simp
            refine boxK (K := K _) H1.out ?_
            intro s1 hX hf
            have HX1 := Aside0.mk (show s1.heap[B1]? = some (.cells (rcL (fewR x1) b5 q5 b6 q6) 28 (0, 0)) from hX)
            replace R0 := Aside0.mk (R0.out.fr H1.out hf)
            replace R1 := Aside0.mk (R1.out.fr H1.out hf)
            replace HX0 := Aside0.mk (hf.blk HX0.out (fun e => HNE.out e))
            replace HB := Aside0.mk (below_step' HB.out (Below.refl _ _) hf (fun k hk => by rw [hk]; exact G1.out))
            clear e0 e1 e2 e3 e4 e5 e6 f0 f1 f2 f3 f4 f5 f6 hX hf
            refine hK.out _ _ HB.out (fun _ => ?_)
            clear hK K
            try simp only [Act.put, List.setIfInBounds_toArray, List.set_cons_zero, List.set_cons_succ]
            refine wpAnyH_done (by kernel_rfl) ?_ _
            refine NoPanic.normal ?_
            go_wp2_with fail
            go_meet
            exact ⟨B0, B1, a5, p5, a6, p6, b5, q5, b6, q6, rfl, rfl, HB, ⟨R0.out.at HX0.out⟩, ⟨R1.out.at HX1.out⟩⟩
          exact AllReadyH.nil
        exact AllReadyH.nil
      refine AllReadyH.cons (o := op12_4) rfl (fun K hK => ?_) ?_
      · unfold op12_4
        refine box_step (N := 7) (cs := zcL) (t := 28) (by rfl) rfl (by first | (go_simp; done) | (go_simp; rfl)) ?_
        intro B0 hB v1 hbox hb
        have G0 := Aside0.mk (show w3.heap.size ≤ B0 by rw [hB]; exact below_size HB.out)
        replace HB := Aside0.mk (below_step HB.out hb)
        replace R0 := Aside0.mk (R0.out.below hb)
        have H0 := Aside0.mk hbox
        clear hbox hb hB
        refine hK.out _ _ HB.out (fun _ => ?_)
        clear hK K
        try simp only [Act.put, List.setIfInBounds_toArray, List.set_cons_zero, List.set_cons_succ]
        refine wpAnyH_ready (rs := [3, 5]) (by kernel_rfl) (by simp) ?_
        refine AllReadyH.cons (o := op12_3) rfl (fun K hK => ?_) ?_
        · unfold op12_3
          go_simp
          go_at_call 15
          refine (HF1.out _ HB.out).mono ?_
          rintro e v2 ⟨b5, q5, b6, q6, rfl, hs, hb⟩
          replace HB := Aside0.mk (below_step HB.out hb)
          replace H0 := Aside0.mk (blk_below H0.out hb)
          replace R0 := Aside0.mk (R0.out.below hb)
          have R1 := Aside0.mk hs
          clear hs hb
          refine hK.out _ _ HB.out (fun _ => ?_)
          clear hK K
          try simp only [Act.put, List.setIfInBounds_toArray, List.set_cons_zero, List.set_cons_succ]
          refine wpAnyH_ready (rs := [5]) (by kernel_rfl) (by simp) ?_
          refine AllReadyH.cons (o := op12_5) rfl (fun K hK => ?_) ?_
          · unfold op12_5
            refine box_step (N := 8) (cs := zcL) (t := 28) (by rfl) rfl (by first | (go_simp; done) | (go_simp; rfl)) ?_
            intro B1 hB v3 hbox hb
            have G1 := Aside0.mk (show w3.heap.size ≤ B1 by rw [hB]; exact below_size HB.out)
            have HNE := Aside0.mk (show B0 ≠ B1 by rw [hB]; exact Nat.ne_of_lt (blk_lt H0.out))
            replace HB := Aside0.mk (below_step HB.out hb)
            replace H0 := Aside0.mk (blk_below H0.out hb)
            replace R0 := Aside0.mk (R0.out.below hb)
            replace R1 := Aside0.mk (R1.out.below hb)
            have H1 := Aside0.mk hbox
            clear hbox hb hB
            refine hK.out _ _ HB.out (fun _ => ?_)
            clear hK K
            try simp only [Act.put, List.setIfInBounds_toArray, List.set_cons_zero, List.set_cons_succ]
            refine wpAnyH_ready (rs := [6]) (by kernel_rfl) (by simp) ?_
            refine AllReadyH.cons (o := op12_6) rfl (fun K hK => ?_) AllReadyH.nil
            unfold op12_6
            obtain ⟨⟨e0, e1, e2, e3, e4, e5, e6⟩, f0, f1, f2, f3, f4, f5, f6⟩ := boxF H0.out
            go_simp
            refine boxK (K := K _) H0.out ?_
            intro s0 hX hf
            have HX0 := Aside0.mk (show s0.heap[B0]? = some (.cells (rcL (fewR x0) a5 p5 a6 p6) 28 (0, 0)) from hX)
            replace R0 := Aside0.mk (R0.out.fr H0.out hf)
            replace R1 := Aside0.mk (R1.out.fr H0.out hf)
            replace H1 := Aside0.mk (hf.blk H1.out (fun e => HNE.out e.symm))
            replace HB := Aside0.mk (below_step' HB.out (Below.refl _ _) hf (fun k hk => by rw [hk]; exact G0.out))
            clear e0 e1 e2 e3 e4 e5 e6 f0 f1 f2 f3 f4 f5 f6 hX hf
            refine hK.out _ _ HB.out (fun _ => ?_)
            clear hK K
            try simp only [Act.put, List.setIfInBounds_toArray, List.set_cons_zero, List.set_cons_succ]
            refine wpAnyH_ready (rs := [7]) (by kernel_rfl) (by simp) ?_
            refine AllReadyH.cons (o := op12_7) rfl (fun K hK => ?_) AllReadyH.nil
            unfold op12_7
            obtain ⟨⟨e0, e1, e2, e3, e4, e5, e6⟩, f0, f1, f2, f3, f4, f5, f6⟩ := boxF H1.out
            go_simp
            refine boxK (K := K _) H1.out ?_
            intro s1 hX hf
            have HX1 := Aside0.mk (show s1.heap[B1]? = some (.cells (rcL (fewR x1) b5 q5 b6 q6) 28 (0, 0)) from hX)
            replace R0 := Aside0.mk (R0.out.fr H1.out hf)
            replace R1 := Aside0.mk (R1.out.fr H1.out hf)
            replace HX0 := Aside0.mk (hf.blk HX0.out (fun e => HNE.out e))
            replace HB := Aside0.mk (below_step' HB.out (Below.refl _ _) hf (fun k hk => by rw [hk]; exact G1.out))
            clear e0 e1 e2 e3 e4 e5 e6 f0 f1 f2 f3 f4 f5 f6 hX hf
            refine hK.out _ _ HB.out (fun _ => ?_)
            clear hK K
            try simp only [Act.put, List.setIfInBounds_toArray, List.set_cons_zero, List.set_cons_succ]
            refine wpAnyH_done (by kernel_rfl) ?_ _
            refine NoPanic.normal ?_
            go_wp2_with fail
            go_meet
            exact ⟨B0, B1, a5, p5, a6, p6, b5, q5, b6, q6, rfl, rfl, HB, ⟨R0.out.at HX0.out⟩, ⟨R1.out.at HX1.out⟩⟩
          exact AllReadyH.nil
        refine AllReadyH.cons (o := op12_5) rfl (fun K hK => ?_) ?_
        · unfold op12_5
          refine box_step (N := 8) (cs := zcL) (t := 28) (by rfl) rfl (by first | (go_simp; done) | (go_simp; rfl)) ?_
          intro B1 hB v2 hbox hb
          have G1 := Aside0.mk (show w3.heap.size ≤ B1 by rw [hB]; exact below_size HB.out)
          have HNE := Aside0.mk (show B0 ≠ B1 by rw [hB]; exact Nat.ne_of_lt (blk_lt H0.out))
          replace HB := Aside0.mk (below_step HB.out hb)
          replace H0 := Aside0.mk (blk_below H0.out hb)
          replace R0 := Aside0.mk (R0.out.below hb)
          have H1 := Aside0.mk hbox
          clear hbox hb hB
          refine hK.out _ _ HB.out (fun _ => ?_)
          clear hK K
          try simp only [Act.put, List.setIfInBounds_toArray, List.set_cons_zero, List.set_cons_succ]
          refine wpAnyH_ready (rs := [3]) (by kernel_rfl) (by simp) ?_
          refine AllReadyH.cons (o := op12_3) rfl (fun K hK => ?_) ?_
          · unfold op12_3
            go_simp
            go_at_call 15
            refine (HF1.out _ HB.out).mono ?_
            rintro e v3 ⟨b5, q5, b6, q6, rfl, hs, hb⟩
            replace HB := Aside0.mk (below_step HB.out hb)
            replace H0 := Aside0.mk (blk_below H0.out hb)
            replace H1 := Aside0.mk (blk_below H1.out hb)
            replace R0 := Aside0.mk (R0.out.below hb)
            have R1 := Aside0.mk hs
            clear hs hb
            refine hK.out _ _ HB.out (fun _ => ?_)
            clear hK K
            try simp only [Act.put, List.setIfInBounds_toArray, List.set_cons_zero, List.set_cons_succ]
            refine wpAnyH_ready (rs := [6]) (by kernel_rfl) (by simp) ?_
            refine AllReadyH.cons (o := op12_6) rfl (fun K hK => ?_) AllReadyH.nil
            unfold op12_6
            obtain ⟨⟨e0, e1, e2, e3, e4, e5, e6⟩, f0, f1, f2, f3, f4, f5, f6⟩ := boxF H0.out
            go_simp
            refine boxK (K := K _) H0.out ?_
            intro s0 hX hf
            have HX0 := Aside0.mk (show s0.heap[B0]? = some (.cells (rcL (fewR x0) a5 p5 a6 p6) 28 (0, 0)) from hX)
            replace R0 := Aside0.mk (R0.out.fr H0.out hf)
            replace R1 := Aside0.mk (R1.out.fr H0.out hf)
            replace H1 := Aside0.mk (hf.blk H1.out (fun e => HNE.out e.symm))
            replace HB := Aside0.mk (below_step' HB.out (Below.refl _ _) hf (fun k hk => by rw [hk]; exact G0.out))
            clear e0 e1 e2 e3 e4 e5 e6 f0 f1 f2 f3 f4 f5 f6 hX hf
            refine hK.out _ _ HB.out (fun _ => ?_)
            clear hK K
            try simp only [Act.put, List.setIfInBounds_toArray, List.set_cons_zero, List.set_cons_succ]
            refine wpAnyH_ready (rs := [7]) (by kernel_rfl) (by simp) ?_
            refine AllReadyH.cons (o := op12_7) rfl (fun K hK => ?_) AllReadyH.nil
            unfold op12_7
            obtain ⟨⟨e0, e1, e2, e3, e4, e5, e6⟩, f0, f1, f2, f3, f4, f5, f6⟩ := boxF H1.out
            go_simp
            refine boxK (K := K _) H1.out ?_
            intro s1 hX hf
            have HX1 := Aside0.mk (show s1.heap[B1]? = some (.cells (rcL (fewR x1) b5 q5 b6 q6) 28 (0, 0)) from hX)
            replace R0 := Aside0.mk (R0.out.fr H1.out hf)
            replace R1 := Aside0.mk (R1.out.fr H1.out hf)
            replace HX0 := Aside0.mk (hf.blk HX0.out (fun e => HNE.out e))
            replace HB := Aside0.mk (below_step' HB.out (Below.refl _ _) hf (fun k hk => by rw [hk]; exact G1.out))
            clear e0 e1 e2 e3 e4 e5 e6 f0 f1 f2 f3 f4 f5 f6 hX hf
            refine hK.out _ _ HB.out (fun _ => ?_)
            clear hK K
            try simp only [Act.put, List.setIfInBounds_toArray, List.set_cons_zero, List.set_cons_succ]
            refine wpAnyH_done (by kernel_rfl) ?_ _
            refine NoPanic.normal ?_
            go_wp2_with fail
            go_meet
            exact ⟨B0, B1, a5, p5, a6, p6, b5, q5, b6, q6, rfl, rfl, HB, ⟨R0.out.at HX0.out⟩, ⟨R1.out.at HX1.out⟩⟩
          exact AllReadyH.nil
        exact AllReadyH.nil
      refine AllReadyH.cons (o := op12_5) rfl (fun K hK => ?_) ?_
      · unfold op12_5
        refine box_step (N := 8) (cs := zcL) (t := 28) (by rfl) rfl (by first | (go_simp; done) | (go_simp; rfl)) ?_
        intro B1 hB v1 hbox hb
        have G1 := Aside0.mk (show w3.heap.size ≤ B1 by rw [hB]; exact below_size HB.out)
        replace HB := Aside0.mk (below_step HB.out hb)
        replace R0 := Aside0.mk (R0.out.below hb)
        have H1 := Aside0.mk hbox
        clear hbox hb hB
        refine hK.out _ _ HB.out (fun _ => ?_)
        clear hK K
        try simp only [Act.put, List.setIfInBounds_toArray, List.set_cons_zero, List.set_cons_succ]
        refine wpAnyH_ready (rs := [3, 4]) (by kernel_rfl) (by simp) ?_
        refine AllReadyH.cons (o := op12_3) rfl (fun K hK => ?_) ?_
        · unfold op12_3
          go_simp
          go_at_call 15
          refine (HF1.out _ HB.out).mono ?_
          rintro e v2 ⟨b5, q5, b6, q6, rfl, hs, hb⟩
          replace HB := Aside0.mk (below_step HB.out hb)
          replace H1 := Aside0.mk (blk_below H1.out hb)
          replace R0 := Aside0.mk (R0.out.below hb)
          have R1 := Aside0.mk hs
          clear hs hb
          refine hK.out _ _ HB.out (fun _ => ?_)
          clear hK K
          try simp only [Act.put, List.setIfInBounds_toArray, List.set_cons_zero, List.set_cons_succ]
          refine wpAnyH_ready (rs := [4]) (by kernel_rfl) (by simp) ?_
          refine AllReadyH.cons (o := op12_4) rfl (fun K hK => ?_) ?_
          · unfold op12_4
            refine box_step (N := 7) (cs := zcL) (t := 28) (by rfl) rfl (by first | (go_simp; done) | (go_simp; rfl)) ?_
            intro B0 hB v3 hbox hb
            have G0 := Aside0.mk (show w3.heap.size ≤ B0 by rw [hB]; exact below_size HB.out)
            have HNE := Aside0.mk (show B0 ≠ B1 from fun e => Nat.ne_of_lt (blk_lt H1.out) (e.symm.trans hB))
            replace HB := Aside0.mk (below_step HB.out hb)
            replace H1 := Aside0.mk (blk_below H1.out hb)
            replace R0 := Aside0.mk (R0.out.below hb)
            replace R1 := Aside0.mk (R1.out.below hb)
            have H0 := Aside0.mk hbox
            clear hbox hb hB
            refine hK.out _ _ HB.out (fun _ => ?_)
            clear hK K
            try simp only [Act.put, List.setIfInBounds_toArray, List.set_cons_zero, List.set_cons_succ]
            refine wpAnyH_ready (rs := [6]) (by kernel_rfl) (by simp) ?_
            refine AllReadyH.cons (o := op12_6) rfl (fun K hK => ?_) AllReadyH.nil
            unfold op12_6
            obtain ⟨⟨e0, e1, e2, e3, e4, e5, e6⟩, f0, f1, f2, f3, f4, f5, f6⟩ := boxF H0.out
            go_simp
            refine boxK (K := K _) H0.out ?_
            intro s0 hX hf
            have HX0 := Aside0.mk (show s0.heap[B0]? = some (.cells (rcL (fewR x0) a5 p5 a6 p6) 28 (0, 0)) from hX)
            replace R0 := Aside0.mk (R0.out.fr H0.out hf)
            replace R1 := Aside0.mk (R1.out.fr H0.out hf)
            replace H1 := Aside0.mk (hf.blk H1.out (fun e => HNE.out e.symm))
            replace HB := Aside0.mk (below_step' HB.out (Below.refl _ _) hf (fun k hk => by rw [hk]; exact G0.out))
            clear e0 e1 e2 e3 e4 e5 e6 f0 f1 f2 f3 f4 f5 f6 hX hf
            refine hK.out _ _ HB.out (fun _ => ?_)
            clear hK K
            try simp only [Act.put, List.setIfInBounds_toArray, List.set_cons_zero, List.set_cons_succ]
            refine wpAnyH_ready (rs := [7]) (by kernel_rfl) (by simp) ?_
            refine AllReadyH.cons (o := op12_7) rfl (fun K hK => ?_) AllReadyH.nil
            unfold op12_7
            obtain ⟨⟨e0, e1, e2, e3, e4, e5, e6⟩, f0, f1, f2, f3, f4, f5, f6⟩ := boxF H1.out
            go_simp
            refine boxK (K := K _) H1.out ?_
            intro s1 hX hf
            have HX1 := Aside0.mk (show s1.heap[B1]? = some (.cells (rcL (fewR x1) b5 q5 b6 q6) 28 (0, 0)) from hX)
            replace R0 := Aside0.mk (R0.out.fr H1.out hf)
            replace R1 := Aside0.mk (R1.out.fr H1.out hf)
            replace HX0 := Aside0.mk (hf.blk HX0.out (fun e => HNE.out e))
            replace HB := Aside0.mk (below_step' HB.out (Below.refl _ _) hf (fun k hk => by rw [hk]; exact G1.out))
            clear e0 e1 e2 e3 e4 e5 e6 f0 f1 f2 f3 f4 f5 f6 hX hf
            refine hK.out _ _ HB.out (fun _ => ?_)
            clear hK K
            try simp only [Act.put, List.setIfInBounds_toArray, List.set_cons_zero, List.set_cons_succ]
            refine wpAnyH_done (by kernel_rfl) ?_ _
            refine NoPanic.normal ?_
            go_wp2_with fail
            go_meet
            exact ⟨B0, B1, a5, p5, a6, p6, b5, q5, b6, q6, rfl, rfl, HB, ⟨R0.out.at HX0.out⟩, ⟨R1.out.at HX1.out⟩⟩
          exact AllReadyH.nil
        refine AllReadyH.cons (o := op12_4) rfl (fun K hK => ?_) ?_
        · unfold op12_4
          refine box_step (N := 7) (cs := zcL) (t := 28) (by rfl) rfl (by first | (go_simp; done) | (go_simp; rfl)) ?_
          intro B0 hB v2 hbox hb
          have G0 := Aside0.mk (show w3.heap.size ≤ B0 by rw [hB]; exact below_size HB.out)
          have HNE := Aside0.mk (show B0 ≠ B1 from fun e => Nat.ne_of_lt (blk_lt H1.out) (e.symm.trans hB))
          replace HB := Aside0.mk (below_step HB.out hb)
          replace H1 := Aside0.mk (blk_below H1.out hb)
          replace R0 := Aside0.mk (R0.out.below hb)
          have H0 := Aside0.mk hbox
          clear hbox hb hB
          refine hK.out _ _ HB.out (fun _ => ?_)
          clear hK K
          try simp only [Act.put, List.setIfInBounds_toArray, List.set_cons_zero, List.set_cons_succ]
          refine wpAnyH_ready (rs := [3]) (by kernel_rfl) (by simp) ?_
          refine AllReadyH.cons (o := op12_3) rfl (fun K hK => ?_) ?_
          · unfold op12_3
            go_simp
            go_at_call 15
            refine (HF1.out _ HB.out).mono ?_
            rintro e v3 ⟨b5, q5, b6, q6, rfl, hs, hb⟩
            replace HB := Aside0.mk (below_step HB.out hb)
            replace H0 := Aside0.mk (blk_below H0.out hb)
            replace H1 := Aside0.mk (blk_below H1.out hb)
            replace R0 := Aside0.mk (R0.out.below hb)
            have R1 := Aside0.mk hs
            clear hs hb
            refine hK.out _ _ HB.out (fun _ => ?_)
            clear hK K
            try simp only [Act.put, List.setIfInBounds_toArray, List.set_cons_zero, List.set_cons_succ]
            refine wpAnyH_ready (rs := [6]) (by kernel_rfl) (by simp) ?_
            refine AllReadyH.cons (o := op12_6) rfl (fun K hK => ?_) AllReadyH.nil
            unfold op12_6
            obtain ⟨⟨e0, e1, e2, e3, e4, e5, e6⟩, f0, f1, f2, f3, f4, f5, f6⟩ := boxF H0.out
            go_simp
            refine boxK (K := K _) H0.out ?_
            intro s0 hX hf
            have HX0 := Aside0.mk (show s0.heap[B0]? = some (.cells (rcL (fewR x0) a5 p5 a6 p6) 28 (0, 0)) from hX)
            replace R0 := Aside0.mk (R0.out.fr H0.out hf)
            replace R1 := Aside0.mk (R1.out.fr H0.out hf)
            replace H1 := Aside0.mk (hf.blk H1.out (fun e => HNE.out e.symm))
            replace HB := Aside0.mk (below_step' HB.out (Below.refl _ _) hf (fun k hk => by rw [hk]; exact G0.out))
            clear e0 e1 e2 e3 e4 e5 e6 f0 f1 f2 f3 f4 f5 f6 hX hf
            refine hK.out _ _ HB.out (fun _ => ?_)
            clear hK K
            try simp only [Act.put, List.setIfInBounds_toArray, List.set_cons_zero, List.set_cons_succ]
            refine wpAnyH_ready (rs := [7]) (by kernel_rfl) (by simp) ?_
            refine AllReadyH.cons (o := op12_7) rfl (fun K hK => ?_) AllReadyH.nil
            unfold op12_7
            obtain ⟨⟨e0, e1, e2, e3, e4, e5, e6⟩, f0, f1, f2, f3, f4, f5, f6⟩ := boxF H1.out
            go_simp
            refine boxK (K := K _) H1.out ?_
            intro s1 hX hf
            have HX1 := Aside0.mk (show s1.heap[B1]? = some (.cells (rcL (fewR x1) b5 q5 b6 q6) 28 (0, 0)) from hX)
            replace R0 := Aside0.mk (R0.out.fr H1.out hf)
            replace R1 := Aside0.mk (R1.out.fr H1.out hf)
            replace HX0 := Aside0.mk (hf.blk HX0.out (fun e => HNE.out e))
            replace HB := Aside0.mk (below_step' HB.out (Below.refl _ _) hf (fun k hk => by rw [hk]; exact G1.out))
            clear e0 e1 e2 e3 e4 e5 e6 f0 f1 f2 f3 f4 f5 f6 hX hf
            refine hK.out _ _ HB.out (fun _ => ?_)
            clear hK K
            try simp only [Act.put, List.setIfInBounds_toArray, List.set_cons_zero, List.set_cons_succ]
            refine wpAnyH_done (by kernel_rfl) ?_ _
            refine NoPanic.normal ?_
            go_wp2_with fail
            go_meet
            exact ⟨B0, B1, a5, p5, a6, p6, b5, q5, b6, q6, rfl, rfl, HB, ⟨R0.out.at HX0.out⟩, ⟨R1.out.at HX1.out⟩⟩
          exact AllReadyH.nil
        exact AllReadyH.nil
      exact AllReadyH.nil
    refine AllReadyH.cons (o := op12_4) rfl (fun K hK => ?_) ?_
    · unfold op12_4
      refine box_step (N := 7) (cs := zcL) (t := 28) (by rfl) rfl (by first | (go_simp; done) | (go_simp; rfl)) ?_
      intro B0 hB v0 hbox hb
      have G0 := Aside0.mk (show w3.heap.size ≤ B0 by rw [hB]; exact below_size HB.out)
      replace HB := Aside0.mk (below_step HB.out hb)
      have H0 := Aside0.mk hbox
      clear hbox hb hB
      refine hK.out _ _ HB.out (fun _ => ?_)
      clear hK K
      try simp only [Act.put, List.setIfInBounds_toArray, List.set_cons_zero, List.set_cons_succ]
      refine wpAnyH_ready (rs := [1, 5]) (by kernel_rfl) (by simp) ?_
      refine AllReadyH.cons (o := op12_1) rfl (fun K hK => ?_) ?_
      · unfold op12_1
        go_simp
        go_at_call 15
        refine (HF0.out _ HB.out).mono ?_
        rintro e v1 ⟨a5, p5, a6, p6, rfl, hs, hb⟩
        replace HB := Aside0.mk (below_step HB.out hb)
        replace H0 := Aside0.mk (blk_below H0.out hb)
        have R0 := Aside0.mk hs
        clear hs hb
        refine hK.out _ _ HB.out (fun _ => ?_)
        clear hK K
        try simp only [Act.put, List.setIfInBounds_toArray, List.set_cons_zero, List.set_cons_succ]
        refine wpAnyH_ready (rs := [3, 5]) (by kernel_rfl) (by simp) ?_
        refine AllReadyH.cons (o := op12_3) rfl (fun K hK => ?_) ?_
        · unfold op12_3
          go_simp
          go_at_call 15
          refine (HF1.out _ HB.out).mono ?_
          rintro e v2 ⟨b5, q5, b6, q6, rfl, hs, hb⟩
          replace HB := Aside0.mk (below_step HB.out hb)
          replace H0 := Aside0.mk (blk_below H0.out hb)
          replace R0 := Aside0.mk (R0.out.below hb)
          have R1 := Aside0.mk hs
          clear hs hb
          refine hK.out _ _ HB.out (fun _ => ?_)
          clear hK K
          try simp only [Act.put, List.setIfInBounds_toArray, List.set_cons_zero, List.set_cons_succ]
          refine wpAnyH_ready (rs := [5]) (by kernel_rfl) (by simp) ?_
          refine AllReadyH.cons (o := op12_5) rfl (fun K hK => ?_) ?_
          · unfold op12_5
            refine box_step (N := 8) (cs := zcL) (t := 28) (by rfl) rfl (by first | (go_simp; done) | (go_simp; rfl)) ?_
            intro B1 hB v3 hbox hb
            have G1 := Aside0.mk (show w3.heap.size ≤ B1 by rw [hB]; exact below_size HB.out)
            have HNE := Aside0.mk (show B0 ≠ B1 by rw [hB]; exact Nat.ne_of_lt (blk_lt H0.out))
            replace HB := Aside0.mk (below_step HB.out hb)
            replace H0 := Aside0.mk (blk_below H0.out hb)
            replace R0 := Aside0.mk (R0.out.below hb)
            replace R1 := Aside0.mk (R1.out.below hb)
            have H1 := Aside0.mk hbox
            clear hbox hb hB
            refine hK.out _ _ HB.out (fun _ => ?_)
            clear hK K
            try simp only [Act.put, List.setIfInBounds_toArray, List.set_cons_zero, List.set_cons_succ]
            refine wpAnyH_ready (rs := [6]) (by kernel_rfl) (by simp) ?_
            refine AllReadyH.cons (o := op12_6) rfl (fun K hK => ?_) AllReadyH.nil
            unfold op12_6
            obtain ⟨⟨e0, e1, e2, e3, e4, e5, e6⟩, f0, f1, f2, f3, f4, f5, f6⟩ := boxF H0.out
            go_simp
            refine boxK (K := K _) H0.out ?_
            intro s0 hX hf
            have HX0 := Aside0.mk (show s0.heap[B0]? = some (.cells (rcL (fewR x0) a5 p5 a6 p6) 28 (0, 0)) from hX)
            replace R0 := Aside0.mk (R0.out.fr H0.out hf)
            replace R1 := Aside0.mk (R1.out.fr H0.out hf)
            replace H1 := Aside0.mk (hf.blk H1.out (fun e => HNE.out e.symm))
            replace HB := Aside0.mk (below_step' HB.out (Below.refl _ _) hf (fun k hk => by rw [hk]; exact G0.out))
            clear e0 e1 e2 e3 e4 e5 e6 f0 f1 f2 f3 f4 f5 f6 hX hf
            refine hK.out _ _ HB.out (fun _ => ?_)
            clear hK K
            try simp only [Act.put, List.setIfInBounds_toArray, List.set_cons_zero, List.set_cons_succ]
            refine wpAnyH_ready (rs := [7]) (by kernel_rfl) (by simp) ?_
            refine AllReadyH.cons (o := op12_7) rfl (fun K hK => ?_) AllReadyH.nil
            unfold op12_7
            obtain ⟨⟨e0, e1, e2, e3, e4, e5, e6⟩, f0, f1, f2, f3, f4, f5, f6⟩ := boxF H1.out
            go_simp
            refine boxK (K := K _) H1.out ?_
            intro s1 hX hf
            have HX1 := Aside0.mk (show s1.heap[B1]? = some (.cells (rcL (fewR x1) b5 q5 b6 q6) 28 (0, 0)) from hX)
            replace R0 := Aside0.mk (R0.out.fr H1.out hf)
            replace R1 := Aside0.mk (R1.out.fr H1.out hf)
            replace HX0 := Aside0.mk (hf.blk HX0.out (fun e => HNE.out e))
            replace HB := Aside0.mk (below_step' HB.out (Below.refl _ _) hf (fun k hk => by rw [hk]; exact G1.out))
            clear e0 e1 e2 e3 e4 e5 e6 f0 f1 f2 f3 f4 f5 f6 hX hf
            refine hK.out _ _ HB.out (fun _ => ?_)
            clear hK K
            try simp only [Act.put, List.setIfInBounds_toArray, List.set_cons_zero, List.set_cons_succ]
            refine wpAnyH_done (by kernel_rfl) ?_ _
            refine NoPanic.normal ?_
            go_wp2_with fail
            go_meet
            exact ⟨B0, B1, a5, p5, a6, p6, b5, q5, b6, q6, rfl, rfl, HB, ⟨R0.out.at HX0.out⟩, ⟨R1.out.at HX1.out⟩⟩
          exact AllReadyH.nil
        refine AllReadyH.cons (o := op12_5) rfl (fun K hK => ?_) ?_
        · unfold op12_5
          refine box_step (N := 8) (cs := zcL) (t := 28) (by rfl) rfl (by first | (go_simp; done) | (go_simp; rfl)) ?_
          intro B1 hB v2 hbox hb
          have G1 := Aside0.mk (show w3.heap.size ≤ B1 by rw [hB]; exact below_size HB.out)
          have HNE := Aside0.mk (show B0 ≠ B1 by rw [hB]; exact Nat.ne_of_lt (blk_lt H0.out))
          replace HB := Aside0.mk (below_step HB.out hb)
          replace H0 := Aside0.mk (blk_below H0.out hb)
          replace R0 := Aside0.mk (R0.out.below hb)
          have H1 := Aside0.mk hbox
          clear hbox hb hB
          refine hK.out _ _ HB.out (fun _ => ?_)
          clear hK K
          try simp only [Act.put, List.setIfInBounds_toArray, List.set_cons_zero, List.set_cons_succ]
          refine wpAnyH_ready (rs := [3]) (by kernel_rfl) (by simp) ?_
          refine AllReadyH.cons (o := op12_3) rfl (fun K hK => ?_) ?_
          · unfold op12_3
            go_simp
            go_at_call 15
            refine (HF1.out _ HB.out).mono ?_
            rintro e v3 ⟨b5, q5, b6, q6, rfl, hs, hb⟩
            replace HB := Aside0.mk (below_step HB.out hb)
            replace H0 := Aside0.mk (blk_below H0.out hb)
            replace H1 := Aside0.mk (blk_below H1.out hb)
            replace R0 := Aside0.mk (R0.out.below hb)
            have R1 := Aside0.mk hs
            clear hs hb
            refine hK.out _ _ HB.out (fun _ => ?_)
            clear hK K
            try simp only [Act.put, List.setIfInBounds_toArray, List.set_cons_zero, List.set_cons_succ]
            refine wpAnyH_ready (rs := [6]) (by kernel_rfl) (by simp) ?_
            refine AllReadyH.cons (o := op12_6) rfl (fun K hK => ?_) AllReadyH.nil
            unfold op12_6
            obtain ⟨⟨e0, e1, e2, e3, e4, e5, e6⟩, f0, f1, f2, f3, f4, f5, f6⟩ := boxF H0.out
            go_simp
            refine boxK (K := K _) H0.out ?_
            intro s0 hX hf
            have HX0 := Aside0.mk (show s0.heap[B0]? = some (.cells (rcL (fewR x0) a5 p5 a6 p6) 28 (0, 0)) from hX)
            replace R0 := Aside0.mk (R0.out.fr H0.out hf)
            replace R1 := Aside0.mk (R1.out.fr H0.out hf)
            replace H1 := Aside0.mk (hf.blk H1.out (fun e => HNE.out e.symm))
            replace HB := Aside0.mk (below_step' HB.out (Below.refl _ _) hf (fun k hk => by rw [hk]; exact G0.out))
            clear e0 e1 e2 e3 e4 e5 e6 f0 f1 f2 f3 f4 f5 f6 hX hf
            refine hK.out _ _ HB.out (fun _ => ?_)
            clear hK K
            try simp only [Act.put, List.setIfInBounds_toArray, List.set_cons_zero, List.set_cons_succ]
            refine wpAnyH_ready (rs := [7]) (by kernel_rfl) (by simp) ?_
            refine AllReadyH.cons (o := op12_7) rfl (fun K hK => ?_) AllReadyH.nil
            unfold op12_7
            obtain ⟨⟨e0, e1, e2, e3, e4, e5, e6⟩, f0, f1, f2, f3, f4, f5, f6⟩ := boxF H1.out
            go_simp
            refine boxK (K := K _) H1.out ?_
            intro s1 hX hf
            have HX1 := Aside0.mk (show s1.heap[B1]? = some (.cells (rcL (fewR x1) b5 q5 b6 q6) 28 (0, 0)) from hX)
            replace R0 := Aside0.mk (R0.out.fr H1.out hf)
            replace R1 := Aside0.mk (R1.out.fr H1.out hf)
            replace HX0 := Aside0.mk (hf.blk HX0.out (fun e => HNE.out e))
            replace HB := Aside0.mk (below_step' HB.out (Below.refl _ _) hf (fun k hk => by rw [hk]; exact G1.out))
            clear e0 e1 e2 e3 e4 e5 e6 f0 f1 f2 f3 f4 f5 f6 hX hf
            refine hK.out _ _ HB.out (fun _ => ?_)
            clear hK K
            try simp only [Act.put, List.setIfInBounds_toArray, List.set_cons_zero, List.set_cons_succ]
            refine wpAnyH_done (by kernel_rfl) ?_ _
            refine NoPanic.normal ?_
            go_wp2_with fail
            go_meet
            exact ⟨B0, B1, a5, p5, a6, p6, b5, q5, b6, q6, rfl, rfl, HB, ⟨R0.out.at HX0.out⟩, ⟨R1.out.at HX1.out⟩⟩
          exact AllReadyH.nil
        exact AllReadyH.nil
      refine AllReadyH.cons (o := op12_5) rfl (fun K hK => ?_) ?_
      · unfold op12_5
        refine box_step (N := 8) (cs := zcL) (t := 28) (by rfl) rfl (by first | (go_simp; done) | (go_simp; rfl)) ?_
        intro B1 hB v1 hbox hb
        have G1 := Aside0.mk (show w3.heap.size ≤ B1 by rw [hB]; exact below_size HB.out)
        have HNE := Aside0.mk (show B0 ≠ B1 by rw [hB]; exact Nat.ne_of_lt (blk_lt H0.out))
        replace HB := Aside0.mk (below_step HB.out hb)
        replace H0 := Aside0.mk (blk_below H0.out hb)
        have H1 := Aside0.mk hbox
        clear hbox hb hB
        refine hK.out _ _ HB.out (fun _ => ?_)
        clear hK K
        try simp only [Act.put, List.setIfInBounds_toArray, List.set_cons_zero, List.set_cons_succ]
        refine wpAnyH_ready (rs := [1]) (by kernel_rfl) (by simp) ?_
        refine AllReadyH.cons (o := op12_1) rfl (fun K hK => ?_) ?_
        · unfold op12_1
          go_simp
          go_at_call 15
          refine (HF0.out _ HB.out).mono ?_
          rintro e v2 ⟨a5, p5, a6, p6, rfl, hs, hb⟩
          replace HB := Aside0.mk (below_step HB.out hb)
          replace H0 := Aside0.mk (blk_below H0.out hb)
          replace H1 := Aside0.mk (blk_below H1.out hb)
          have R0 := Aside0.mk hs
          clear hs hb
          refine hK.out _ _ HB.out (fun _ => ?_)
          clear hK K
          try simp only [Act.put, List.setIfInBounds_toArray, List.set_cons_zero, List.set_cons_succ]
          refine wpAnyH_ready (rs := [3]) (by kernel_rfl) (by simp) ?_
          refine AllReadyH.cons (o := op12_3) rfl (fun K hK => ?_) ?_
          · unfold op12_3
            go_simp
            go_at_call 15
            refine (HF1.out _ HB.out).mono ?_
            rintro e v3 ⟨b5, q5, b6, q6, rfl, hs, hb⟩
            replace HB := Aside0.mk (below_step HB.out hb)
            replace H0 := Aside0.mk (blk_below H0.out hb)
            replace H1 := Aside0.mk (blk_below H1.out hb)
            replace R0 := Aside0.mk (R0.out.below hb)
            have R1 := Aside0.mk hs
            clear hs hb
            refine hK.out _ _ HB.out (fun _ => ?_)
            clear hK K
            try simp only [Act.put, List.setIfInBounds_toArray, List.set_cons_zero, List.set_cons_succ]
            refine wpAnyH_ready (rs := [6]) (by kernel_rfl) (by simp) ?_
            refine AllReadyH.cons (o := op12_6) rfl (fun K hK => ?_) AllReadyH.nil
            unfold op12_6
            obtain ⟨⟨e0, e1, e2, e3, e4, e5, e6⟩, f0, f1, f2, f3, f4, f5, f6⟩ := boxF H0.out
            go_simp
            refine boxK (K := K _) H0.out ?_
            intro s0 hX hf
            have HX0 := Aside0.mk (show s0.heap[B0]? = some (.cells (rcL (fewR x0) a5 p5 a6 p6) 28 (0, 0)) from hX)
            replace R0 := Aside0.mk (R0.out.fr H0.out hf)
            replace R1 := Aside0.mk (R1.out.fr H0.out hf)
            replace H1 := Aside0.mk (hf.blk H1.out (fun e => HNE.out e.symm))
            replace HB := Aside0.mk (below_step' HB.out (Below.refl _ _) hf (fun k hk => by rw [hk]; exact G0.out))
            clear e0 e1 e2 e3 e4 e5 e6 f0 f1 f2 f3 f4 f5 f6 hX hf
            refine hK.out _ _ HB.out (fun _ => ?_)
            clear hK K
            try simp only [Act.put, List.setIfInBounds_toArray, List.set_cons_zero, List.set_cons_succ]
            refine wpAnyH_ready (rs := [7]) (by kernel_rfl) (by simp) ?_
            refine AllReadyH.cons (o := op12_7) rfl (fun K hK => ?_) AllReadyH.nil
            unfold op12_7
            obtain ⟨⟨e0, e1, e2, e3, e4, e5, e6⟩, f0, f1, f2, f3, f4, f5, f6⟩ := boxF H1.out
            go_simp
            refine boxK (K := K _) H1.out ?_
            intro s1 hX hf
            have HX1 := Aside0.mk (show s1.heap[B1]? = some (.cells (rcL (fewR x1) b5 q5 b6 q6) 28 (0, 0)) from hX)
            replace R0 := Aside0.mk (R0.out.fr H1.out hf)
            replace R1 := Aside0.mk (R1.out.fr H1.out hf)
            replace HX0 := Aside0.mk (hf.blk HX0.out (fun e => HNE.out e))
            replace HB := Aside0.mk (below_step' HB.out (Below.refl _ _) hf (fun k hk => by rw [hk]; exact G1.out))
            clear e0 e1 e2 e3 e4 e5 e6 f0 f1 f2 f3 f4 f5 f6 hX hf
            refine hK.out _ _ HB.out (fun _ => ?_)
            clear hK K
            try simp only [Act.put, List.setIfInBounds_toArray, List.set_cons_zero, List.set_cons_succ]
            refine wpAnyH_done (by kernel_rfl) ?_ _
            refine NoPanic.normal ?_
            go_wp2_with fail
            go_meet
            exact ⟨B0, B1, a5, p5, a6, p6, b5, q5, b6, q6, rfl, rfl, HB, ⟨R0.out.at HX0.out⟩, ⟨R1.out.at HX1.out⟩⟩
          exact AllReadyH.nil
        exact AllReadyH.nil
      exact AllReadyH.nil
    refine AllReadyH.cons (o := op12_5) rfl (fun K hK => ?_) ?_
    · unfold op12_5
      refine box_step (N := 8) (cs := zcL) (t := 28) (by rfl) rfl (by first | (go_simp; done) | (go_simp; rfl)) ?_
      intro B1 hB v0 hbox hb
      have G1 := Aside0.mk (show w3.heap.size ≤ B1 by rw [hB]; exact below_size HB.out)
      replace HB := Aside0.mk (below_step HB.out hb)
      have H1 := Aside0.mk hbox
      clear hbox hb hB
      refine hK.out _ _ HB.out (fun _ => ?_)
      clear hK K
      try simp only [Act.put, List.setIfInBounds_toArray, List.set_cons_zero, List.set_cons_succ]
      refine wpAnyH_ready (rs := [1, 4]) (by kernel_rfl) (by simp) ?_
      refine AllReadyH.cons (o := op12_1) rfl (fun K hK => ?_) ?_
      · unfold op12_1
        go_simp
        go_at_call 15
        refine (HF0.out _ HB.out).mono ?_
        rintro e v1 ⟨a5, p5, a6, p6, rfl, hs, hb⟩
        replace HB := Aside0.mk (below_step HB.out hb)
        replace H1 := Aside0.mk (blk_below H1.out hb)
        have R0 := Aside0.mk hs
        clear hs hb
        refine hK.out _ _ HB.out (fun _ => ?_)
        clear hK K
        try simp only [Act.put, List.setIfInBounds_toArray, List.set_cons_zero, List.set_cons_succ]
        refine wpAnyH_ready (rs := [3, 4]) (by kernel_rfl) (by simp) ?_
        refine AllReadyH.cons (o := op12_3) rfl (fun K hK => ?_) ?_
        · unfold op12_3
          go_simp
          go_at_call 15
          refine (HF1.out _ HB.out).mono ?_
          rintro e v2 ⟨b5, q5, b6, q6, rfl, hs, hb⟩
          replace HB := Aside0.mk (below_step HB.out hb)
          replace H1 := Aside0.mk (blk_below H1.out hb)
          replace R0 := Aside0.mk (R0.out.below hb)
          have R1 := Aside0.mk hs
          clear hs hb
          refine hK.out _ _ HB.out (fun _ => ?_)
          clear hK K
          try simp only [Act.put, List.setIfInBounds_toArray, List.set_cons_zero, List.set_cons_succ]
          refine wpAnyH_ready (rs := [4]) (by kernel_rfl) (by simp) ?_
          refine AllReadyH.cons (o := op12_4) rfl (fun K hK => ?_) ?_
          · unfold op12_4
            refine box_step (N := 7) (cs := zcL) (t := 28) (by rfl) rfl (by first | (go_simp; done) | (go_simp; rfl)) ?_
            intro B0 hB v3 hbox hb
            have G0 := Aside0.mk (show w3.heap.size ≤ B0 by rw [hB]; exact below_size HB.out)
            have HNE := Aside0.mk (show B0 ≠ B1 from fun e => Nat.ne_of_lt (blk_lt H1.out) (e.symm.trans hB))
            replace HB := Aside0.mk (below_step HB.out hb)
            replace H1 := Aside0.mk (blk_below H1.out hb)
            replace R0 := Aside0.mk (R0.out.below hb)
            replace R1 := Aside0.mk (R1.out.below hb)
            have H0 := Aside0.mk hbox
            clear hbox hb hB
            refine hK.out _ _ HB.out (fun _ => ?_)
            clear hK K
            try simp only [Act.put, List.setIfInBounds_toArray, List.set_cons_zero, List.set_cons_succ]
            refine wpAnyH_ready (rs := [6]) (by kernel_rfl) (by simp) ?_
            refine AllReadyH.cons (o := op12_6) rfl (fun K hK => ?_) AllReadyH.nil
            unfold op12_6
            obtain ⟨⟨e0, e1, e2, e3, e4, e5, e6⟩, f0, f1, f2, f3, f4, f5, f6⟩ := boxF H0.out
            go_simp
            refine boxK (K := K _) H0.out ?_
            intro s0 hX hf
            have HX0 := Aside0.mk (show s0.heap[B0]? = some (.cells (rcL (fewR x0) a5 p5 a6 p6) 28 (0, 0)) from hX)
            replace R0 := Aside0.mk (R0.out.fr H0.out hf)
            replace R1 := Aside0.mk (R1.out.fr H0.out hf)
            replace H1 := Aside0.mk (hf.blk H1.out (fun e => HNE.out e.symm))
            replace HB := Aside0.mk (below_step' HB.out (Below.refl _ _) hf (fun k hk => by rw [hk]; exact G0.out))
            clear e0 e1 e2 e3 e4 e5 e6 f0 f1 f2 f3 f4 f5 f6 hX hf
            refine hK.out _ _ HB.out (fun _ => ?_)
            clear hK K
            try simp only [Act.put, List.setIfInBounds_toArray, List.set_cons_zero, List.set_cons_succ]
            refine wpAnyH_ready (rs := [7]) (by kernel_rfl) (by simp) ?_
            refine AllReadyH.cons (o := op12_7) rfl (fun K hK => ?_) AllReadyH.nil
            unfold op12_7
            obtain ⟨⟨e0, e1, e2, e3, e4, e5, e6⟩, f0, f1, f2, f3, f4, f5, f6⟩ := boxF H1.out
            go_simp
            refine boxK (K := K _) H1.out ?_
            intro s1 hX hf
            have HX1 := Aside0.mk (show s1.heap[B1]? = some (.cells (rcL (fewR x1) b5 q5 b6 q6) 28 (0, 0)) from hX)
            replace R0 := Aside0.mk (R0.out.fr H1.out hf)
            replace R1 := Aside0.mk (R1.out.fr H1.out hf)
            replace HX0 := Aside0.mk (hf.blk HX0.out (fun e => HNE.out e))
            replace HB := Aside0.mk (below_step' HB.out (Below.refl _ _) hf (fun k hk => by rw [hk]; exact G1.out))
            clear e0 e1 e2 e3 e4 e5 e6 f0 f1 f2 f3 f4 f5 f6 hX hf
            refine hK.out _ _ HB.out (fun _ => ?_)
            clear hK K
            try simp only [Act.put, List.setIfInBounds_toArray, List.set_cons_zero, List.set_cons_succ]
            refine wpAnyH_done (by kernel_rfl) ?_ _
            refine NoPanic.normal ?_
            go_wp2_with fail
            go_meet
            exact ⟨B0, B1, a5, p5, a6, p6, b5, q5, b6, q6, rfl, rfl, HB, ⟨R0.out.at HX0.out⟩, ⟨R1.out.at HX1.out⟩⟩
          exact AllReadyH.nil
        refine AllReadyH.cons (o := op12_4) rfl (fun K hK => ?_) ?_
        · unfold op12_4
          refine box_step (N := 7) (cs := zcL) (t := 28) (by rfl) rfl (by first | (go_simp; done) | (go_simp; rfl)) ?_
          intro B0 hB v2 hbox hb
          have G0 := Aside0.mk (show w3.heap.size ≤ B0 by rw [hB]; exact below_size HB.out)
          have HNE := Aside0.mk (show B0 ≠ B1 from fun e => Nat.ne_of_lt (blk_lt H1.out) (e.symm.trans hB))
          replace HB := Aside0.mk (below_step HB.out hb)
          replace H1 := Aside0.mk (blk_below H1.out hb)
          replace R0 := Aside0.mk (R0.out.below hb)
          have H0 := Aside0.mk hbox
          clear hbox hb hB
          refine hK.out _ _ HB.out (fun _ => ?_)
          clear hK K
          try simp only [Act.put, List.setIfInBounds_toArray, List.set_cons_zero, List.set_cons_succ]
          refine wpAnyH_ready (rs := [3]) (by kernel_rfl) (by simp) ?_
          refine AllReadyH.cons (o := op12_3) rfl (fun K hK => ?_) ?_
          · unfold op12_3
            go_simp
            go_at_call 15
            refine (HF1.out _ HB.out).mono ?_
            rintro e v3 ⟨b5, q5, b6, q6, rfl, hs, hb⟩
            replace HB := Aside0.mk (below_step HB.out hb)
            replace H0 := Aside0.mk (blk_below H0.out hb)
            replace H1 := Aside0.mk (blk_below H1.out hb)
            replace R0 := Aside0.mk (R0.out.below hb)
            have R1 := Aside0.mk hs
            clear hs hb
            refine hK.out _ _ HB.out (fun _ => ?_)
            clear hK K
            try simp only [Act.put, List.setIfInBounds_toArray, List.set_cons_zero, List.set_cons_succ]
            refine wpAnyH_ready (rs := [6]) (by kernel_rfl) (by simp) ?_
            refine AllReadyH.cons (o := op12_6) rfl (fun K hK => ?_) AllReadyH.nil
            unfold op12_6
            obtain ⟨⟨e0, e1, e2, e3, e4, e5, e6⟩, f0, f1, f2, f3, f4, f5, f6⟩ := boxF H0.out
            go_simp
            refine boxK (K := K _) H0.out ?_
            intro s0 hX hf
            have HX0 := Aside0.mk (show s0.heap[B0]? = some (.cells (rcL (fewR x0) a5 p5 a6 p6) 28 (0, 0)) from hX)
            replace R0 := Aside0.mk (R0.out.fr H0.out hf)
            replace R1 := Aside0.mk (R1.out.fr H0.out hf)
            replace H1 := Aside0.mk (hf.blk H1.out (fun e => HNE.out e.symm))
            replace HB := Aside0.mk (below_step' HB.out (Below.refl _ _) hf (fun k hk => by rw [hk]; exact G0.out))
            clear e0 e1 e2 e3 e4 e5 e6 f0 f1 f2 f3 f4 f5 f6 hX hf
            refine hK.out _ _ HB.out (fun _ => ?_)
            clear hK K
            try simp only [Act.put, List.setIfInBounds_toArray, List.set_cons_zero, List.set_cons_succ]
            refine wpAnyH_ready (rs := [7]) (by kernel_rfl) (by simp) ?_
            refine AllReadyH.cons (o := op12_7) rfl (fun K hK => ?_) AllReadyH.nil
            unfold op12_7
            obtain ⟨⟨e0, e1, e2, e3, e4, e5, e6⟩, f0, f1, f2, f3, f4, f5, f6⟩ := boxF H1.out
            go_simp
            refine boxK (K := K _) H1.out ?_
            intro s1 hX hf
            have HX1 := Aside0.mk (show s1.heap[B1]? = some (.cells (rcL (fewR x1) b5 q5 b6 q6) 28 (0, 0)) from hX)
            replace R0 := Aside0.mk (R0.out.fr H1.out hf)
            replace R1 := Aside0.mk (R1.out.fr H1.out hf)
            replace HX0 := Aside0.mk (hf.blk HX0.out (fun e => HNE.out e))
            replace HB := Aside0.mk (below_step' HB.out (Below.refl _ _) hf (fun k hk => by rw [hk]; exact G1.out))
            clear e0 e1 e2 e3 e4 e5 e6 f0 f1 f2 f3 f4 f5 f6 hX hf
            refine hK.out _ _ HB.out (fun _ => ?_)
            clear hK K
            try simp only [Act.put, List.setIfInBounds_toArray, List.set_cons_zero, List.set_cons_succ]
            refine wpAnyH_done (by kernel_rfl) ?_ _
            refine NoPanic.normal ?_
            go_wp2_with fail
            go_meet
            exact ⟨B0, B1, a5, p5, a6, p6, b5, q5, b6, q6, rfl, rfl, HB, ⟨R0.out.at HX0.out⟩, ⟨R1.out.at HX1.out⟩⟩
          exact AllReadyH.nil
        exact AllReadyH.nil
      refine AllReadyH.cons (o := op12_4) rfl (fun K hK => ?_) ?_
      · unfold op12_4
        refine box_step (N := 7) (cs := zcL) (t := 28) (by rfl) rfl (by first | (go_simp; done) | (go_simp; rfl)) ?_
        intro B0 hB v1 hbox hb
        have G0 := Aside0.mk (show w3.heap.size ≤ B0 by rw [hB]; exact below_size HB.out)
        have HNE := Aside0.mk (show B0 ≠ B1 from fun e => Nat.ne_of_lt (blk_lt H1.out) (e.symm.trans hB))
        replace HB := Aside0.mk (below_step HB.out hb)
        replace H1 := Aside0.mk (blk_below H1.out hb)
        have H0 := Aside0.mk hbox
        clear hbox hb hB
        refine hK.out _ _ HB.out (fun _ => ?_)
        clear hK K
        try simp only [Act.put, List.setIfInBounds_toArray, List.set_cons_zero, List.set_cons_succ]
        refine wpAnyH_ready (rs := [1]) (by kernel_rfl) (by simp) ?_
        refine AllReadyH.cons (o := op12_1) rfl (fun K hK => ?_) ?_
        · unfold op12_1
          go_simp
          go_at_call 15
          refine (HF0.out _ HB.out).mono ?_
          rintro e v2 ⟨a5, p5, a6, p6, rfl, hs, hb⟩
          replace HB := Aside0.mk (below_step HB.out hb)
          replace H0 := Aside0.mk (blk_below H0.out hb)
          replace H1 := Aside0.mk (blk_below H1.out hb)
          have R0 := Aside0.mk hs
          clear hs hb
          refine hK.out _ _ HB.out (fun _ => ?_)
          clear hK K
          try simp only [Act.put, List.setIfInBounds_toArray, List.set_cons_zero, List.set_cons_succ]
          refine wpAnyH_ready (rs := [3]) (by kernel_rfl) (by simp) ?_
          refine AllReadyH.cons (o := op12_3) rfl (fun K hK => ?_) ?_
          · unfold op12_3
            go_simp
            go_at_call 15
            refine (HF1.out _ HB.out).mono ?_
            rintro e v3 ⟨b5, q5, b6, q6, rfl, hs, hb⟩
            replace HB := Aside0.mk (below_step HB.out hb)
            replace H0 := Aside0.mk (blk_below H0.out hb)
            replace H1 := Aside0.mk (blk_below H1.out hb)
            replace R0 := Aside0.mk (R0.out.below hb)
            have R1 := Aside0.mk hs
            clear hs hb
            refine hK.out _ _ HB.out (fun _ => ?_)
            clear hK K
            try simp only [Act.put, List.setIfInBounds_toArray, List.set_cons_zero, List.set_cons_succ]
            refine wpAnyH_ready (rs := [6]) (by kernel_rfl) (by simp) ?_
            refine AllReadyH.cons (o := op12_6) rfl (fun K hK => ?_) AllReadyH.nil
            unfold op12_6
            obtain ⟨⟨e0, e1, e2, e3, e4, e5, e6⟩, f0, f1, f2, f3, f4, f5, f6⟩ := boxF H0.out
            go_simp
            refine boxK (K := K _) H0.out ?_
            intro s0 hX hf
            have HX0 := Aside0.mk (show s0.heap[B0]? = some (.cells (rcL (fewR x0) a5 p5 a6 p6) 28 (0, 0)) from hX)
            replace R0 := Aside0.mk (R0.out.fr H0.out hf)
            replace R1 := Aside0.mk (R1.out.fr H0.out hf)
            replace H1 := Aside0.mk (hf.blk H1.out (fun e => HNE.out e.symm))
            replace HB := Aside0.mk (below_step' HB.out (Below.refl _ _) hf (fun k hk => by rw [hk]; exact G0.out))
            clear e0 e1 e2 e3 e4 e5 e6 f0 f1 f2 f3 f4 f5 f6 hX hf
            refine hK.out _ _ HB.out (fun _ => ?_)
            clear hK K
            try simp only [Act.put, List.setIfInBounds_toArray, List.set_cons_zero, List.set_cons_succ]
            refine wpAnyH_ready (rs := [7]) (by kernel_rfl) (by simp) ?_
            refine AllReadyH.cons (o := op12_7) rfl (fun K hK => ?_) AllReadyH.nil
            unfold op12_7
            obtain ⟨⟨e0, e1, e2, e3, e4, e5, e6⟩, f0, f1, f2, f3, f4, f5, f6⟩ := boxF H1.out
            go_simp
            refine boxK (K := K _) H1.out ?_
            intro s1 hX hf
            have HX1 := Aside0.mk (show s1.heap[B1]? = some (.cells (rcL (fewR x1) b5 q5 b6 q6) 28 (0, 0)) from hX)
            replace R0 := Aside0.mk (R0.out.fr H1.out hf)
            replace R1 := Aside0.mk (R1.out.fr H1.out hf)
            replace HX0 := Aside0.mk (hf.blk HX0.out (fun e => HNE.out e))
            replace HB := Aside0.mk (below_step' HB.out (Below.refl _ _) hf (fun k hk => by rw [hk]; exact G1.out))
            clear e0 e1 e2 e3 e4 e5 e6 f0 f1 f2 f3 f4 f5 f6 hX hf
            refine hK.out _ _ HB.out (fun _ => ?_)
            clear hK K
            try simp only [Act.put, List.setIfInBounds_toArray, List.set_cons_zero, List.set_cons_succ]
            refine wpAnyH_done (by kernel_rfl) ?_ _
            refine NoPanic.normal ?_
            go_wp2_with fail
            go_meet
            exact ⟨B0, B1, a5, p5, a6, p6, b5, q5, b6, q6, rfl, rfl, HB, ⟨R0.out.at HX0.out⟩, ⟨R1.out.at HX1.out⟩⟩
          exact AllReadyH.nil
        exact AllReadyH.nil
      exact AllReadyH.nil
    exact AllReadyH.nil
  case rest =>
    obtain ⟨B7, B8, a5, p5, a6, p6, b5, q5, b6, q6, rfl, rfl, HBc, HR7, HR8⟩ := hcut
    clear xc0 xc1 xc2 xc3 xc4 xc5 xc6 yc0 yc1 yc2 yc3 yc4 yc5 yc6 HF0 HF1 HX HY HW HWK
    have HBW := Aside0.mk (below_step (below_step HB2.out HB3.out) HBc.out)
    have HRAW := Aside0.mk (Kd.C_below HC.out HBW.out)
    have HDEC := Aside0.mk (decU A2 c2 raw wc HRAW.out HLR.out (by omega) HBY.out)
    clear HB2 HB3 HBc
    go_upto_region 6 with (go_at_call 46; refine HDEC.out.mono ?_; rintro e w5 ⟨z, z5, r5, z6, r6, nz, rfl, hf5, hf6, hn, hz, hb⟩; have HF5 := Aside0.mk hf5; have HF6 := Aside0.mk hf6; have HN := Aside0.mk hn; have HZ := Aside0.mk hz; have HB5 := Aside0.mk hb; clear hf5 hf6 hn hz hb)
    obtain ⟨wb, hwb⟩ : ∃ wb, wb = w5.alloc (.cells (rcL z z5 r5 z6 r6) 28) := ⟨_, rfl⟩
    rw [← hwb]
    have hAT := RcAt.ofF HF5.out HF6.out
    rw [← hwb] at hAT
    have h5b : Below w5.heap.size w5 wb := by rw [hwb]; exact below_alloc (Below.refl _ _) _
    have hcb := below_step HB5.out h5b
    have HAT := Aside0.mk hAT
    have HR7b := Aside0.mk (HR7.out.below hcb)
    have HR8b := Aside0.mk (HR8.out.below hcb)
    have HBb := Aside0.mk (below_step HBW.out hcb)
    have HRb := Aside0.mk (Kd.C_below HRAW.out hcb)
    clear hAT h5b hcb hwb HR7 HR8 HDEC HF5 HF6 HB5
    go_upto_if 39 with (fail)
    go_cut [] (fun wd => Aside0 (Below wb.heap.size wb wd))
    case first =>
      cases hd : decOk raw with
      | false =>
        rw [hd, if_neg (by decide)] at HN
        have hn := HN.out
        subst hn
        clear hd HN
        go_wp2_with fail
        go_meet
        exact ⟨Below.refl _ _⟩
      | true =>
        obtain ⟨r1, r2, r3⟩ := rec_from HBY.out hd
        rw [hd, if_pos rfl] at HN HZ
        have hn := HN.out
        subst hn
        rw [← HZ.out] at r1 r2 r3
        obtain ⟨k0, k1, k2, k3, k4, k5, k6⟩ := rcF HAT.out.1
        have HENC := Aside0.mk (encU z z5 r5 z6 r6 wb HAT.out.2.1.1 HAT.out.2.1.2 HAT.out.2.2.1)
        rw [r1, if_pos rfl, if_pos rfl, r3] at HENC
        have HCHK := Aside0.mk (fun (W' : World) (h : Below wb.heap.size wb W') => recCheck z.f0 z.f1 z.f2 z.f3 z.f4 z.f5 z.f6 z5 r5 z6 r6 W' (Kd.C_below HAT.out.2.1.1 h) HAT.out.2.1.2 (Kd.C_below HAT.out.2.2.1 h))
        rw [show recOk ⟨z.f0, z.f1, z.f2, z.f3, z.f4, z.f5, z.f6⟩ = true from r1] at HCHK
        clear hd HN HZ r1 r2 r3
        go_wp2_with (first
          | (go_at_call 51; refine HENC.out.mono ?_; rintro e w6 ⟨v, n6, l6, rfl, ho, hn6, hl6, hb⟩; subst hn6; rw [hl6] at ho; obtain ⟨A7, c7, rfl, hc7, hC7⟩ := Kd.R_reads ho; have HB6 := Aside0.mk hb; have HEQ := Aside0.mk (P.bytes_Equal.calls A7 c7 raw A2 c2 raw true w6 hC7 hc7 (Kd.C_below HRb.out hb) HLR.out (by rw [equal_is raw raw HBY.out HBY.out, decide_eq_true rfl])); obtain ⟨m0, m1, m2, m3, m4, m5, m6⟩ := rcF (blk_below HAT.out.1 hb); clear ho hb hC7 hl6)
          | (go_at_call 17; refine HEQ.out.mono ?_; rintro e w7 ⟨rfl, hd⟩; have hb7 := below_step HB6.out hd.below; have HB7 := Aside0.mk hb7; clear m0 m1 m2 m3 m4 m5 m6; obtain ⟨m0, m1, m2, m3, m4, m5, m6⟩ := rcF (blk_below HAT.out.1 hb7); clear hd hb7)
          | (go_at_call 50; refine (HCHK.out _ HB7.out).mono ?_; rintro e w8 ⟨rfl, hd⟩; have HB8 := Aside0.mk (below_step HB7.out hd); clear hd))
        go_meet
        exact HB8
    case rest =>
      obtain ⟨wd, rfl⟩ : ∃ wd, wd = wc := ⟨_, rfl⟩
      have HBd := Aside0.mk (below_step HBb.out hcut.out)
      have HR7 := Aside0.mk (HR7b.out.below hcut.out)
      have HR8 := Aside0.mk (HR8b.out.below hcut.out)
      clear hcut HR7b HR8b HBb HAT HRb HRAW HBW HN HZ HC HLR HBY hmin
      generalize fewR x0 = X at *
      generalize fewR x1 = Y at *
      obtain ⟨k0, k1, k2, k3, k4, k5, k6⟩ := rcF HR7.out.1
      have HENC := Aside0.mk (encU X a5 p5 a6 p6 wd HR7.out.2.1.1 HR7.out.2.1.2 HR7.out.2.2.1)
      cases hX : recOk X with
      | false =>
        rw [hX, if_neg (by decide), if_neg (by decide)] at HENC
        clear hX
        go_wp2_with (go_at_call 51; refine HENC.out.mono ?_; rintro e w6 ⟨v, n6, l6, rfl, ho, hn6, hl6, hb⟩; subst hn6 hl6; obtain ⟨A7, c7, rfl⟩ := Kd.R_slice ho; have HB6 := Aside0.mk (below_step HBd.out hb); clear ho hb)
        go_returns
        exact ⟨rfl, HB6.out⟩
      | true =>
        rw [hX, if_pos rfl, if_pos rfl] at HENC
        have HXO := Aside0.mk hX
        have hle := recBs_le hX
        have hps := recBs_pos X
        have HBK := Aside0.mk (rec_back hX HV0.out)
        clear hX
        go_upto_region 13 with (go_at_call 51; refine HENC.out.mono ?_; rintro e w6 ⟨v, n6, l6, rfl, ho, hn6, hl6, hb⟩; subst hn6; rw [hl6] at ho; obtain ⟨A7, c7, rfl, hc7, hC7⟩ := Kd.R_reads ho; have HB6 := Aside0.mk (below_step HBd.out hb); have HR76 := Aside0.mk (HR7.out.below hb); have HR86 := Aside0.mk (HR8.out.below hb); have HC7 := Aside0.mk hC7; have HCC := Aside0.mk hc7; clear ho hb hC7 hl6 hc7)
        clear k0 k1 k2 k3 k4 k5 k6 HR7 HR8 HENC
        obtain ⟨b, hb⟩ : ∃ b, b = recBs X := ⟨_, rfl⟩
        have HBYT := Aside0.mk (show ∀ x ∈ b, isB x by rw [hb]; exact recBs_byte X)
        have HBY0 := Aside0.mk (show ∀ x ∈ b ++ [0], isB x from fun x hx => by
          rw [List.mem_append, List.mem_singleton] at hx
          rcases hx with hx | rfl
          · exact HBYT.out x hx
          · unfold isB; omega)
        have HLESS := Aside0.mk (show decOk (b.take (b.length - 1)) = false by rw [hb]; exact rec_less HXO.out HV0.out _ (by omega))
        have HMORE := Aside0.mk (show decOk (b ++ [0]) = false by rw [hb]; exact rec_more HXO.out HV0.out 0 [])
        have HINJ := Aside0.mk (show recOk Y = true → decide (b = recBs Y) = sameR X Y from fun hy => by
          rw [hb]
          cases hs : sameR X Y with
          | true => rw [(sameR_iff X Y).1 hs]; exact decide_eq_true rfl
          | false => exact decide_eq_false (fun e => by rw [(sameR_iff X Y).2 (rec_inj HXO.out hy HV0.out HV1.out e)] at hs; cases hs))
        rw [← hb] at HC7 HCC HBK hle hps ⊢
        clear hb
        obtain ⟨m, hm⟩ : ∃ m : Nat, m = b.length - 1 := ⟨_, rfl⟩
        obtain ⟨t1, t2, t3⟩ := cut_take A7 c7 b m (by omega) HCC.out
        have hmz : (b.length : Int) - 1 = (m : Int) := by omega
        have ew2 : IntKind.i64.wrap (m : Int) = (m : Int) := IntWalk.i64_in _ (by omega)
        have htl : (b.take m).length ≤ 4000 := by rw [List.length_take]; omega
        rw [← hm] at HLESS
        have HTB := Aside0.mk (show ∀ x ∈ b.take m, isB x from fun x hx => HBYT.out x (List.mem_of_mem_take hx))
        have HT2 := Aside0.mk t2
        have HT3 := Aside0.mk t3
        have HLE := Aside0.mk hle
        clear hm t2 t3 hps hle HXO
        generalize b.take m = bt at *
        -- there and back
        have HDEC := Aside0.mk (decU A7 c7 b w6 HC7.out HCC.out (by have := HLE.out; omega) HBYT.out)
        rw [HBK.out.1, if_pos rfl, if_pos rfl, HBK.out.2] at HDEC
        go_upto_region 14 with (go_at_call 46; refine HDEC.out.mono ?_; rintro e w7 ⟨z, z5, r5, z6, r6, nz, rfl, hf5, hf6, hn, hz, hb⟩; subst hn; have HF5 := Aside0.mk hf5; have HF6 := Aside0.mk hf6; have HZ := Aside0.mk hz; have HB7 := Aside0.mk hb; clear hf5 hf6 hz hb)
        obtain ⟨w8, hw8⟩ : ∃ w8, w8 = w7.alloc (.cells (rcL z z5 r5 z6 r6) 28) := ⟨_, rfl⟩
        rw [← hw8]
        have hAT := RcAt.ofF HF5.out HF6.out
        rw [← hw8] at hAT
        have hcb := below_step HB7.out (show Below w7.heap.size w7 w8 by rw [hw8]; exact below_alloc (Below.refl _ _) _)
        have HR78 := Aside0.mk (HR76.out.below hcb)
        have HR88 := Aside0.mk (HR86.out.below hcb)
        have HB8 := Aside0.mk (below_step HB6.out hcb)
        have HC8 := Aside0.mk (Kd.C_below HC7.out hcb)
        have HSM := Aside0.mk (record_Same.calls z X z5 r5 z6 r6 a5 p5 a6 p6 w8 hAT.2.1.1 hAT.2.2.1 HR78.out.2.1.1 HR78.out.2.2.1)
        rw [(sameR_iff z X).2 HZ.out] at HSM
        obtain ⟨k0, k1, k2, k3, k4, k5, k6⟩ := rcF hAT.1
        obtain ⟨j0, j1, j2, j3, j4, j5, j6⟩ := rcF HR78.out.1
        clear hw8 hAT hcb HDEC HF5 HF6 HB7 HZ HR76 HR86 HB6 HC7
        go_upto_region 16 with (go_at_call 19; refine HSM.out.mono ?_; rintro e w9 ⟨rfl, hb⟩; have HR79 := Aside0.mk (HR78.out.below hb); have HR89 := Aside0.mk (HR88.out.below hb); have HB9 := Aside0.mk (below_step HB8.out hb); have HC9 := Aside0.mk (Kd.C_below HC8.out hb); clear hb)
        clear k0 k1 k2 k3 k4 k5 k6 j0 j1 j2 j3 j4 j5 j6 HSM HR78 HR88 HB8 HC8
        -- one byte less
        have HDEC := Aside0.mk (decU A7 c7 bt w9 (HT2.out _ HC9.out) HT3.out (by omega) HTB.out)
        rw [HLESS.out, if_neg (by decide), if_neg (by decide)] at HDEC
        go_upto_region 17 with (go_at_call 46; refine HDEC.out.mono ?_; rintro e w10 ⟨z, y5, s5, y6, s6, nz, rfl, hf5, hf6, hn, hz, hb⟩; subst hn; have HB10 := Aside0.mk hb; clear hf5 hf6 hz hb)
        obtain ⟨w11, hw11⟩ : ∃ w11, w11 = w10.alloc (.cells (rcL z y5 s5 y6 s6) 28) := ⟨_, rfl⟩
        rw [← hw11]
        have hcb := below_step HB10.out (show Below w10.heap.size w10 w11 by rw [hw11]; exact below_alloc (Below.refl _ _) _)
        have HR71 := Aside0.mk (HR79.out.below hcb)
        have HR81 := Aside0.mk (HR89.out.below hcb)
        have HB11 := Aside0.mk (below_step HB9.out hcb)
        have HC11 := Aside0.mk (Kd.C_below HC9.out hcb)
        clear hw11 hcb HDEC HB10 HR79 HR89 HB9 HC9 t1 hmz ew2
        have hlb := HLE.out
        obtain ⟨b0, hb0⟩ : ∃ b0, b0 = b ++ [0] := ⟨_, rfl⟩
        have hl0 : b0.length ≤ 4001 := by rw [hb0, List.length_append]; simp only [List.length_cons, List.length_nil]; omega
        have HL0 := Aside0.mk hl0
        have HB0 := Aside0.mk hb0
        rw [← hb0] at HMORE HBY0
        clear hb0 hl0
        -- one byte more
        go_upto_region 20 with (first
          | ((with_reducible refine gate_dst (N := 93) rfl ?_); refine Kd.R_lit (Kd.int .u8) (w0 := w11) w11.heap.size 5 ?hg (N := 93) ?hd (xs := ([] : List Int)) (inner := []) (ok := fun _ => True) (okp := fun _ => True) ?hr ?hp (fun _ hk => hk) trivial (Below.refl _ _) (Nat.le_refl _) (by simp) ?_; (case hd => rfl); (case hg => rfl); (case hr => first | (go_simp; done) | (go_simp; rfl)); (case hp => exact (Reps.none _ _)); intro v93 w12 ho hb hg hnew; clear hg hnew; have HO12 := Aside0.mk ho; have HB12 := Aside0.mk hb; have HC12 := Aside0.mk (Kd.C_below HC11.out hb); clear ho hb)
          | ((with_reducible refine gate_builtin (b := .append) (xs := #[.tmp 93, .tmp 94]) rfl ?_); at_builtin; refine Kd.R_append_rows (Kd.int .u8) (w0 := w11) w11.heap.size rfl (.tmp 93) (.tmp 94) 30 5 (.int .u8 0) 1 rfl Try.underlying30 info_u8 rfl (by decide) (by omega) v93 [] b _ _ _ (fun _ => True) (fun _ => False) rfl rfl HO12.out HC12.out (fun _ _ h => h) (fun _ h => h.elim) (fun _ _ => trivial) HB12.out (below_size HB12.out) (by simp only [List.length_nil]; omega) ?_; intro v95 w13 ho hb hg hat; clear hat; rw [List.nil_append] at ho; have HO13 := Aside0.mk ho; have HB13 := Aside0.mk hb; clear ho hb hg)
          | ((with_reducible refine gate_builtin (b := .append) (xs := #[.tmp 95, .tmp 96]) rfl ?_); at_builtin; refine Kd.R_append (Kd.int .u8) (w0 := w11) w11.heap.size rfl (.tmp 95) (.tmp 96) 30 5 (.int .u8 0) 1 rfl Try.underlying30 info_u8 rfl (by decide) (by omega) v95 b 0 [.int .u8 0] (fun _ => True) (fun _ => False) rfl rfl rfl (fun _ hk => hk.elim) (fun _ _ => trivial) HO13.out HB13.out (below_size HB13.out) (by omega) ?_; intro v97 w14 ho hb hg hat; clear hat hg; rw [← HB0.out] at ho; obtain ⟨A9, c9, rfl, hc9, hC9⟩ := Kd.R_reads ho; have HB14 := Aside0.mk hb; have HDEC := Aside0.mk (decU A9 c9 b0 w14 hC9 hc9 (by have := HL0.out; omega) HBY0.out); rw [HMORE.out, if_neg (by decide), if_neg (by decide)] at HDEC; clear ho hb hC9 hc9)
          | (go_at_call 46; refine HDEC.out.mono ?_; rintro e w15 ⟨z, g5, t5, g6, t6, nz, rfl, hf5, hf6, hn, hz, hb⟩; subst hn; have HB15 := Aside0.mk (below_step HB14.out hb); clear hf5 hf6 hz hb))
        obtain ⟨w16, hw16⟩ : ∃ w16, w16 = w15.alloc (.cells (rcL z g5 t5 g6 t6) 28) := ⟨_, rfl⟩
        rw [← hw16]
        have hcb := below_step HB15.out (show Below w15.heap.size w15 w16 by rw [hw16]; exact below_alloc (Below.refl _ _) _)
        have HR72 := Aside0.mk (HR71.out.below hcb)
        have HR82 := Aside0.mk (HR81.out.below hcb)
        have HB16 := Aside0.mk (below_step HB11.out hcb)
        have HC16 := Aside0.mk (Kd.C_below HC11.out hcb)
        clear hw16 hcb HDEC HB15 HB14 HR71 HR81 HB11 HC11 HO12 HB12 HC12 HO13 HB13 hlb HMORE HBY0 HB0 HL0
        obtain ⟨k0, k1, k2, k3, k4, k5, k6⟩ := rcF HR82.out.1
        have HENC := Aside0.mk (encU Y b5 q5 b6 q6 w16 HR82.out.2.1.1 HR82.out.2.1.2 HR82.out.2.2.1)
        cases hY : recOk Y with
        | false =>
          rw [hY, if_neg (by decide), if_neg (by decide)] at HENC
          clear hY
          go_upto_region 23 with (go_at_call 51; refine HENC.out.mono ?_; rintro e w17 ⟨v, n6, l6, rfl, ho, hn6, hl6, hb⟩; subst hn6 hl6; obtain ⟨A8, c8, rfl⟩ := Kd.R_slice ho; have HB17 := Aside0.mk (below_step HB16.out hb); clear ho hb)
          clear k0 k1 k2 k3 k4 k5 k6 HENC
          go_quiet (fail)
          go_wp2_with fail
          go_returns
          exact ⟨rfl, pw_below_drewN HB17.out _⟩
        | true =>
          rw [hY, if_pos rfl, if_pos rfl] at HENC
          have HQ := Aside0.mk (HINJ.out hY)
          obtain ⟨q, hq⟩ : ∃ q, q = sameR X Y := ⟨_, rfl⟩
          rw [← hq] at HQ
          have HQ2 := Aside0.mk hq
          clear hY hq HINJ
          go_upto_region 23 with (go_at_call 51; refine HENC.out.mono ?_; rintro e w17 ⟨v, n6, l6, rfl, ho, hn6, hl6, hb⟩; subst hn6; rw [hl6] at ho; obtain ⟨A8, c8, rfl, hc8, hC8⟩ := Kd.R_reads ho; have HB17 := Aside0.mk (below_step HB16.out hb); have HR73 := Aside0.mk (HR72.out.below hb); have HR83 := Aside0.mk (HR82.out.below hb); have HC17 := Aside0.mk (Kd.C_below HC16.out hb); have HC8 := Aside0.mk hC8; have HCE := Aside0.mk hc8; clear ho hb hC8 hl6 hc8)
          clear k0 k1 k2 k3 k4 k5 k6 HENC HR72 HR82 HB16 HC16
          have HE := Aside0.mk (fun (p : Gr w17) => P.bytes_Equal.calls A7 c7 b A8 c8 (recBs Y) q p.w (Kd.C_below HC17.out p.h) HCC.out (Kd.C_below HC8.out p.h) HCE.out (by rw [equal_is b (recBs Y) HBYT.out (recBs_byte Y), HQ.out]))
          have HS := Aside0.mk (fun (p : Gr w17) => record_Same.calls X Y a5 p5 a6 p6 b5 q5 b6 q6 p.w (Kd.C_below HR73.out.2.1.1 p.h) (Kd.C_below HR73.out.2.2.1 p.h) (Kd.C_below HR83.out.2.1.1 p.h) (Kd.C_below HR83.out.2.2.1 p.h))
          rw [← HQ2.out] at HS
          obtain ⟨k0, k1, k2, k3, k4, k5, k6⟩ := rcF HR73.out.1
          obtain ⟨j0, j1, j2, j3, j4, j5, j6⟩ := rcF HR83.out.1
          have K0 := fun p => Gr.cell k0 p
          have K1 := fun p => Gr.cell k1 p
          have K2 := fun p => Gr.cell k2 p
          have K3 := fun p => Gr.cell k3 p
          have K4 := fun p => Gr.cell k4 p
          have K5 := fun p => Gr.cell k5 p
          have K6 := fun p => Gr.cell k6 p
          have J0 := fun p => Gr.cell j0 p
          have J1 := fun p => Gr.cell j1 p
          have J2 := fun p => Gr.cell j2 p
          have J3 := fun p => Gr.cell j3 p
          have J4 := fun p => Gr.cell j4 p
          have J5 := fun p => Gr.cell j5 p
          have J6 := fun p => Gr.cell j6 p
          clear k0 k1 k2 k3 k4 k5 k6 j0 j1 j2 j3 j4 j5 j6
          refine wp_region_gr (by kernel_rfl) (by kernel_rfl) ?_
          repeat (go_big_quiet_step (first | (go_at_call 17; exact Calls.gr_of ((HE.out _).mono (fun e w' h => ⟨h.1, h.2.below⟩))) | (go_at_call 19; exact Calls.gr_of (HS.out _))))
          refine wpQuiet_nil ?_
          intro w9 hw'
          have HB9 := Aside0.mk (below_step HB17.out (show Below w17.heap.size w17 w9 by obtain ⟨p, rfl⟩ := hw'; exact p.h))
          clear hw' K0 K1 K2 K3 K4 K5 K6 J0 J1 J2 J3 J4 J5 J6
          go_wp2_with fail
          go_returns
          exact ⟨by simp, HB9.out⟩

end Go.Proofs.Ytngjaaldidmgjaa.G
