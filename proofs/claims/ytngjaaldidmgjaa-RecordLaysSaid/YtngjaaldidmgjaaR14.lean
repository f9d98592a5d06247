/- quiverlaw24.RecordLays answers true. -/
import Derived.Test.YtngjaaldidmgjaaMK
import Derived.Test.YtngjaaldidmgjaaMI
namespace Go.Proofs.Ytngjaaldidmgjaa.G
open Go.Shelf Go.RowKit Go.Proofs.YtngjaaldidmgjaaW.PrintWords Go.Proofs.YtngjaaldidmgjaaW.PrintLast Go.Proofs.YtngjaaldidmgjaaW.PrintMore
set_option linter.unusedVariables false
set_option linter.unusedSimpArgs false

def op11_0 : Oper := { dst := some 22, op := Go.Op.load 28 (Go.Operand.tmp 4), type := 28, pos := "law.go:51", after := #[], guard := none }
def op11_1 : Oper := { dst := some 23, op := Go.Op.call { callee := Go.Callee.value (Go.Operand.func 15), args := #[Go.Operand.tmp 22], argTypes := #[28] }, type := 28, pos := "law.go:51", after := #[{ on := 0, ground := Go.Ground.data }], guard := none }
def op11_2 : Oper := { dst := some 24, op := Go.Op.move (Go.Operand.tmp 0), type := 22, pos := "law.go:51", after := #[], guard := none }
def op11_3 : Oper := { dst := some 25, op := Go.Op.indexAddr 22 (Go.Operand.tmp 24) (Go.Operand.const (Go.Value.int Go.IntKind.i64 0)), type := 0, pos := "law.go:51", after := #[{ on := 2, ground := Go.Ground.data }], guard := none }
def op11_4 : Oper := { dst := some 26, op := Go.Op.load 28 (Go.Operand.tmp 25), type := 28, pos := "law.go:51", after := #[{ on := 3, ground := Go.Ground.data }], guard := none }
def op11_5 : Oper := { dst := some 27, op := Go.Op.call { callee := Go.Callee.value (Go.Operand.func 15), args := #[Go.Operand.tmp 26], argTypes := #[28] }, type := 28, pos := "law.go:51", after := #[{ on := 4, ground := Go.Ground.data }, { on := 1, ground := Go.Ground.chain }], guard := none }
def op11_6 : Oper := { dst := some 5, op := Go.Op.alloc 28, type := 0, pos := "law.go:51", after := #[], guard := none }
def op11_7 : Oper := { dst := some 6, op := Go.Op.alloc 28, type := 0, pos := "law.go:51", after := #[], guard := none }
def op11_8 : Oper := { dst := none, op := Go.Op.store 28 (Go.Operand.tmp 5) (Go.Operand.tmp 23), type := 0, pos := "law.go:51", after := #[{ on := 6, ground := Go.Ground.data }, { on := 1, ground := Go.Ground.data }, { on := 5, ground := Go.Ground.chain }, { on := 0, ground := Go.Ground.phase }, { on := 1, ground := Go.Ground.phase }, { on := 2, ground := Go.Ground.textOnly Go.Departure.lateStores }, { on := 3, ground := Go.Ground.textOnly Go.Departure.lateStores }, { on := 4, ground := Go.Ground.textOnly Go.Departure.lateStores }, { on := 5, ground := Go.Ground.textOnly Go.Departure.lateStoresUnsure }, { on := 6, ground := Go.Ground.phase }, { on := 7, ground := Go.Ground.phase }], guard := none }
def op11_9 : Oper := { dst := none, op := Go.Op.store 28 (Go.Operand.tmp 6) (Go.Operand.tmp 27), type := 0, pos := "law.go:51", after := #[{ on := 7, ground := Go.Ground.data }, { on := 5, ground := Go.Ground.data }, { on := 8, ground := Go.Ground.chain }, { on := 0, ground := Go.Ground.phase }, { on := 1, ground := Go.Ground.phase }, { on := 2, ground := Go.Ground.phase }, { on := 3, ground := Go.Ground.phase }, { on := 4, ground := Go.Ground.phase }, { on := 5, ground := Go.Ground.phase }, { on := 6, ground := Go.Ground.phase }, { on := 7, ground := Go.Ground.phase }, { on := 8, ground := Go.Ground.phase }], guard := none }
set_option maxHeartbeats 4000000 in
set_option maxRecDepth 100000 in
theorem recordLays.walk (A : Option Addr) (c : Nat) (l : List Rc) (W : World) (hl : l.length ≤ c) (hC : Kd.C kRc W A l.length l) (hw : ∀ x ∈ l, wfRc x) :
    Calls Try.prog 11 #[.slice A l.length c] W fun e w' => e = .returned (.bool true) ∧ Below W.heap.size W w' := by
  have HWK := Aside0.mk (wakes24 W)
  have hm := Kd.C_max hC
  have HC := Aside0.mk hC
  have HWF := Aside0.mk hw
  clear hC hw
  go_enter Try.func11, Try.ntmps11
  go_wp2_with (go_at_call 14; refine HWK.out.mono ?_; rintro e w1 ⟨rfl, hb⟩; have HB1 := Aside0.mk hb; clear hb)
  go_loopg [15] l.length (fun gg s15 wr => ∃ kk : Nat, kk ≤ l.length ∧ l.length - kk ≤ gg ∧ s15 = .int .i64 kk ∧ Aside0 (Below W.heap.size W wr))
  case atStart => exact ⟨0, Nat.zero_le _, by omega, rfl, HB1⟩
  case round =>
    obtain ⟨kk, hkk, hg, rfl, HBk⟩ := hrel
    obtain ⟨wo, rfl⟩ : ∃ wo, wo = wr := ⟨_, rfl⟩
    by_cases hlt : kk < l.length
    case neg =>
      have hltz : ¬ (kk : Int) < (l.length : Int) := by omega
      go_wp2_with fail
      go_returns
      exact ⟨rfl, HBk.out⟩
    case pos =>
      have hltz : (kk : Int) < (l.length : Int) := by omega
      obtain ⟨ad, A5, c5, A6, c6, hA, p0, p1, p2, p3, p4, p5, p6, ⟨hc5, h5⟩, hc6, h6⟩ := rc_at (Kd.C_below HC.out HBk.out) kk hlt
      subst hA
      have HV := Aside0.mk (few_rcV (HWF.out _ (List.getElem_mem hlt)))
      have HLT := Aside0.mk hlt
      generalize l[kk] = x at *
      by_cases h10 : kk = 10
      · have t10 : ((kk : Int) == 10) = true := by rw [beq_iff_eq]; omega
        clear h5 h6 h10
        go_wp2_with fail
        go_returns
        exact ⟨rfl, below_step HBk.out (below_alloc (Below.refl _ _) _)⟩
      have n10 : ((kk : Int) == 10) = false := by rw [beq_eq_false_iff_ne]; omega
      obtain ⟨wb, hwb⟩ : ∃ wb, wb = wo.alloc (.cells (rcL x A5 c5 A6 c6) 28) := ⟨_, rfl⟩
      obtain ⟨B4, hB4⟩ : ∃ B4, B4 = wo.heap.size := ⟨_, rfl⟩
      have hob : Below wo.heap.size wo wb := by rw [hwb]; exact below_alloc (Below.refl _ _) _
      have HX := Aside0.mk (show wb.heap[B4]? = some (.cells (rcL x A5 c5 A6 c6) 28 (0, 0)) by rw [hwb, hB4]; exact heap_alloc_new _ _)
      have HBb := Aside0.mk (below_step HBk.out hob)
      have HC5 := Aside0.mk (Kd.C_below h5 hob)
      have HC6 := Aside0.mk (Kd.C_below h6 hob)
      have HW := Aside0.mk (show wo.alloc (.cells (rcL x A5 c5 A6 c6) 28) = wb from hwb.symm)
      have HB4 := Aside0.mk (show wo.heap.size = B4 from hB4.symm)
      clear hwb hB4 hob h5 h6 h10
      go_upto_region 7 with (fail)
      rw [HW.out, HB4.out]
      clear p0 p1 p2 p3 p4 p5 p6 HW HB4
      obtain ⟨ad', D5, d5, D6, d6, hA, y0, y1, y2, y3, y4, y5, y6, ⟨hd5, g5⟩, hd6, g6⟩ := rc_at (Kd.C_below HC.out HBb.out) 0 (by have := HLT.out; omega)
      obtain rfl := Option.some.inj hA
      rw [Nat.zero_mul, Addr.add_zero'] at y0 y1 y2 y3 y4 y5 y6
      generalize l[0] = y at *
      obtain ⟨x0, x1, x2, x3, x4, x5, x6⟩ := rcF HX.out
      have hlz : (0 : Int) < (l.length : Int) := by omega
      have HNIL := Aside0.mk (show ¬ l = [] from fun h => by rw [h] at hlt; exact absurd hlt (Nat.not_lt_zero _))
      have HF0 := Aside0.mk (fun (W' : World) (h : Below wb.heap.size wb W') => fewS x A5 c5 A6 c6 W' (Kd.C_below HC5.out h) hc5 (Kd.C_below HC6.out h) hc6)
      have HF1 := Aside0.mk (fun (W' : World) (h : Below wb.heap.size wb W') => fewS y D5 d5 D6 d6 W' (Kd.C_below g5 h) hd5 (Kd.C_below g6 h) hd6)
      clear g5 g6
      go_cut [5, 6] (fun v5 v6 wc => PairRel x y wb v5 v6 wc)
      case first =>
        refine wp_region_noPanic ?_
        refine wp_region_held_drew (S := (fun w' => Below wb.heap.size wb w')) (by kernel_rfl) (below_drew1 (Below.refl _ _)) (fun hHeld => ?_)
        refine wpAnyH_take (i := 0) (oi := op11_0) (v := .agg #[.int .i64 x.f0, .int .u64 x.f1, .int .u64 x.f2, .int .i64 x.f3, .int .i64 x.f4, .slice A5 x.f5.length c5, .slice A6 x.f6.length c6]) rfl (by kernel_rfl) (by kernel_rfl) (by kernel_rfl) (fun _ _ _ h => h) (Or.inl ⟨by rfl, ?_⟩) hHeld ?_
        · unfold op11_0
          intro wq hq
          have k0 := (hq.cell (World.block_lt_of_cell? wb _ x0)).trans x0
          have k1 := (hq.cell (World.block_lt_of_cell? wb _ x1)).trans x1
          have k2 := (hq.cell (World.block_lt_of_cell? wb _ x2)).trans x2
          have k3 := (hq.cell (World.block_lt_of_cell? wb _ x3)).trans x3
          have k4 := (hq.cell (World.block_lt_of_cell? wb _ x4)).trans x4
          have k5 := (hq.cell (World.block_lt_of_cell? wb _ x5)).trans x5
          have k6 := (hq.cell (World.block_lt_of_cell? wb _ x6)).trans x6
          first | (go_simp; done) | (go_simp; with_reducible rfl)
        unfold op11_0
        simp only [Act.put, List.setIfInBounds_toArray, List.set_cons_zero, List.set_cons_succ]
        refine wpAnyH_take (i := 2) (oi := op11_2) (v := .slice (some ad) l.length c) rfl (by kernel_rfl) (by kernel_rfl) (by kernel_rfl) (fun _ _ _ h => h) (Or.inl ⟨by rfl, ?_⟩) hHeld ?_
        · unfold op11_2
          intro wq hq
          first | (go_simp; done) | (go_simp; with_reducible rfl)
        unfold op11_2
        simp only [Act.put, List.setIfInBounds_toArray, List.set_cons_zero, List.set_cons_succ]
        refine wpAnyH_take (i := 3) (oi := op11_3) (v := .pointer (some ad)) rfl (by kernel_rfl) (by kernel_rfl) (by kernel_rfl) (fun _ _ _ h => h) (Or.inl ⟨by rfl, ?_⟩) hHeld ?_
        · unfold op11_3
          intro wq hq
          first | (go_simp; done) | (go_simp; with_reducible rfl) | (go_simp; intro h0; exact absurd h0 HNIL.out)
        unfold op11_3
        simp only [Act.put, List.setIfInBounds_toArray, List.set_cons_zero, List.set_cons_succ]
        refine wpAnyH_take (i := 4) (oi := op11_4) (v := .agg #[.int .i64 y.f0, .int .u64 y.f1, .int .u64 y.f2, .int .i64 y.f3, .int .i64 y.f4, .slice D5 y.f5.length d5, .slice D6 y.f6.length d6]) rfl (by kernel_rfl) (by kernel_rfl) (by kernel_rfl) (fun _ _ _ h => h) (Or.inl ⟨by rfl, ?_⟩) hHeld ?_
        · unfold op11_4
          intro wq hq
          have k0 := (hq.cell (World.block_lt_of_cell? wb _ y0)).trans y0
          have k1 := (hq.cell (World.block_lt_of_cell? wb _ y1)).trans y1
          have k2 := (hq.cell (World.block_lt_of_cell? wb _ y2)).trans y2
          have k3 := (hq.cell (World.block_lt_of_cell? wb _ y3)).trans y3
          have k4 := (hq.cell (World.block_lt_of_cell? wb _ y4)).trans y4
          have k5 := (hq.cell (World.block_lt_of_cell? wb _ y5)).trans y5
          have k6 := (hq.cell (World.block_lt_of_cell? wb _ y6)).trans y6
          first | (go_simp; done) | (go_simp; with_reducible rfl)
        unfold op11_4
        simp only [Act.put, List.setIfInBounds_toArray, List.set_cons_zero, List.set_cons_succ]
        have HB := Aside0.mk (show Below wb.heap.size wb wb.drew from below_drew1 (Below.refl _ _))
        clear hHeld
        refine wpAnyH_ready (rs := [1, 6, 7]) (by kernel_rfl) (by simp) ?_
        refine AllReadyH.cons (o := op11_1) rfl (fun K hK => ?_) ?_
        · unfold op11_1
          go_simp
          go_at_call 15
          refine (HF0.out _ HB.out).mono ?_
          rintro e v0 ⟨a5, q5, a6, q6, rfl, hs, hb⟩
          replace HB := Aside0.mk (below_step HB.out hb)
          have R0 := Aside0.mk hs
          clear hs hb
          refine hK.out _ _ HB.out (fun _ => ?_)
          clear hK K
          try simp only [Act.put, List.setIfInBounds_toArray, List.set_cons_zero, List.set_cons_succ]
          refine wpAnyH_ready (rs := [5, 6, 7]) (by kernel_rfl) (by simp) ?_
          refine AllReadyH.cons (o := op11_5) rfl (fun K hK => ?_) ?_
          · unfold op11_5
            go_simp
            go_at_call 15
            refine (HF1.out _ HB.out).mono ?_
            rintro e v1 ⟨b5, r5, b6, r6, rfl, hs, hb⟩
            replace HB := Aside0.mk (below_step HB.out hb)
            replace R0 := Aside0.mk (R0.out.below hb)
            have R1 := Aside0.mk hs
            clear hs hb
            refine hK.out _ _ HB.out (fun _ => ?_)
            clear hK K
            try simp only [Act.put, List.setIfInBounds_toArray, List.set_cons_zero, List.set_cons_succ]
            refine wpAnyH_ready (rs := [6, 7]) (by kernel_rfl) (by simp) ?_
            refine AllReadyH.cons (o := op11_6) rfl (fun K hK => ?_) ?_
            · unfold op11_6
              refine box_step (N := 5) (cs := zcL) (t := 28) (by rfl) rfl (by first | (go_simp; done) | (go_simp; rfl)) ?_
              intro B0 hB v2 hbox hb
              have G0 := Aside0.mk (show wb.heap.size ≤ B0 by rw [hB]; exact below_size HB.out)
              replace HB := Aside0.mk (below_step HB.out hb)
              replace R0 := Aside0.mk (R0.out.below hb)
              replace R1 := Aside0.mk (R1.out.below hb)
              have H0 := Aside0.mk hbox
              clear hbox hb hB
              refine hK.out _ _ HB.out (fun _ => ?_)
              clear hK K
              try simp only [Act.put, List.setIfInBounds_toArray, List.set_cons_zero, List.set_cons_succ]
              refine wpAnyH_ready (rs := [7]) (by kernel_rfl) (by simp) ?_
              refine AllReadyH.cons (o := op11_7) rfl (fun K hK => ?_) ?_
              · unfold op11_7
                refine box_step (N := 6) (cs := zcL) (t := 28) (by rfl) rfl (by first | (go_simp; done) | (go_simp; rfl)) ?_
                intro B1 hB v3 hbox hb
                have G1 := Aside0.mk (show wb.heap.size ≤ B1 by rw [hB]; exact below_size HB.out)
                have HNE := Aside0.mk (show B0 ≠ B1 by rw [hB]; exact Nat.ne_of_lt (blk_lt H0.out))
                replace HB := Aside0.mk (below_step HB.out hb)
                replace H0 := Aside0.mk (blk_below H0.out hb)
                replace R0 := Aside0.mk (R0.out.below hb)
                replace R1 := Aside0.mk (R1.out.below hb)
                have H1 := Aside0.mk hbox
                clear hbox hb hB
                refine hK.out _ _ HB.out (fun _ => ?_)
                clear hK K
                try simp only [Act.put, List.setIfInBounds_toArray, List.set_cons_zero, List.set_cons_succ]
                refine wpAnyH_ready (rs := [8]) (by kernel_rfl) (by simp) ?_
                refine AllReadyH.cons (o := op11_8) rfl (fun K hK => ?_) AllReadyH.nil
                unfold op11_8
                obtain ⟨⟨e0, e1, e2, e3, e4, e5, e6⟩, f0, f1, f2, f3, f4, f5, f6⟩ := boxF H0.out
                go_simp
                refine boxK (K := K _) H0.out ?_
                intro s0 hX hf
                have HX0 := Aside0.mk (show s0.heap[B0]? = some (.cells (rcL (fewR x) a5 q5 a6 q6) 28 (0, 0)) from hX)
                replace R0 := Aside0.mk (R0.out.fr H0.out hf)
                replace R1 := Aside0.mk (R1.out.fr H0.out hf)
                replace H1 := Aside0.mk (hf.blk H1.out (fun e => HNE.out e.symm))
                replace HB := Aside0.mk (below_step' HB.out (Below.refl _ _) hf (fun k hk => by rw [hk]; exact G0.out))
                clear e0 e1 e2 e3 e4 e5 e6 f0 f1 f2 f3 f4 f5 f6 hX hf
                refine hK.out _ _ HB.out (fun _ => ?_)
                clear hK K
                try simp only [Act.put, List.setIfInBounds_toArray, List.set_cons_zero, List.set_cons_succ]
                refine wpAnyH_ready (rs := [9]) (by kernel_rfl) (by simp) ?_
                refine AllReadyH.cons (o := op11_9) rfl (fun K hK => ?_) AllReadyH.nil
                unfold op11_9
                obtain ⟨⟨e0, e1, e2, e3, e4, e5, e6⟩, f0, f1, f2, f3, f4, f5, f6⟩ := boxF H1.out
                go_simp
                refine boxK (K := K _) H1.out ?_
                intro s1 hX hf
                have HX1 := Aside0.mk (show s1.heap[B1]? = some (.cells (rcL (fewR y) b5 r5 b6 r6) 28 (0, 0)) from hX)
                replace R0 := Aside0.mk (R0.out.fr H1.out hf)
                replace R1 := Aside0.mk (R1.out.fr H1.out hf)
                replace HX0 := Aside0.mk (hf.blk HX0.out (fun e => HNE.out e))
                replace HB := Aside0.mk (below_step' HB.out (Below.refl _ _) hf (fun k hk => by rw [hk]; exact G1.out))
                clear e0 e1 e2 e3 e4 e5 e6 f0 f1 f2 f3 f4 f5 f6 hX hf
                refine hK.out _ _ HB.out (fun _ => ?_)
                clear hK K
                try simp only [Act.put, List.setIfInBounds_toArray, List.set_cons_zero, List.set_cons_succ]
                refine wpAnyH_done (by kernel_rfl) ?_ _
                refine NoPanic.normal ?_
                go_wp2_with fail
                go_meet
                exact ⟨B0, B1, a5, q5, a6, q6, b5, r5, b6, r6, rfl, rfl, HB, ⟨R0.out.at HX0.out⟩, ⟨R1.out.at HX1.out⟩⟩
              exact AllReadyH.nil
            refine AllReadyH.cons (o := op11_7) rfl (fun K hK => ?_) ?_
            · unfold op11_7
              refine box_step (N := 6) (cs := zcL) (t := 28) (by rfl) rfl (by first | (go_simp; done) | (go_simp; rfl)) ?_
              intro B1 hB v2 hbox hb
              have G1 := Aside0.mk (show wb.heap.size ≤ B1 by rw [hB]; exact below_size HB.out)
              replace HB := Aside0.mk (below_step HB.out hb)
              replace R0 := Aside0.mk (R0.out.below hb)
              replace R1 := Aside0.mk (R1.out.below hb)
              have H1 := Aside0.mk hbox
              clear hbox hb hB
              refine hK.out _ _ HB.out (fun _ => ?_)
              clear hK K
              try simp only [Act.put, List.setIfInBounds_toArray, List.set_cons_zero, List.set_cons_succ]
              refine wpAnyH_ready (rs := [6]) (by kernel_rfl) (by simp) ?_
              refine AllReadyH.cons (o := op11_6) rfl (fun K hK => ?_) ?_
              · unfold op11_6
                refine box_step (N := 5) (cs := zcL) (t := 28) (by rfl) rfl (by first | (go_simp; done) | (go_simp; rfl)) ?_
                intro B0 hB v3 hbox hb
                have G0 := Aside0.mk (show wb.heap.size ≤ B0 by rw [hB]; exact below_size HB.out)
                have HNE := Aside0.mk (show B0 ≠ B1 from fun e => Nat.ne_of_lt (blk_lt H1.out) (e.symm.trans hB))
                replace HB := Aside0.mk (below_step HB.out hb)
                replace H1 := Aside0.mk (blk_below H1.out hb)
                replace R0 := Aside0.mk (R0.out.below hb)
                replace R1 := Aside0.mk (R1.out.below hb)
                have H0 := Aside0.mk hbox
                clear hbox hb hB
                refine hK.out _ _ HB.out (fun _ => ?_)
                clear hK K
                try simp only [Act.put, List.setIfInBounds_toArray, List.set_cons_zero, List.set_cons_succ]
                refine wpAnyH_ready (rs := [8]) (by kernel_rfl) (by simp) ?_
                refine AllReadyH.cons (o := op11_8) rfl (fun K hK => ?_) AllReadyH.nil
                unfold op11_8
                obtain ⟨⟨e0, e1, e2, e3, e4, e5, e6⟩, f0, f1, f2, f3, f4, f5, f6⟩ := boxF H0.out
                go_simp
                refine boxK (K := K _) H0.out ?_
                intro s0 hX hf
                have HX0 := Aside0.mk (show s0.heap[B0]? = some (.cells (rcL (fewR x) a5 q5 a6 q6) 28 (0, 0)) from hX)
                replace R0 := Aside0.mk (R0.out.fr H0.out hf)
                replace R1 := Aside0.mk (R1.out.fr H0.out hf)
                replace H1 := Aside0.mk (hf.blk H1.out (fun e => HNE.out e.symm))
                replace HB := Aside0.mk (below_step' HB.out (Below.refl _ _) hf (fun k hk => by rw [hk]; exact G0.out))
                clear e0 e1 e2 e3 e4 e5 e6 f0 f1 f2 f3 f4 f5 f6 hX hf
                refine hK.out _ _ HB.out (fun _ => ?_)
                clear hK K
                try simp only [Act.put, List.setIfInBounds_toArray, List.set_cons_zero, List.set_cons_succ]
                refine wpAnyH_ready (rs := [9]) (by kernel_rfl) (by simp) ?_
                refine AllReadyH.cons (o := op11_9) rfl (fun K hK => ?_) AllReadyH.nil
                unfold op11_9
                obtain ⟨⟨e0, e1, e2, e3, e4, e5, e6⟩, f0, f1, f2, f3, f4, f5, f6⟩ := boxF H1.out
                go_simp
                refine boxK (K := K _) H1.out ?_
                intro s1 hX hf
                have HX1 := Aside0.mk (show s1.heap[B1]? = some (.cells (rcL (fewR y) b5 r5 b6 r6) 28 (0, 0)) from hX)
                replace R0 := Aside0.mk (R0.out.fr H1.out hf)
                replace R1 := Aside0.mk (R1.out.fr H1.out hf)
                replace HX0 := Aside0.mk (hf.blk HX0.out (fun e => HNE.out e))
                replace HB := Aside0.mk (below_step' HB.out (Below.refl _ _) hf (fun k hk => by rw [hk]; exact G1.out))
                clear e0 e1 e2 e3 e4 e5 e6 f0 f1 f2 f3 f4 f5 f6 hX hf
                refine hK.out _ _ HB.out (fun _ => ?_)
                clear hK K
                try simp only [Act.put, List.setIfInBounds_toArray, List.set_cons_zero, List.set_cons_succ]
                refine wpAnyH_done (by kernel_rfl) ?_ _
                refine NoPanic.normal ?_
                go_wp2_with fail
                go_meet
                exact ⟨B0, B1, a5, q5, a6, q6, b5, r5, b6, r6, rfl, rfl, HB, ⟨R0.out.at HX0.out⟩, ⟨R1.out.at HX1.out⟩⟩
              exact AllReadyH.nil
            exact AllReadyH.nil
          refine AllReadyH.cons (o := op11_6) rfl (fun K hK => ?_) ?_
          · unfold op11_6
            refine box_step (N := 5) (cs := zcL) (t := 28) (by rfl) rfl (by first | (go_simp; done) | (go_simp; rfl)) ?_
            intro B0 hB v1 hbox hb
            have G0 := Aside0.mk (show wb.heap.size ≤ B0 by rw [hB]; exact below_size HB.out)
            replace HB := Aside0.mk (below_step HB.out hb)
            replace R0 := Aside0.mk (R0.out.below hb)
            have H0 := Aside0.mk hbox
            clear hbox hb hB
            refine hK.out _ _ HB.out (fun _ => ?_)
            clear hK K
            try simp only [Act.put, List.setIfInBounds_toArray, List.set_cons_zero, List.set_cons_succ]
            refine wpAnyH_ready (rs := [5, 7]) (by kernel_rfl) (by simp) ?_
            refine AllReadyH.cons (o := op11_5) rfl (fun K hK => ?_) ?_
            · unfold op11_5
              go_simp
              go_at_call 15
              refine (HF1.out _ HB.out).mono ?_
              rintro e v2 ⟨b5, r5, b6, r6, rfl, hs, hb⟩
              replace HB := Aside0.mk (below_step HB.out hb)
              replace H0 := Aside0.mk (blk_below H0.out hb)
              replace R0 := Aside0.mk (R0.out.below hb)
              have R1 := Aside0.mk hs
              clear hs hb
              refine hK.out _ _ HB.out (fun _ => ?_)
              clear hK K
              try simp only [Act.put, List.setIfInBounds_toArray, List.set_cons_zero, List.set_cons_succ]
              refine wpAnyH_ready (rs := [7]) (by kernel_rfl) (by simp) ?_
              refine AllReadyH.cons (o := op11_7) rfl (fun K hK => ?_) ?_
              · unfold op11_7
                refine box_step (N := 6) (cs := zcL) (t := 28) (by rfl) rfl (by first | (go_simp; done) | (go_simp; rfl)) ?_
                intro B1 hB v3 hbox hb
                have G1 := Aside0.mk (show wb.heap.size ≤ B1 by rw [hB]; exact below_size HB.out)
                have HNE := Aside0.mk (show B0 ≠ B1 by rw [hB]; exact Nat.ne_of_lt (blk_lt H0.out))
                replace HB := Aside0.mk (below_step HB.out hb)
                replace H0 := Aside0.mk (blk_below H0.out hb)
                replace R0 := Aside0.mk (R0.out.below hb)
                replace R1 := Aside0.mk (R1.out.below hb)
                have H1 := Aside0.mk hbox
                clear hbox hb hB
                refine hK.out _ _ HB.out (fun _ => ?_)
                clear hK K
                try simp only [Act.put, List.setIfInBounds_toArray, List.set_cons_zero, List.set_cons_succ]
                refine wpAnyH_ready (rs := [8]) (by kernel_rfl) (by simp) ?_
                refine AllReadyH.cons (o := op11_8) rfl (fun K hK => ?_) AllReadyH.nil
                unfold op11_8
                obtain ⟨⟨e0, e1, e2, e3, e4, e5, e6⟩, f0, f1, f2, f3, f4, f5, f6⟩ := boxF H0.out
                go_simp
                refine boxK (K := K _) H0.out ?_
                intro s0 hX hf
                have HX0 := Aside0.mk (show s0.heap[B0]? = some (.cells (rcL (fewR x) a5 q5 a6 q6) 28 (0, 0)) from hX)
                replace R0 := Aside0.mk (R0.out.fr H0.out hf)
                replace R1 := Aside0.mk (R1.out.fr H0.out hf)
                replace H1 := Aside0.mk (hf.blk H1.out (fun e => HNE.out e.symm))
                replace HB := Aside0.mk (below_step' HB.out (Below.refl _ _) hf (fun k hk => by rw [hk]; exact G0.out))
                clear e0 e1 e2 e3 e4 e5 e6 f0 f1 f2 f3 f4 f5 f6 hX hf
                refine hK.out _ _ HB.out (fun _ => ?_)
                clear hK K
                try simp only [Act.put, List.setIfInBounds_toArray, List.set_cons_zero, List.set_cons_succ]
                refine wpAnyH_ready (rs := [9]) (by kernel_rfl) (by simp) ?_
                refine AllReadyH.cons (o := op11_9) rfl (fun K hK => ?_) AllReadyH.nil
                unfold op11_9
                obtain ⟨⟨e0, e1, e2, e3, e4, e5, e6⟩, f0, f1, f2, f3, f4, f5, f6⟩ := boxF H1.out
                go_simp
                refine boxK (K := K _) H1.out ?_
                intro s1 hX hf
                have HX1 := Aside0.mk (show s1.heap[B1]? = some (.cells (rcL (fewR y) b5 r5 b6 r6) 28 (0, 0)) from hX)
                replace R0 := Aside0.mk (R0.out.fr H1.out hf)
                replace R1 := Aside0.mk (R1.out.fr H1.out hf)
                replace HX0 := Aside0.mk (hf.blk HX0.out (fun e => HNE.out e))
                replace HB := Aside0.mk (below_step' HB.out (Below.refl _ _) hf (fun k hk => by rw [hk]; exact G1.out))
                clear e0 e1 e2 e3 e4 e5 e6 f0 f1 f2 f3 f4 f5 f6 hX hf
                refine hK.out _ _ HB.out (fun _ => ?_)
                clear hK K
                try simp only [Act.put, List.setIfInBounds_toArray, List.set_cons_zero, List.set_cons_succ]
                refine wpAnyH_done (by kernel_rfl) ?_ _
                refine NoPanic.normal ?_
                go_wp2_with fail
                go_meet
                exact ⟨B0, B1, a5, q5, a6, q6, b5, r5, b6, r6, rfl, rfl, HB, ⟨R0.out.at HX0.out⟩, ⟨R1.out.at HX1.out⟩⟩
              exact AllReadyH.nil
            refine AllReadyH.cons (o := op11_7) rfl (fun K hK => ?_) ?_
            · unfold op11_7
              refine box_step (N := 6) (cs := zcL) (t := 28) (by rfl) rfl (by first | (go_simp; done) | (go_simp; rfl)) ?_
              intro B1 hB v2 hbox hb
              have G1 := Aside0.mk (show wb.heap.size ≤ B1 by rw [hB]; exact below_size HB.out)
              have HNE := Aside0.mk (show B0 ≠ B1 by rw [hB]; exact Nat.ne_of_lt (blk_lt H0.out))
              replace HB := Aside0.mk (below_step HB.out hb)
              replace H0 := Aside0.mk (blk_below H0.out hb)
              replace R0 := Aside0.mk (R0.out.below hb)
              have H1 := Aside0.mk hbox
              clear hbox hb hB
              refine hK.out _ _ HB.out (fun _ => ?_)
              clear hK K
              try simp only [Act.put, List.setIfInBounds_toArray, List.set_cons_zero, List.set_cons_succ]
              refine wpAnyH_ready (rs := [5]) (by kernel_rfl) (by simp) ?_
              refine AllReadyH.cons (o := op11_5) rfl (fun K hK => ?_) ?_
              · unfold op11_5
                go_simp
                go_at_call 15
                refine (HF1.out _ HB.out).mono ?_
                rintro e v3 ⟨b5, r5, b6, r6, rfl, hs, hb⟩
                replace HB := Aside0.mk (below_step HB.out hb)
                replace H0 := Aside0.mk (blk_below H0.out hb)
                replace H1 := Aside0.mk (blk_below H1.out hb)
                replace R0 := Aside0.mk (R0.out.below hb)
                have R1 := Aside0.mk hs
                clear hs hb
                refine hK.out _ _ HB.out (fun _ => ?_)
                clear hK K
                try simp only [Act.put, List.setIfInBounds_toArray, List.set_cons_zero, List.set_cons_succ]
                refine wpAnyH_ready (rs := [8]) (by kernel_rfl) (by simp) ?_
                refine AllReadyH.cons (o := op11_8) rfl (fun K hK => ?_) AllReadyH.nil
                unfold op11_8
                obtain ⟨⟨e0, e1, e2, e3, e4, e5, e6⟩, f0, f1, f2, f3, f4, f5, f6⟩ := boxF H0.out
                go_simp
                refine boxK (K := K _) H0.out ?_
                intro s0 hX hf
                have HX0 := Aside0.mk (show s0.heap[B0]? = some (.cells (rcL (fewR x) a5 q5 a6 q6) 28 (0, 0)) from hX)
                replace R0 := Aside0.mk (R0.out.fr H0.out hf)
                replace R1 := Aside0.mk (R1.out.fr H0.out hf)
                replace H1 := Aside0.mk (hf.blk H1.out (fun e => HNE.out e.symm))
                replace HB := Aside0.mk (below_step' HB.out (Below.refl _ _) hf (fun k hk => by rw [hk]; exact G0.out))
                clear e0 e1 e2 e3 e4 e5 e6 f0 f1 f2 f3 f4 f5 f6 hX hf
                refine hK.out _ _ HB.out (fun _ => ?_)
                clear hK K
                try simp only [Act.put, List.setIfInBounds_toArray, List.set_cons_zero, List.set_cons_succ]
                refine wpAnyH_ready (rs := [9]) (by kernel_rfl) (by simp) ?_
                refine AllReadyH.cons (o := op11_9) rfl (fun K hK => ?_) AllReadyH.nil
                unfold op11_9
                obtain ⟨⟨e0, e1, e2, e3, e4, e5, e6⟩, f0, f1, f2, f3, f4, f5, f6⟩ := boxF H1.out
                go_simp
                refine boxK (K := K _) H1.out ?_
                intro s1 hX hf
                have HX1 := Aside0.mk (show s1.heap[B1]? = some (.cells (rcL (fewR y) b5 r5 b6 r6) 28 (0, 0)) from hX)
                replace R0 := Aside0.mk (R0.out.fr H1.out hf)
                replace R1 := Aside0.mk (R1.out.fr H1.out hf)
                replace HX0 := Aside0.mk (hf.blk HX0.out (fun e => HNE.out e))
                replace HB := Aside0.mk (below_step' HB.out (Below.refl _ _) hf (fun k hk => by rw [hk]; exact G1.out))
                clear e0 e1 e2 e3 e4 e5 e6 f0 f1 f2 f3 f4 f5 f6 hX hf
                refine hK.out _ _ HB.out (fun _ => ?_)
                clear hK K
                try simp only [Act.put, List.setIfInBounds_toArray, List.set_cons_zero, List.set_cons_succ]
                refine wpAnyH_done (by kernel_rfl) ?_ _
                refine NoPanic.normal ?_
                go_wp2_with fail
                go_meet
                exact ⟨B0, B1, a5, q5, a6, q6, b5, r5, b6, r6, rfl, rfl, HB, ⟨R0.out.at HX0.out⟩, ⟨R1.out.at HX1.out⟩⟩
              exact AllReadyH.nil
            exact AllReadyH.nil
          refine AllReadyH.cons (o := op11_7) rfl (fun K hK => ?_) ?_
          · unfold op11_7
            refine box_step (N := 6) (cs := zcL) (t := 28) (by rfl) rfl (by first | (go_simp; done) | (go_simp; rfl)) ?_
            intro B1 hB v1 hbox hb
            have G1 := Aside0.mk (show wb.heap.size ≤ B1 by rw [hB]; exact below_size HB.out)
            replace HB := Aside0.mk (below_step HB.out hb)
            replace R0 := Aside0.mk (R0.out.below hb)
            have H1 := Aside0.mk hbox
            clear hbox hb hB
            refine hK.out _ _ HB.out (fun _ => ?_)
            clear hK K
            try simp only [Act.put, List.setIfInBounds_toArray, List.set_cons_zero, List.set_cons_succ]
            refine wpAnyH_ready (rs := [5, 6]) (by kernel_rfl) (by simp) ?_
            refine AllReadyH.cons (o := op11_5) rfl (fun K hK => ?_) ?_
            · unfold op11_5
              go_simp
              go_at_call 15
              refine (HF1.out _ HB.out).mono ?_
              rintro e v2 ⟨b5, r5, b6, r6, rfl, hs, hb⟩
              replace HB := Aside0.mk (below_step HB.out hb)
              replace H1 := Aside0.mk (blk_below H1.out hb)
              replace R0 := Aside0.mk (R0.out.below hb)
              have R1 := Aside0.mk hs
              clear hs hb
              refine hK.out _ _ HB.out (fun _ => ?_)
              clear hK K
              try simp only [Act.put, List.setIfInBounds_toArray, List.set_cons_zero, List.set_cons_succ]
              refine wpAnyH_ready (rs := [6]) (by kernel_rfl) (by simp) ?_
              refine AllReadyH.cons (o := op11_6) rfl (fun K hK => ?_) ?_
              · unfold op11_6
                refine box_step (N := 5) (cs := zcL) (t := 28) (by rfl) rfl (by first | (go_simp; done) | (go_simp; rfl)) ?_
                intro B0 hB v3 hbox hb
                have G0 := Aside0.mk (show wb.heap.size ≤ B0 by rw [hB]; exact below_size HB.out)
                have HNE := Aside0.mk (show B0 ≠ B1 from fun e => Nat.ne_of_lt (blk_lt H1.out) (e.symm.trans hB))
                replace HB := Aside0.mk (below_step HB.out hb)
                replace H1 := Aside0.mk (blk_below H1.out hb)
                replace R0 := Aside0.mk (R0.out.below hb)
                replace R1 := Aside0.mk (R1.out.below hb)
                have H0 := Aside0.mk hbox
                clear hbox hb hB
                refine hK.out _ _ HB.out (fun _ => ?_)
                clear hK K
                try simp only [Act.put, List.setIfInBounds_toArray, List.set_cons_zero, List.set_cons_succ]
                refine wpAnyH_ready (rs := [8]) (by kernel_rfl) (by simp) ?_
                refine AllReadyH.cons (o := op11_8) rfl (fun K hK => ?_) AllReadyH.nil
                unfold op11_8
                obtain ⟨⟨e0, e1, e2, e3, e4, e5, e6⟩, f0, f1, f2, f3, f4, f5, f6⟩ := boxF H0.out
                go_simp
                refine boxK (K := K _) H0.out ?_
                intro s0 hX hf
                have HX0 := Aside0.mk (show s0.heap[B0]? = some (.cells (rcL (fewR x) a5 q5 a6 q6) 28 (0, 0)) from hX)
                replace R0 := Aside0.mk (R0.out.fr H0.out hf)
                replace R1 := Aside0.mk (R1.out.fr H0.out hf)
                replace H1 := Aside0.mk (hf.blk H1.out (fun e => HNE.out e.symm))
                replace HB := Aside0.mk (below_step' HB.out (Below.refl _ _) hf (fun k hk => by rw [hk]; exact G0.out))
                clear e0 e1 e2 e3 e4 e5 e6 f0 f1 f2 f3 f4 f5 f6 hX hf
                refine hK.out _ _ HB.out (fun _ => ?_)
                clear hK K
                try simp only [Act.put, List.setIfInBounds_toArray, List.set_cons_zero, List.set_cons_succ]
                refine wpAnyH_ready (rs := [9]) (by kernel_rfl) (by simp) ?_
                refine AllReadyH.cons (o := op11_9) rfl (fun K hK => ?_) AllReadyH.nil
                unfold op11_9
                obtain ⟨⟨e0, e1, e2, e3, e4, e5, e6⟩, f0, f1, f2, f3, f4, f5, f6⟩ := boxF H1.out
                go_simp
                refine boxK (K := K _) H1.out ?_
                intro s1 hX hf
                have HX1 := Aside0.mk (show s1.heap[B1]? = some (.cells (rcL (fewR y) b5 r5 b6 r6) 28 (0, 0)) from hX)
                replace R0 := Aside0.mk (R0.out.fr H1.out hf)
                replace R1 := Aside0.mk (R1.out.fr H1.out hf)
                replace HX0 := Aside0.mk (hf.blk HX0.out (fun e => HNE.out e))
                replace HB := Aside0.mk (below_step' HB.out (Below.refl _ _) hf (fun k hk => by rw [hk]; exact G1.out))
                clear e0 e1 e2 e3 e4 e5 e6 f0 f1 f2 f3 f4 f5 f6 hX hf
                refine hK.out _ _ HB.out (fun _ => ?_)
                clear hK K
                try simp only [Act.put, List.setIfInBounds_toArray, List.set_cons_zero, List.set_cons_succ]
                refine wpAnyH_done (by kernel_rfl) ?_ _
                refine NoPanic.normal ?_
                go_wp2_with fail
                go_meet
                exact ⟨B0, B1, a5, q5, a6, q6, b5, r5, b6, r6, rfl, rfl, HB, ⟨R0.out.at HX0.out⟩, ⟨R1.out.at HX1.out⟩⟩
              exact AllReadyH.nil
            refine AllReadyH.cons (o := op11_6) rfl (fun K hK => ?_) ?_
            · unfold op11_6
              refine box_step (N := 5) (cs := zcL) (t := 28) (by rfl) rfl (by first | (go_simp; done) | (go_simp; rfl)) ?_
              intro B0 hB v2 hbox hb
              have G0 := Aside0.mk (show wb.heap.size ≤ B0 by rw [hB]; exact below_size HB.out)
              have HNE := Aside0.mk (show B0 ≠ B1 from fun e => Nat.ne_of_lt (blk_lt H1.out) (e.symm.trans hB))
              replace HB := Aside0.mk (below_step HB.out hb)
              replace H1 := Aside0.mk (blk_below H1.out hb)
              replace R0 := Aside0.mk (R0.out.below hb)
              have H0 := Aside0.mk hbox
              clear hbox hb hB
              refine hK.out _ _ HB.out (fun _ => ?_)
              clear hK K
              try simp only [Act.put, List.setIfInBounds_toArray, List.set_cons_zero, List.set_cons_succ]
              refine wpAnyH_ready (rs := [5]) (by kernel_rfl) (by simp) ?_
              refine AllReadyH.cons (o := op11_5) rfl (fun K hK => ?_) ?_
              · unfold op11_5
                go_simp
                go_at_call 15
                refine (HF1.out _ HB.out).mono ?_
                rintro e v3 ⟨b5, r5, b6, r6, rfl, hs, hb⟩
                replace HB := Aside0.mk (below_step HB.out hb)
                replace H0 := Aside0.mk (blk_below H0.out hb)
                replace H1 := Aside0.mk (blk_below H1.out hb)
                replace R0 := Aside0.mk (R0.out.below hb)
                have R1 := Aside0.mk hs
                clear hs hb
                refine hK.out _ _ HB.out (fun _ => ?_)
                clear hK K
                try simp only [Act.put, List.setIfInBounds_toArray, List.set_cons_zero, List.set_cons_succ]
                refine wpAnyH_ready (rs := [8]) (by kernel_rfl) (by simp) ?_
                refine AllReadyH.cons (o := op11_8) rfl (fun K hK => ?_) AllReadyH.nil
                unfold op11_8
                obtain ⟨⟨e0, e1, e2, e3, e4, e5, e6⟩, f0, f1, f2, f3, f4, f5, f6⟩ := boxF H0.out
                go_simp
                refine boxK (K := K _) H0.out ?_
                intro s0 hX hf
                have HX0 := Aside0.mk (show s0.heap[B0]? = some (.cells (rcL (fewR x) a5 q5 a6 q6) 28 (0, 0)) from hX)
                replace R0 := Aside0.mk (R0.out.fr H0.out hf)
                replace R1 := Aside0.mk (R1.out.fr H0.out hf)
                replace H1 := Aside0.mk (hf.blk H1.out (fun e => HNE.out e.symm))
                replace HB := Aside0.mk (below_step' HB.out (Below.refl _ _) hf (fun k hk => by rw [hk]; exact G0.out))
                clear e0 e1 e2 e3 e4 e5 e6 f0 f1 f2 f3 f4 f5 f6 hX hf
                refine hK.out _ _ HB.out (fun _ => ?_)
                clear hK K
                try simp only [Act.put, List.setIfInBounds_toArray, List.set_cons_zero, List.set_cons_succ]
                refine wpAnyH_ready (rs := [9]) (by kernel_rfl) (by simp) ?_
                refine AllReadyH.cons (o := op11_9) rfl (fun K hK => ?_) AllReadyH.nil
                unfold op11_9
                obtain ⟨⟨e0, e1, e2, e3, e4, e5, e6⟩, f0, f1, f2, f3, f4, f5, f6⟩ := boxF H1.out
                go_simp
                refine boxK (K := K _) H1.out ?_
                intro s1 hX hf
                have HX1 := Aside0.mk (show s1.heap[B1]? = some (.cells (rcL (fewR y) b5 r5 b6 r6) 28 (0, 0)) from hX)
                replace R0 := Aside0.mk (R0.out.fr H1.out hf)
                replace R1 := Aside0.mk (R1.out.fr H1.out hf)
                replace HX0 := Aside0.mk (hf.blk HX0.out (fun e => HNE.out e))
                replace HB := Aside0.mk (below_step' HB.out (Below.refl _ _) hf (fun k hk => by rw [hk]; exact G1.out))
                clear e0 e1 e2 e3 e4 e5 e6 f0 f1 f2 f3 f4 f5 f6 hX hf
                refine hK.out _ _ HB.out (fun _ => ?_)
                clear hK K
                try simp only [Act.put, List.setIfInBounds_toArray, List.set_cons_zero, List.set_cons_succ]
                refine wpAnyH_done (by kernel_rfl) ?_ _
                refine NoPanic.normal ?_
                go_wp2_with fail
                go_meet
                exact ⟨B0, B1, a5, q5, a6, q6, b5, r5, b6, r6, rfl, rfl, HB, ⟨R0.out.at HX0.out⟩, ⟨R1.out.at HX1.out⟩⟩
              exact AllReadyH.nil
            exact AllReadyH.nil
          exact AllReadyH.nil
        refine AllReadyH.cons (o := op11_6) rfl (fun K hK => ?_) ?_
        · unfold op11_6
          refine box_step (N := 5) (cs := zcL) (t := 28) (by rfl) rfl (by first | (go_simp; done) | (go_simp; rfl)) ?_
          intro B0 hB v0 hbox hb
          have G0 := Aside0.mk (show wb.heap.size ≤ B0 by rw [hB]; exact below_size HB.out)
          replace HB := Aside0.mk (below_step HB.out hb)
          have H0 := Aside0.mk hbox
          clear hbox hb hB
          refine hK.out _ _ HB.out (fun _ => ?_)
          clear hK K
          try simp only [Act.put, List.setIfInBounds_toArray, List.set_cons_zero, List.set_cons_succ]
          refine wpAnyH_ready (rs := [1, 7]) (by kernel_rfl) (by simp) ?_
          refine AllReadyH.cons (o := op11_1) rfl (fun K hK => ?_) ?_
          · unfold op11_1
            go_simp
            go_at_call 15
            refine (HF0.out _ HB.out).mono ?_
            rintro e v1 ⟨a5, q5, a6, q6, rfl, hs, hb⟩
            replace HB := Aside0.mk (below_step HB.out hb)
            replace H0 := Aside0.mk (blk_below H0.out hb)
            have R0 := Aside0.mk hs
            clear hs hb
            refine hK.out _ _ HB.out (fun _ => ?_)
            clear hK K
            try simp only [Act.put, List.setIfInBounds_toArray, List.set_cons_zero, List.set_cons_succ]
            refine wpAnyH_ready (rs := [5, 7]) (by kernel_rfl) (by simp) ?_
            refine AllReadyH.cons (o := op11_5) rfl (fun K hK => ?_) ?_
            · unfold op11_5
              go_simp
              go_at_call 15
              refine (HF1.out _ HB.out).mono ?_
              rintro e v2 ⟨b5, r5, b6, r6, rfl, hs, hb⟩
              replace HB := Aside0.mk (below_step HB.out hb)
              replace H0 := Aside0.mk (blk_below H0.out hb)
              replace R0 := Aside0.mk (R0.out.below hb)
              have R1 := Aside0.mk hs
              clear hs hb
              refine hK.out _ _ HB.out (fun _ => ?_)
              clear hK K
              try simp only [Act.put, List.setIfInBounds_toArray, List.set_cons_zero, List.set_cons_succ]
              refine wpAnyH_ready (rs := [7]) (by kernel_rfl) (by simp) ?_
              refine AllReadyH.cons (o := op11_7) rfl (fun K hK => ?_) ?_
              · unfold op11_7
                refine box_step (N := 6) (cs := zcL) (t := 28) (by rfl) rfl (by first | (go_simp; done) | (go_simp; rfl)) ?_
                intro B1 hB v3 hbox hb
                have G1 := Aside0.mk (show wb.heap.size ≤ B1 by rw [hB]; exact below_size HB.out)
                have HNE := Aside0.mk (show B0 ≠ B1 by rw [hB]; exact Nat.ne_of_lt (blk_lt H0.out))
                replace HB := Aside0.mk (below_step HB.out hb)
                replace H0 := Aside0.mk (blk_below H0.out hb)
                replace R0 := Aside0.mk (R0.out.below hb)
                replace R1 := Aside0.mk (R1.out.below hb)
                have H1 := Aside0.mk hbox
                clear hbox hb hB
                refine hK.out _ _ HB.out (fun _ => ?_)
                clear hK K
                try simp only [Act.put, List.setIfInBounds_toArray, List.set_cons_zero, List.set_cons_succ]
                refine wpAnyH_ready (rs := [8]) (by kernel_rfl) (by simp) ?_
                refine AllReadyH.cons (o := op11_8) rfl (fun K hK => ?_) AllReadyH.nil
                unfold op11_8
                obtain ⟨⟨e0, e1, e2, e3, e4, e5, e6⟩, f0, f1, f2, f3, f4, f5, f6⟩ := boxF H0.out
                go_simp
                refine boxK (K := K _) H0.out ?_
                intro s0 hX hf
                have HX0 := Aside0.mk (show s0.heap[B0]? = some (.cells (rcL (fewR x) a5 q5 a6 q6) 28 (0, 0)) from hX)
                replace R0 := Aside0.mk (R0.out.fr H0.out hf)
                replace R1 := Aside0.mk (R1.out.fr H0.out hf)
                replace H1 := Aside0.mk (hf.blk H1.out (fun e => HNE.out e.symm))
                replace HB := Aside0.mk (below_step' HB.out (Below.refl _ _) hf (fun k hk => by rw [hk]; exact G0.out))
                clear e0 e1 e2 e3 e4 e5 e6 f0 f1 f2 f3 f4 f5 f6 hX hf
                refine hK.out _ _ HB.out (fun _ => ?_)
                clear hK K
                try simp only [Act.put, List.setIfInBounds_toArray, List.set_cons_zero, List.set_cons_succ]
                refine wpAnyH_ready (rs := [9]) (by kernel_rfl) (by simp) ?_
                refine AllReadyH.cons (o := op11_9) rfl (fun K hK => ?_) AllReadyH.nil
                unfold op11_9
                obtain ⟨⟨e0, e1, e2, e3, e4, e5, e6⟩, f0, f1, f2, f3, f4, f5, f6⟩ := boxF H1.out
                go_simp
                refine boxK (K := K _) H1.out ?_
                intro s1 hX hf
                have HX1 := Aside0.mk (show s1.heap[B1]? = some (.cells (rcL (fewR y) b5 r5 b6 r6) 28 (0, 0)) from hX)
                replace R0 := Aside0.mk (R0.out.fr H1.out hf)
                replace R1 := Aside0.mk (R1.out.fr H1.out hf)
                replace HX0 := Aside0.mk (hf.blk HX0.out (fun e => HNE.out e))
                replace HB := Aside0.mk (below_step' HB.out (Below.refl _ _) hf (fun k hk => by rw [hk]; exact G1.out))
                clear e0 e1 e2 e3 e4 e5 e6 f0 f1 f2 f3 f4 f5 f6 hX hf
                refine hK.out _ _ HB.out (fun _ => ?_)
                clear hK K
                try simp only [Act.put, List.setIfInBounds_toArray, List.set_cons_zero, List.set_cons_succ]
                refine wpAnyH_done (by kernel_rfl) ?_ _
                refine NoPanic.normal ?_
                go_wp2_with fail
                go_meet
                exact ⟨B0, B1, a5, q5, a6, q6, b5, r5, b6, r6, rfl, rfl, HB, ⟨R0.out.at HX0.out⟩, ⟨R1.out.at HX1.out⟩⟩
              exact AllReadyH.nil
            refine AllReadyH.cons (o := op11_7) rfl (fun K hK => ?_) ?_
            · unfold op11_7
              refine box_step (N := 6) (cs := zcL) (t := 28) (by rfl) rfl (by first | (go_simp; done) | (go_simp; rfl)) ?_
              intro B1 hB v2 hbox hb
              have G1 := Aside0.mk (show wb.heap.size ≤ B1 by rw [hB]; exact below_size HB.out)
              have HNE := Aside0.mk (show B0 ≠ B1 by rw [hB]; exact Nat.ne_of_lt (blk_lt H0.out))
              replace HB := Aside0.mk (below_step HB.out hb)
              replace H0 := Aside0.mk (blk_below H0.out hb)
              replace R0 := Aside0.mk (R0.out.below hb)
              have H1 := Aside0.mk hbox
              clear hbox hb hB
              refine hK.out _ _ HB.out (fun _ => ?_)
              clear hK K
              try simp only [Act.put, List.setIfInBounds_toArray, List.set_cons_zero, List.set_cons_succ]
              refine wpAnyH_ready (rs := [5]) (by kernel_rfl) (by simp) ?_
              refine AllReadyH.cons (o := op11_5) rfl (fun K hK => ?_) ?_
              · unfold op11_5
                go_simp
                go_at_call 15
                refine (HF1.out _ HB.out).mono ?_
                rintro e v3 ⟨b5, r5, b6, r6, rfl, hs, hb⟩
                replace HB := Aside0.mk (below_step HB.out hb)
                replace H0 := Aside0.mk (blk_below H0.out hb)
                replace H1 := Aside0.mk (blk_below H1.out hb)
                replace R0 := Aside0.mk (R0.out.below hb)
                have R1 := Aside0.mk hs
                clear hs hb
                refine hK.out _ _ HB.out (fun _ => ?_)
                clear hK K
                try simp only [Act.put, List.setIfInBounds_toArray, List.set_cons_zero, List.set_cons_succ]
                refine wpAnyH_ready (rs := [8]) (by kernel_rfl) (by simp) ?_
                refine AllReadyH.cons (o := op11_8) rfl (fun K hK => ?_) AllReadyH.nil
                unfold op11_8
                obtain ⟨⟨e0, e1, e2, e3, e4, e5, e6⟩, f0, f1, f2, f3, f4, f5, f6⟩ := boxF H0.out
                go_simp
                refine boxK (K := K _) H0.out ?_
                intro s0 hX hf
                have HX0 := Aside0.mk (show s0.heap[B0]? = some (.cells (rcL (fewR x) a5 q5 a6 q6) 28 (0, 0)) from hX)
                replace R0 := Aside0.mk (R0.out.fr H0.out hf)
                replace R1 := Aside0.mk (R1.out.fr H0.out hf)
                replace H1 := Aside0.mk (hf.blk H1.out (fun e => HNE.out e.symm))
                replace HB := Aside0.mk (below_step' HB.out (Below.refl _ _) hf (fun k hk => by rw [hk]; exact G0.out))
                clear e0 e1 e2 e3 e4 e5 e6 f0 f1 f2 f3 f4 f5 f6 hX hf
                refine hK.out _ _ HB.out (fun _ => ?_)
                clear hK K
                try simp only [Act.put, List.setIfInBounds_toArray, List.set_cons_zero, List.set_cons_succ]
                refine wpAnyH_ready (rs := [9]) (by kernel_rfl) (by simp) ?_
                refine AllReadyH.cons (o := op11_9) rfl (fun K hK => ?_) AllReadyH.nil
                unfold op11_9
                obtain ⟨⟨e0, e1, e2, e3, e4, e5, e6⟩, f0, f1, f2, f3, f4, f5, f6⟩ := boxF H1.out
                go_simp
                refine boxK (K := K _) H1.out ?_
                intro s1 hX hf
                have HX1 := Aside0.mk (show s1.heap[B1]? = some (.cells (rcL (fewR y) b5 r5 b6 r6) 28 (0, 0)) from hX)
                replace R0 := Aside0.mk (R0.out.fr H1.out hf)
                replace R1 := Aside0.mk (R1.out.fr H1.out hf)
                replace HX0 := Aside0.mk (hf.blk HX0.out (fun e => HNE.out e))
                replace HB := Aside0.mk (below_step' HB.out (Below.refl _ _) hf (fun k hk => by rw [hk]; exact G1.out))
                clear e0 e1 e2 e3 e4 e5 e6 f0 f1 f2 f3 f4 f5 f6 hX hf
                refine hK.out _ _ HB.out (fun _ => ?_)
                clear hK K
                try simp only [Act.put, List.setIfInBounds_toArray, List.set_cons_zero, List.set_cons_succ]
                refine wpAnyH_done (by kernel_rfl) ?_ _
                refine NoPanic.normal ?_
                go_wp2_with fail
                go_meet
                exact ⟨B0, B1, a5, q5, a6, q6, b5, r5, b6, r6, rfl, rfl, HB, ⟨R0.out.at HX0.out⟩, ⟨R1.out.at HX1.out⟩⟩
              exact AllReadyH.nil
            exact AllReadyH.nil
          refine AllReadyH.cons (o := op11_7) rfl (fun K hK => ?_) ?_
          · unfold op11_7
            refine box_step (N := 6) (cs := zcL) (t := 28) (by rfl) rfl (by first | (go_simp; done) | (go_simp; rfl)) ?_
            intro B1 hB v1 hbox hb
            have G1 := Aside0.mk (show wb.heap.size ≤ B1 by rw [hB]; exact below_size HB.out)
            have HNE := Aside0.mk (show B0 ≠ B1 by rw [hB]; exact Nat.ne_of_lt (blk_lt H0.out))
            replace HB := Aside0.mk (below_step HB.out hb)
            replace H0 := Aside0.mk (blk_below H0.out hb)
            have H1 := Aside0.mk hbox
            clear hbox hb hB
            refine hK.out _ _ HB.out (fun _ => ?_)
            clear hK K
            try simp only [Act.put, List.setIfInBounds_toArray, List.set_cons_zero, List.set_cons_succ]
            refine wpAnyH_ready (rs := [1]) (by kernel_rfl) (by simp) ?_
            refine AllReadyH.cons (o := op11_1) rfl (fun K hK => ?_) ?_
            · unfold op11_1
              go_simp
              go_at_call 15
              refine (HF0.out _ HB.out).mono ?_
              rintro e v2 ⟨a5, q5, a6, q6, rfl, hs, hb⟩
              replace HB := Aside0.mk (below_step HB.out hb)
              replace H0 := Aside0.mk (blk_below H0.out hb)
              replace H1 := Aside0.mk (blk_below H1.out hb)
              have R0 := Aside0.mk hs
              clear hs hb
              refine hK.out _ _ HB.out (fun _ => ?_)
              clear hK K
              try simp only [Act.put, List.setIfInBounds_toArray, List.set_cons_zero, List.set_cons_succ]
              refine wpAnyH_ready (rs := [5]) (by kernel_rfl) (by simp) ?_
              refine AllReadyH.cons (o := op11_5) rfl (fun K hK => ?_) ?_
              · unfold op11_5
                go_simp
                go_at_call 15
                refine (HF1.out _ HB.out).mono ?_
                rintro e v3 ⟨b5, r5, b6, r6, rfl, hs, hb⟩
                replace HB := Aside0.mk (below_step HB.out hb)
                replace H0 := Aside0.mk (blk_below H0.out hb)
                replace H1 := Aside0.mk (blk_below H1.out hb)
                replace R0 := Aside0.mk (R0.out.below hb)
                have R1 := Aside0.mk hs
                clear hs hb
                refine hK.out _ _ HB.out (fun _ => ?_)
                clear hK K
                try simp only [Act.put, List.setIfInBounds_toArray, List.set_cons_zero, List.set_cons_succ]
                refine wpAnyH_ready (rs := [8]) (by kernel_rfl) (by simp) ?_
                refine AllReadyH.cons (o := op11_8) rfl (fun K hK => ?_) AllReadyH.nil
                unfold op11_8
                obtain ⟨⟨e0, e1, e2, e3, e4, e5, e6⟩, f0, f1, f2, f3, f4, f5, f6⟩ := boxF H0.out
                go_simp
                refine boxK (K := K _) H0.out ?_
                intro s0 hX hf
                have HX0 := Aside0.mk (show s0.heap[B0]? = some (.cells (rcL (fewR x) a5 q5 a6 q6) 28 (0, 0)) from hX)
                replace R0 := Aside0.mk (R0.out.fr H0.out hf)
                replace R1 := Aside0.mk (R1.out.fr H0.out hf)
                replace H1 := Aside0.mk (hf.blk H1.out (fun e => HNE.out e.symm))
                replace HB := Aside0.mk (below_step' HB.out (Below.refl _ _) hf (fun k hk => by rw [hk]; exact G0.out))
                clear e0 e1 e2 e3 e4 e5 e6 f0 f1 f2 f3 f4 f5 f6 hX hf
                refine hK.out _ _ HB.out (fun _ => ?_)
                clear hK K
                try simp only [Act.put, List.setIfInBounds_toArray, List.set_cons_zero, List.set_cons_succ]
                refine wpAnyH_ready (rs := [9]) (by kernel_rfl) (by simp) ?_
                refine AllReadyH.cons (o := op11_9) rfl (fun K hK => ?_) AllReadyH.nil
                unfold op11_9
                obtain ⟨⟨e0, e1, e2, e3, e4, e5, e6⟩, f0, f1, f2, f3, f4, f5, f6⟩ := boxF H1.out
                go_simp
                refine boxK (K := K _) H1.out ?_
                intro s1 hX hf
                have HX1 := Aside0.mk (show s1.heap[B1]? = some (.cells (rcL (fewR y) b5 r5 b6 r6) 28 (0, 0)) from hX)
                replace R0 := Aside0.mk (R0.out.fr H1.out hf)
                replace R1 := Aside0.mk (R1.out.fr H1.out hf)
                replace HX0 := Aside0.mk (hf.blk HX0.out (fun e => HNE.out e))
                replace HB := Aside0.mk (below_step' HB.out (Below.refl _ _) hf (fun k hk => by rw [hk]; exact G1.out))
                clear e0 e1 e2 e3 e4 e5 e6 f0 f1 f2 f3 f4 f5 f6 hX hf
                refine hK.out _ _ HB.out (fun _ => ?_)
                clear hK K
                try simp only [Act.put, List.setIfInBounds_toArray, List.set_cons_zero, List.set_cons_succ]
                refine wpAnyH_done (by kernel_rfl) ?_ _
                refine NoPanic.normal ?_
                go_wp2_with fail
                go_meet
                exact ⟨B0, B1, a5, q5, a6, q6, b5, r5, b6, r6, rfl, rfl, HB, ⟨R0.out.at HX0.out⟩, ⟨R1.out.at HX1.out⟩⟩
              exact AllReadyH.nil
            exact AllReadyH.nil
          exact AllReadyH.nil
        refine AllReadyH.cons (o := op11_7) rfl (fun K hK => ?_) ?_
        · unfold op11_7
          refine box_step (N := 6) (cs := zcL) (t := 28) (by rfl) rfl (by first | (go_simp; done) | (go_simp; rfl)) ?_
          intro B1 hB v0 hbox hb
          have G1 := Aside0.mk (show wb.heap.size ≤ B1 by rw [hB]; exact below_size HB.out)
          replace HB := Aside0.mk (below_step HB.out hb)
          have H1 := Aside0.mk hbox
          clear hbox hb hB
          refine hK.out _ _ HB.out (fun _ => ?_)
          clear hK K
          try simp only [Act.put, List.setIfInBounds_toArray, List.set_cons_zero, List.set_cons_succ]
          refine wpAnyH_ready (rs := [1, 6]) (by kernel_rfl) (by simp) ?_
          refine AllReadyH.cons (o := op11_1) rfl (fun K hK => ?_) ?_
          · unfold op11_1
            go_simp
            go_at_call 15
            refine (HF0.out _ HB.out).mono ?_
            rintro e v1 ⟨a5, q5, a6, q6, rfl, hs, hb⟩
            replace HB := Aside0.mk (below_step HB.out hb)
            replace H1 := Aside0.mk (blk_below H1.out hb)
            have R0 := Aside0.mk hs
            clear hs hb
            refine hK.out _ _ HB.out (fun _ => ?_)
            clear hK K
            try simp only [Act.put, List.setIfInBounds_toArray, List.set_cons_zero, List.set_cons_succ]
            refine wpAnyH_ready (rs := [5, 6]) (by kernel_rfl) (by simp) ?_
            refine AllReadyH.cons (o := op11_5) rfl (fun K hK => ?_) ?_
            · unfold op11_5
              go_simp
              go_at_call 15
              refine (HF1.out _ HB.out).mono ?_
              rintro e v2 ⟨b5, r5, b6, r6, rfl, hs, hb⟩
              replace HB := Aside0.mk (below_step HB.out hb)
              replace H1 := Aside0.mk (blk_below H1.out hb)
              replace R0 := Aside0.mk (R0.out.below hb)
              have R1 := Aside0.mk hs
              clear hs hb
              refine hK.out _ _ HB.out (fun _ => ?_)
              clear hK K
              try simp only [Act.put, List.setIfInBounds_toArray, List.set_cons_zero, List.set_cons_succ]
              refine wpAnyH_ready (rs := [6]) (by kernel_rfl) (by simp) ?_
              refine AllReadyH.cons (o := op11_6) rfl (fun K hK => ?_) ?_
              · unfold op11_6
                refine box_step (N := 5) (cs := zcL) (t := 28) (by rfl) rfl (by first | (go_simp; done) | (go_simp; rfl)) ?_
                intro B0 hB v3 hbox hb
                have G0 := Aside0.mk (show wb.heap.size ≤ B0 by rw [hB]; exact below_size HB.out)
                have HNE := Aside0.mk (show B0 ≠ B1 from fun e => Nat.ne_of_lt (blk_lt H1.out) (e.symm.trans hB))
                replace HB := Aside0.mk (below_step HB.out hb)
                replace H1 := Aside0.mk (blk_below H1.out hb)
                replace R0 := Aside0.mk (R0.out.below hb)
                replace R1 := Aside0.mk (R1.out.below hb)
                have H0 := Aside0.mk hbox
                clear hbox hb hB
                refine hK.out _ _ HB.out (fun _ => ?_)
                clear hK K
                try simp only [Act.put, List.setIfInBounds_toArray, List.set_cons_zero, List.set_cons_succ]
                refine wpAnyH_ready (rs := [8]) (by kernel_rfl) (by simp) ?_
                refine AllReadyH.cons (o := op11_8) rfl (fun K hK => ?_) AllReadyH.nil
                unfold op11_8
                obtain ⟨⟨e0, e1, e2, e3, e4, e5, e6⟩, f0, f1, f2, f3, f4, f5, f6⟩ := boxF H0.out
                go_simp
                refine boxK (K := K _) H0.out ?_
                intro s0 hX hf
                have HX0 := Aside0.mk (show s0.heap[B0]? = some (.cells (rcL (fewR x) a5 q5 a6 q6) 28 (0, 0)) from hX)
                replace R0 := Aside0.mk (R0.out.fr H0.out hf)
                replace R1 := Aside0.mk (R1.out.fr H0.out hf)
                replace H1 := Aside0.mk (hf.blk H1.out (fun e => HNE.out e.symm))
                replace HB := Aside0.mk (below_step' HB.out (Below.refl _ _) hf (fun k hk => by rw [hk]; exact G0.out))
                clear e0 e1 e2 e3 e4 e5 e6 f0 f1 f2 f3 f4 f5 f6 hX hf
                refine hK.out _ _ HB.out (fun _ => ?_)
                clear hK K
                try simp only [Act.put, List.setIfInBounds_toArray, List.set_cons_zero, List.set_cons_succ]
                refine wpAnyH_ready (rs := [9]) (by kernel_rfl) (by simp) ?_
                refine AllReadyH.cons (o := op11_9) rfl (fun K hK => ?_) AllReadyH.nil
                unfold op11_9
                obtain ⟨⟨e0, e1, e2, e3, e4, e5, e6⟩, f0, f1, f2, f3, f4, f5, f6⟩ := boxF H1.out
                go_simp
                refine boxK (K := K _) H1.out ?_
                intro s1 hX hf
                have HX1 := Aside0.mk (show s1.heap[B1]? = some (.cells (rcL (fewR y) b5 r5 b6 r6) 28 (0, 0)) from hX)
                replace R0 := Aside0.mk (R0.out.fr H1.out hf)
                replace R1 := Aside0.mk (R1.out.fr H1.out hf)
                replace HX0 := Aside0.mk (hf.blk HX0.out (fun e => HNE.out e))
                replace HB := Aside0.mk (below_step' HB.out (Below.refl _ _) hf (fun k hk => by rw [hk]; exact G1.out))
                clear e0 e1 e2 e3 e4 e5 e6 f0 f1 f2 f3 f4 f5 f6 hX hf
                refine hK.out _ _ HB.out (fun _ => ?_)
                clear hK K
                try simp only [Act.put, List.setIfInBounds_toArray, List.set_cons_zero, List.set_cons_succ]
                refine wpAnyH_done (by kernel_rfl) ?_ _
                refine NoPanic.normal ?_
                go_wp2_with fail
                go_meet
                exact ⟨B0, B1, a5, q5, a6, q6, b5, r5, b6, r6, rfl, rfl, HB, ⟨R0.out.at HX0.out⟩, ⟨R1.out.at HX1.out⟩⟩
              exact AllReadyH.nil
            refine AllReadyH.cons (o := op11_6) rfl (fun K hK => ?_) ?_
            · unfold op11_6
              refine box_step (N := 5) (cs := zcL) (t := 28) (by rfl) rfl (by first | (go_simp; done) | (go_simp; rfl)) ?_
              intro B0 hB v2 hbox hb
              have G0 := Aside0.mk (show wb.heap.size ≤ B0 by rw [hB]; exact below_size HB.out)
              have HNE := Aside0.mk (show B0 ≠ B1 from fun e => Nat.ne_of_lt (blk_lt H1.out) (e.symm.trans hB))
              replace HB := Aside0.mk (below_step HB.out hb)
              replace H1 := Aside0.mk (blk_below H1.out hb)
              replace R0 := Aside0.mk (R0.out.below hb)
              have H0 := Aside0.mk hbox
              clear hbox hb hB
              refine hK.out _ _ HB.out (fun _ => ?_)
              clear hK K
              try simp only [Act.put, List.setIfInBounds_toArray, List.set_cons_zero, List.set_cons_succ]
              refine wpAnyH_ready (rs := [5]) (by kernel_rfl) (by simp) ?_
              refine AllReadyH.cons (o := op11_5) rfl (fun K hK => ?_) ?_
              · unfold op11_5
                go_simp
                go_at_call 15
                refine (HF1.out _ HB.out).mono ?_
                rintro e v3 ⟨b5, r5, b6, r6, rfl, hs, hb⟩
                replace HB := Aside0.mk (below_step HB.out hb)
                replace H0 := Aside0.mk (blk_below H0.out hb)
                replace H1 := Aside0.mk (blk_below H1.out hb)
                replace R0 := Aside0.mk (R0.out.below hb)
                have R1 := Aside0.mk hs
                clear hs hb
                refine hK.out _ _ HB.out (fun _ => ?_)
                clear hK K
                try simp only [Act.put, List.setIfInBounds_toArray, List.set_cons_zero, List.set_cons_succ]
                refine wpAnyH_ready (rs := [8]) (by kernel_rfl) (by simp) ?_
                refine AllReadyH.cons (o := op11_8) rfl (fun K hK => ?_) AllReadyH.nil
                unfold op11_8
                obtain ⟨⟨e0, e1, e2, e3, e4, e5, e6⟩, f0, f1, f2, f3, f4, f5, f6⟩ := boxF H0.out
                go_simp
                refine boxK (K := K _) H0.out ?_
                intro s0 hX hf
                have HX0 := Aside0.mk (show s0.heap[B0]? = some (.cells (rcL (fewR x) a5 q5 a6 q6) 28 (0, 0)) from hX)
                replace R0 := Aside0.mk (R0.out.fr H0.out hf)
                replace R1 := Aside0.mk (R1.out.fr H0.out hf)
                replace H1 := Aside0.mk (hf.blk H1.out (fun e => HNE.out e.symm))
                replace HB := Aside0.mk (below_step' HB.out (Below.refl _ _) hf (fun k hk => by rw [hk]; exact G0.out))
                clear e0 e1 e2 e3 e4 e5 e6 f0 f1 f2 f3 f4 f5 f6 hX hf
                refine hK.out _ _ HB.out (fun _ => ?_)
                clear hK K
                try simp only [Act.put, List.setIfInBounds_toArray, List.set_cons_zero, List.set_cons_succ]
                refine wpAnyH_ready (rs := [9]) (by kernel_rfl) (by simp) ?_
                refine AllReadyH.cons (o := op11_9) rfl (fun K hK => ?_) AllReadyH.nil
                unfold op11_9
                obtain ⟨⟨e0, e1, e2, e3, e4, e5, e6⟩, f0, f1, f2, f3, f4, f5, f6⟩ := boxF H1.out
                go_simp
                refine boxK (K := K _) H1.out ?_
                intro s1 hX hf
                have HX1 := Aside0.mk (show s1.heap[B1]? = some (.cells (rcL (fewR y) b5 r5 b6 r6) 28 (0, 0)) from hX)
                replace R0 := Aside0.mk (R0.out.fr H1.out hf)
                replace R1 := Aside0.mk (R1.out.fr H1.out hf)
                replace HX0 := Aside0.mk (hf.blk HX0.out (fun e => HNE.out e))
                replace HB := Aside0.mk (below_step' HB.out (Below.refl _ _) hf (fun k hk => by rw [hk]; exact G1.out))
                clear e0 e1 e2 e3 e4 e5 e6 f0 f1 f2 f3 f4 f5 f6 hX hf
                refine hK.out _ _ HB.out (fun _ => ?_)
                clear hK K
                try simp only [Act.put, List.setIfInBounds_toArray, List.set_cons_zero, List.set_cons_succ]
                refine wpAnyH_done (by kernel_rfl) ?_ _
                refine NoPanic.normal ?_
                go_wp2_with fail
                go_meet
                exact ⟨B0, B1, a5, q5, a6, q6, b5, r5, b6, r6, rfl, rfl, HB, ⟨R0.out.at HX0.out⟩, ⟨R1.out.at HX1.out⟩⟩
              exact AllReadyH.nil
            exact AllReadyH.nil
          refine AllReadyH.cons (o := op11_6) rfl (fun K hK => ?_) ?_
          · unfold op11_6
            refine box_step (N := 5) (cs := zcL) (t := 28) (by rfl) rfl (by first | (go_simp; done) | (go_simp; rfl)) ?_
            intro B0 hB v1 hbox hb
            have G0 := Aside0.mk (show wb.heap.size ≤ B0 by rw [hB]; exact below_size HB.out)
            have HNE := Aside0.mk (show B0 ≠ B1 from fun e => Nat.ne_of_lt (blk_lt H1.out) (e.symm.trans hB))
            replace HB := Aside0.mk (below_step HB.out hb)
            replace H1 := Aside0.mk (blk_below H1.out hb)
            have H0 := Aside0.mk hbox
            clear hbox hb hB
            refine hK.out _ _ HB.out (fun _ => ?_)
            clear hK K
            try simp only [Act.put, List.setIfInBounds_toArray, List.set_cons_zero, List.set_cons_succ]
            refine wpAnyH_ready (rs := [1]) (by kernel_rfl) (by simp) ?_
            refine AllReadyH.cons (o := op11_1) rfl (fun K hK => ?_) ?_
            · unfold op11_1
              go_simp
              go_at_call 15
              refine (HF0.out _ HB.out).mono ?_
              rintro e v2 ⟨a5, q5, a6, q6, rfl, hs, hb⟩
              replace HB := Aside0.mk (below_step HB.out hb)
              replace H0 := Aside0.mk (blk_below H0.out hb)
              replace H1 := Aside0.mk (blk_below H1.out hb)
              have R0 := Aside0.mk hs
              clear hs hb
              refine hK.out _ _ HB.out (fun _ => ?_)
              clear hK K
              try simp only [Act.put, List.setIfInBounds_toArray, List.set_cons_zero, List.set_cons_succ]
              refine wpAnyH_ready (rs := [5]) (by kernel_rfl) (by simp) ?_
              refine AllReadyH.cons (o := op11_5) rfl (fun K hK => ?_) ?_
              · unfold op11_5
                go_simp
                go_at_call 15
                refine (HF1.out _ HB.out).mono ?_
                rintro e v3 ⟨b5, r5, b6, r6, rfl, hs, hb⟩
                replace HB := Aside0.mk (below_step HB.out hb)
                replace H0 := Aside0.mk (blk_below H0.out hb)
                replace H1 := Aside0.mk (blk_below H1.out hb)
                replace R0 := Aside0.mk (R0.out.below hb)
                have R1 := Aside0.mk hs
                clear hs hb
                refine hK.out _ _ HB.out (fun _ => ?_)
                clear hK K
                try simp only [Act.put, List.setIfInBounds_toArray, List.set_cons_zero, List.set_cons_succ]
                refine wpAnyH_ready (rs := [8]) (by kernel_rfl) (by simp) ?_
                refine AllReadyH.cons (o := op11_8) rfl (fun K hK => ?_) AllReadyH.nil
                unfold op11_8
                obtain ⟨⟨e0, e1, e2, e3, e4, e5, e6⟩, f0, f1, f2, f3, f4, f5, f6⟩ := boxF H0.out
                go_simp
                refine boxK (K := K _) H0.out ?_
                intro s0 hX hf
                have HX0 := Aside0.mk (show s0.heap[B0]? = some (.cells (rcL (fewR x) a5 q5 a6 q6) 28 (0, 0)) from hX)
                replace R0 := Aside0.mk (R0.out.fr H0.out hf)
                replace R1 := Aside0.mk (R1.out.fr H0.out hf)
                replace H1 := Aside0.mk (hf.blk H1.out (fun e => HNE.out e.symm))
                replace HB := Aside0.mk (below_step' HB.out (Below.refl _ _) hf (fun k hk => by rw [hk]; exact G0.out))
                clear e0 e1 e2 e3 e4 e5 e6 f0 f1 f2 f3 f4 f5 f6 hX hf
                refine hK.out _ _ HB.out (fun _ => ?_)
                clear hK K
                try simp only [Act.put, List.setIfInBounds_toArray, List.set_cons_zero, List.set_cons_succ]
                refine wpAnyH_ready (rs := [9]) (by kernel_rfl) (by simp) ?_
                refine AllReadyH.cons (o := op11_9) rfl (fun K hK => ?_) AllReadyH.nil
                unfold op11_9
                obtain ⟨⟨e0, e1, e2, e3, e4, e5, e6⟩, f0, f1, f2, f3, f4, f5, f6⟩ := boxF H1.out
                go_simp
                refine boxK (K := K _) H1.out ?_
                intro s1 hX hf
                have HX1 := Aside0.mk (show s1.heap[B1]? = some (.cells (rcL (fewR y) b5 r5 b6 r6) 28 (0, 0)) from hX)
                replace R0 := Aside0.mk (R0.out.fr H1.out hf)
                replace R1 := Aside0.mk (R1.out.fr H1.out hf)
                replace HX0 := Aside0.mk (hf.blk HX0.out (fun e => HNE.out e))
                replace HB := Aside0.mk (below_step' HB.out (Below.refl _ _) hf (fun k hk => by rw [hk]; exact G1.out))
                clear e0 e1 e2 e3 e4 e5 e6 f0 f1 f2 f3 f4 f5 f6 hX hf
                refine hK.out _ _ HB.out (fun _ => ?_)
                clear hK K
                try simp only [Act.put, List.setIfInBounds_toArray, List.set_cons_zero, List.set_cons_succ]
                refine wpAnyH_done (by kernel_rfl) ?_ _
                refine NoPanic.normal ?_
                go_wp2_with fail
                go_meet
                exact ⟨B0, B1, a5, q5, a6, q6, b5, r5, b6, r6, rfl, rfl, HB, ⟨R0.out.at HX0.out⟩, ⟨R1.out.at HX1.out⟩⟩
              exact AllReadyH.nil
            exact AllReadyH.nil
          exact AllReadyH.nil
        exact AllReadyH.nil
      case rest =>
      obtain ⟨B5, B6, a5, q5, a6, q6, b5, r5, b6, r6, rfl, rfl, HBc, HR5, HR6⟩ := hcut
      obtain ⟨wz, rfl⟩ : ∃ wz, wz = wc := ⟨_, rfl⟩
      have HP4 := Aside0.mk (blk_below HX.out HBc.out)
      have HBW := Aside0.mk (below_step HBb.out HBc.out)
      have HFW0 := Aside0.mk (fun (W' : World) (h : Below wz.heap.size wz W') => HF0.out W' (below_step HBc.out h))
      clear x0 x1 x2 x3 x4 x5 x6 y0 y1 y2 y3 y4 y5 y6 HF0 HF1 HC5 HC6 HX HBc HBb hc5 hc6 hd5 hd6
      have HVX := HV
      generalize hXX : fewR x = X at *
      generalize fewR y = Y at *
      have HXX := Aside0.mk hXX
      clear hXX HV
      obtain ⟨rt, hrt⟩ : ∃ rt, rt = recOk X := ⟨_, rfl⟩
      obtain ⟨nn, hnn⟩ : ∃ nn : Int, nn = (if recOk X = true then 0 else 340) := ⟨_, rfl⟩
      obtain ⟨s, hs⟩ : ∃ s, s = sameR X Y := ⟨_, rfl⟩
      have HRT := Aside0.mk (refRight X a5 q5 a6 q6 wz HR5.out.2.1.1 HR5.out.2.2.1 HR5.out.2.2.2)
      rw [← hrt] at HRT
      have HCK := Aside0.mk (fun (W' : World) (h : Below wz.heap.size wz W') => show Calls Try.prog 50 #[.agg (rcL X a5 q5 a6 q6)] W' fun e w' => e = .returned (.int .i64 nn) ∧ Below W'.heap.size W' w' by rw [hnn]; exact recCheck X.f0 X.f1 X.f2 X.f3 X.f4 X.f5 X.f6 a5 q5 a6 q6 W' (Kd.C_below HR5.out.2.1.1 h) HR5.out.2.1.2 (Kd.C_below HR5.out.2.2.1 h))
      have HNN := Aside0.mk (show nn = (if rt = true then 0 else 340) by rw [hnn, hrt])
      have HRTT := Aside0.mk hrt
      have HSS := Aside0.mk hs
      clear hrt hnn hs
      obtain ⟨m0, m1, m2, m3, m4, m5, m6⟩ := rcF HR5.out.1
      go_upto_region 9 with (go_at_call 49; refine HRT.out.mono ?_; rintro e wa ⟨rfl, hb⟩; have HBa := Aside0.mk hb; clear m0 m1 m2 m3 m4 m5 m6; obtain ⟨m0, m1, m2, m3, m4, m5, m6⟩ := rcF (blk_below HR5.out.1 hb); clear hb)
      clear HRT
      go_upto_region 10 with (go_at_call 50; refine (HCK.out _ HBa.out).mono ?_; rintro e wd ⟨rfl, hb⟩; have HBd := Aside0.mk (below_step HBa.out hb); clear hb)
      clear HCK m0 m1 m2 m3 m4 m5 m6
      have HP5 := Aside0.mk (HR5.out.below HBd.out)
      have HP6 := Aside0.mk (HR6.out.below HBd.out)
      replace HP4 := Aside0.mk (blk_below HP4.out HBd.out)
      have HFW := Aside0.mk (fun (W' : World) (h : Below wd.heap.size wd W') => HFW0.out W' (below_step HBd.out h))
      have HBWd := Aside0.mk (below_step HBW.out HBd.out)
      clear HR5 HR6 HFW0 HBW HBa
      have HSA := Aside0.mk (fun (W' : World) (h : Below wd.heap.size wd W') => show Calls Try.prog 19 #[.agg (rcL X a5 q5 a6 q6), .agg (rcL Y b5 r5 b6 r6)] W' fun e w' => e = .returned (.bool s) ∧ Below W'.heap.size W' w' by rw [HSS.out]; exact record_Same.calls X Y a5 q5 a6 q6 b5 r5 b6 r6 W' (Kd.C_below HP5.out.2.1.1 h) (Kd.C_below HP5.out.2.2.1 h) (Kd.C_below HP6.out.2.1.1 h) (Kd.C_below HP6.out.2.2.1 h))
      have HSB := Aside0.mk (fun (W' : World) (h : Below wd.heap.size wd W') => show Calls Try.prog 48 #[.agg (rcL X a5 q5 a6 q6), .agg (rcL Y b5 r5 b6 r6)] W' fun e w' => e = .returned (.bool s) ∧ Below W'.heap.size W' w' by rw [HSS.out]; exact refRS X Y a5 q5 a6 q6 b5 r5 b6 r6 W' (Kd.C_below HP5.out.2.1.1 h) (Kd.C_below HP5.out.2.2.1 h) (Kd.C_below HP6.out.2.1.1 h) (Kd.C_below HP6.out.2.2.1 h))
      have HSC := Aside0.mk (fun (W' : World) (h : Below wd.heap.size wd W') (z5 : Option Addr) (t5 : Nat) (z6 : Option Addr) (t6 : Nat) (b : Nat) (hR : RowsS W' X z5 t5 z6 t6 b) => show Calls Try.prog 19 #[.agg (rcL X a5 q5 a6 q6), .agg (rcL X z5 t5 z6 t6)] W' fun e w' => e = .returned (.bool true) ∧ Below W'.heap.size W' w' by
        have := record_Same.calls X X a5 q5 a6 q6 z5 t5 z6 t6 W' (Kd.C_below HP5.out.2.1.1 h) (Kd.C_below HP5.out.2.2.1 h) (Kd.N_reads' (Kd.S_N hR.1)).2.2 (Kd.N_reads' (Kd.S_N hR.2)).2.2
        rwa [sameR_self] at this)
      have HSD := Aside0.mk (fun (W' : World) (h : Below wd.heap.size wd W') (z5 : Option Addr) (t5 : Nat) (z6 : Option Addr) (t6 : Nat) (b : Nat) (hR : RowsS W' X z5 t5 z6 t6 b) => show Calls Try.prog 48 #[.agg (rcL X a5 q5 a6 q6), .agg (rcL X z5 t5 z6 t6)] W' fun e w' => e = .returned (.bool true) ∧ Below W'.heap.size W' w' by
        have := refRS X X a5 q5 a6 q6 z5 t5 z6 t6 W' (Kd.C_below HP5.out.2.1.1 h) (Kd.C_below HP5.out.2.2.1 h) (Kd.N_reads' (Kd.S_N hR.1)).2.2 (Kd.N_reads' (Kd.S_N hR.2)).2.2
        rwa [sameR_self] at this)
      go_cut [59] (fun v59 wc => v59 = .bool false ∧ Aside0 (Below wd.heap.size wd wc))
      case first =>
        clear HVX HXX HRTT HSS
        cases rt with
        | true =>
          have hn := HNN.out
          rw [if_pos rfl] at hn
          subst hn
          clear HNN
          cases s with
          | false =>
            refine start_ (n := 28) (S := fun w' => Below wd.heap.size wd w') (ds := []) #[false, false, false, false, false, false, false, false, false, false, false, false, false, false, false, false, false, false, false, false, false, false, false, false, false, false, false, false] (by kernel_rfl) rfl rfl ((below_drew1 (Below.refl _ _))) (fun hHeld => ?_)
            refine pure_ (i := 0) (N := some 32) (v := ?_) (a' := ?_) #[true, false, false, false, false, false, false, false, false, false, false, false, false, false, false, false, false, false, false, false, false, false, false, false, false, false, false, false] rfl rfl (by kernel_rfl) (fun _ _ _ h => h) (Or.inl ⟨by rfl, ?_⟩) ?_ ?_
            rotate_left
            · intro w'
              go_simp
              with_reducible rfl
            rotate_left
            · simp only [Act.put, List.setIfInBounds_toArray, List.set_cons_zero, List.set_cons_succ, i64_w, i32_w]
              rfl
            refine pure_ (i := 1) (N := some 33) (v := ?_) (a' := ?_) #[true, true, false, false, false, false, false, false, false, false, false, false, false, false, false, false, false, false, false, false, false, false, false, false, false, false, false, false] rfl rfl (by kernel_rfl) (fun _ _ _ h => h) (Or.inl ⟨by rfl, ?_⟩) ?_ ?_
            rotate_left
            · intro w'
              go_simp
              with_reducible rfl
            rotate_left
            · simp only [Act.put, List.setIfInBounds_toArray, List.set_cons_zero, List.set_cons_succ, i64_w, i32_w]
              rfl
            refine pure_ (i := 2) (N := some 34) (v := ?_) (a' := ?_) #[true, true, true, false, false, false, false, false, false, false, false, false, false, false, false, false, false, false, false, false, false, false, false, false, false, false, false, false] rfl rfl (by kernel_rfl) (fun _ _ _ h => h) (Or.inl ⟨by rfl, ?_⟩) ?_ ?_
            rotate_left
            · intro w'
              go_simp
              with_reducible rfl
            rotate_left
            · simp only [Act.put, List.setIfInBounds_toArray, List.set_cons_zero, List.set_cons_succ, i64_w, i32_w]
              rfl
            refine pure_ (i := 3) (N := some 35) (v := ?_) (a' := ?_) #[true, true, true, true, false, false, false, false, false, false, false, false, false, false, false, false, false, false, false, false, false, false, false, false, false, false, false, false] rfl rfl (by kernel_rfl) (fun _ _ _ h => h) (Or.inl ⟨by rfl, ?_⟩) ?_ ?_
            rotate_left
            · intro w'
              go_simp
              with_reducible rfl
            rotate_left
            · simp only [Act.put, List.setIfInBounds_toArray, List.set_cons_zero, List.set_cons_succ, i64_w, i32_w]
              rfl
            refine pure_ (i := 4) (N := some 36) (v := ?_) (a' := ?_) #[true, true, true, true, true, false, false, false, false, false, false, false, false, false, false, false, false, false, false, false, false, false, false, false, false, false, false, false] rfl rfl (by kernel_rfl) (fun _ _ _ h => h) (Or.inl ⟨by rfl, ?_⟩) ?_ ?_
            rotate_left
            · intro w'
              go_simp
              with_reducible rfl
            rotate_left
            · simp only [Act.put, List.setIfInBounds_toArray, List.set_cons_zero, List.set_cons_succ, i64_w, i32_w]
              rfl
            refine pure_ (i := 5) (N := some 37) (v := ?_) (a' := ?_) #[true, true, true, true, true, true, false, false, false, false, false, false, false, false, false, false, false, false, false, false, false, false, false, false, false, false, false, false] rfl rfl (by kernel_rfl) (fun _ _ _ h => h) (Or.inl ⟨by rfl, ?_⟩) ?_ ?_
            rotate_left
            · intro w'
              go_simp
              with_reducible rfl
            rotate_left
            · simp only [Act.put, List.setIfInBounds_toArray, List.set_cons_zero, List.set_cons_succ, i64_w, i32_w]
              rfl
            refine pure_ (i := 6) (N := some 38) (v := ?_) (a' := ?_) #[true, true, true, true, true, true, true, false, false, false, false, false, false, false, false, false, false, false, false, false, false, false, false, false, false, false, false, false] rfl rfl (by kernel_rfl) (fun _ _ _ h => h) (Or.inl ⟨by rfl, ?_⟩) ?_ ?_
            rotate_left
            · intro w'
              go_simp
              with_reducible rfl
            rotate_left
            · simp only [Act.put, List.setIfInBounds_toArray, List.set_cons_zero, List.set_cons_succ, i64_w, i32_w]
              rfl
            refine pure_ (i := 7) (N := some 39) (v := ?_) (a' := ?_) #[true, true, true, true, true, true, true, true, false, false, false, false, false, false, false, false, false, false, false, false, false, false, false, false, false, false, false, false] rfl rfl (by kernel_rfl) (fun _ _ _ h => h) (Or.inl ⟨by rfl, ?_⟩) ?_ ?_
            rotate_left
            · intro w'
              go_simp
              with_reducible rfl
            rotate_left
            · simp only [Act.put, List.setIfInBounds_toArray, List.set_cons_zero, List.set_cons_succ, i64_w, i32_w]
              rfl
            refine pure_ (i := 8) (N := some 40) (v := undef) (a' := ?_) #[true, true, true, true, true, true, true, true, true, false, false, false, false, false, false, false, false, false, false, false, false, false, false, false, false, false, false, false] rfl rfl (by kernel_rfl) (fun _ _ _ h => h) (Or.inr ⟨by rfl, rfl⟩) ?_ ?_
            rotate_left
            · simp only [Act.put, List.setIfInBounds_toArray, List.set_cons_zero, List.set_cons_succ, i64_w, i32_w]
              rfl
            refine pure_ (i := 9) (N := some 41) (v := undef) (a' := ?_) #[true, true, true, true, true, true, true, true, true, true, false, false, false, false, false, false, false, false, false, false, false, false, false, false, false, false, false, false] rfl rfl (by kernel_rfl) (fun _ _ _ h => h) (Or.inr ⟨by rfl, rfl⟩) ?_ ?_
            rotate_left
            · simp only [Act.put, List.setIfInBounds_toArray, List.set_cons_zero, List.set_cons_succ, i64_w, i32_w]
              rfl
            refine pure_ (i := 10) (N := some 42) (v := ?_) (a' := ?_) #[true, true, true, true, true, true, true, true, true, true, true, false, false, false, false, false, false, false, false, false, false, false, false, false, false, false, false, false] rfl rfl (by kernel_rfl) (fun _ _ _ h => h) (Or.inl ⟨by rfl, ?_⟩) ?_ ?_
            rotate_left
            · intro w'
              go_simp
              with_reducible rfl
            rotate_left
            · simp only [Act.put, List.setIfInBounds_toArray, List.set_cons_zero, List.set_cons_succ, i64_w, i32_w]
              rfl
            refine pure_ (i := 11) (N := some 43) (v := ?_) (a' := ?_) #[true, true, true, true, true, true, true, true, true, true, true, true, false, false, false, false, false, false, false, false, false, false, false, false, false, false, false, false] rfl rfl (by kernel_rfl) (fun _ _ _ h => h) (Or.inl ⟨by rfl, ?_⟩) ?_ ?_
            rotate_left
            · intro w'
              go_simp
              with_reducible rfl
            rotate_left
            · simp only [Act.put, List.setIfInBounds_toArray, List.set_cons_zero, List.set_cons_succ, i64_w, i32_w]
              rfl
            refine pure_ (i := 12) (N := some 44) (v := ?_) (a' := ?_) #[true, true, true, true, true, true, true, true, true, true, true, true, true, false, false, false, false, false, false, false, false, false, false, false, false, false, false, false] rfl rfl (by kernel_rfl) (fun _ _ _ h => h) (Or.inl ⟨by rfl, ?_⟩) ?_ ?_
            rotate_left
            · intro w'
              go_simp
              with_reducible rfl
            rotate_left
            · simp only [Act.put, List.setIfInBounds_toArray, List.set_cons_zero, List.set_cons_succ, i64_w, i32_w]
              rfl
            refine take_ (i := 13) (N := some 45) (v := ?_) (a' := ?_) #[true, true, true, true, true, true, true, true, true, true, true, true, true, true, false, false, false, false, false, false, false, false, false, false, false, false, false, false] rfl rfl (by kernel_rfl) (fun _ _ _ h => h) (Or.inl ⟨by rfl, ?_⟩) hHeld ?_ ?_
            rotate_left
            · intro w' s0
              obtain ⟨m0, m1, m2, m3, m4, m5, m6⟩ := rcF (blk_below HP5.out.1 s0)
              obtain ⟨n0, n1, n2, n3, n4, n5, n6⟩ := rcF (blk_below HP6.out.1 s0)
              obtain ⟨o0, o1, o2, o3, o4, o5, o6⟩ := rcF (blk_below HP4.out s0)
              go_simp
              with_reducible rfl
            rotate_left
            · simp only [Act.put, List.setIfInBounds_toArray, List.set_cons_zero, List.set_cons_succ, i64_w, i32_w]
              rfl
            refine take_ (i := 14) (N := some 46) (v := ?_) (a' := ?_) #[true, true, true, true, true, true, true, true, true, true, true, true, true, true, true, false, false, false, false, false, false, false, false, false, false, false, false, false] rfl rfl (by kernel_rfl) (fun _ _ _ h => h) (Or.inl ⟨by rfl, ?_⟩) hHeld ?_ ?_
            rotate_left
            · intro w' s0
              obtain ⟨m0, m1, m2, m3, m4, m5, m6⟩ := rcF (blk_below HP5.out.1 s0)
              obtain ⟨n0, n1, n2, n3, n4, n5, n6⟩ := rcF (blk_below HP6.out.1 s0)
              obtain ⟨o0, o1, o2, o3, o4, o5, o6⟩ := rcF (blk_below HP4.out s0)
              go_simp
              with_reducible rfl
            rotate_left
            · simp only [Act.put, List.setIfInBounds_toArray, List.set_cons_zero, List.set_cons_succ, i64_w, i32_w]
              rfl
            refine take_ (i := 16) (N := some 48) (v := ?_) (a' := ?_) #[true, true, true, true, true, true, true, true, true, true, true, true, true, true, true, false, true, false, false, false, false, false, false, false, false, false, false, false] rfl rfl (by kernel_rfl) (fun _ _ _ h => h) (Or.inl ⟨by rfl, ?_⟩) hHeld ?_ ?_
            rotate_left
            · intro w' s0
              obtain ⟨m0, m1, m2, m3, m4, m5, m6⟩ := rcF (blk_below HP5.out.1 s0)
              obtain ⟨n0, n1, n2, n3, n4, n5, n6⟩ := rcF (blk_below HP6.out.1 s0)
              obtain ⟨o0, o1, o2, o3, o4, o5, o6⟩ := rcF (blk_below HP4.out s0)
              go_simp
              with_reducible rfl
            rotate_left
            · simp only [Act.put, List.setIfInBounds_toArray, List.set_cons_zero, List.set_cons_succ, i64_w, i32_w]
              rfl
            refine take_ (i := 17) (N := some 49) (v := ?_) (a' := ?_) #[true, true, true, true, true, true, true, true, true, true, true, true, true, true, true, false, true, true, false, false, false, false, false, false, false, false, false, false] rfl rfl (by kernel_rfl) (fun _ _ _ h => h) (Or.inl ⟨by rfl, ?_⟩) hHeld ?_ ?_
            rotate_left
            · intro w' s0
              obtain ⟨m0, m1, m2, m3, m4, m5, m6⟩ := rcF (blk_below HP5.out.1 s0)
              obtain ⟨n0, n1, n2, n3, n4, n5, n6⟩ := rcF (blk_below HP6.out.1 s0)
              obtain ⟨o0, o1, o2, o3, o4, o5, o6⟩ := rcF (blk_below HP4.out s0)
              go_simp
              with_reducible rfl
            rotate_left
            · simp only [Act.put, List.setIfInBounds_toArray, List.set_cons_zero, List.set_cons_succ, i64_w, i32_w]
              rfl
            refine one_ (i := 15) (N := some 47) #[true, true, true, true, true, true, true, true, true, true, true, true, true, true, true, true, true, true, false, false, false, false, false, false, false, false, false, false] rfl rfl (by kernel_rfl) (by decide) (fun K hK => ?_)
            refine goes_ Try.func19 (by kernel_rfl) rfl #[.agg (rcL X a5 q5 a6 q6), .agg (rcL Y b5 r5 b6 r6)] (by rfl) rfl rfl (by simp only [List.map_toArray, List.map_cons, List.map_nil]; rfl) ?_
            with_reducible refine ((HSA.out _ (by first | exact hHeld | exact below_drew1 (Below.refl _ _)))).mono ?_
            rintro e we ⟨rfl, hb⟩
            have Hwe := Aside0.mk (below_step hHeld hb)
            clear hb
            refine ⟨_, rfl, ?_⟩
            refine hK.out _ _ (Hwe.out) (fun hHeld => ?_)
            clear hK K
            refine norm_ (a' := ?_) ?_ ?_
            rotate_left
            · show Act.put _ (some 47) _ = _
              simp only [Act.put, List.setIfInBounds_toArray, List.set_cons_zero, List.set_cons_succ, i64_w, i32_w]
              rfl
            refine one_ (i := 18) (N := some 50) #[true, true, true, true, true, true, true, true, true, true, true, true, true, true, true, true, true, true, true, false, false, false, false, false, false, false, false, false] rfl rfl (by kernel_rfl) (by decide) (fun K hK => ?_)
            refine goes_ Try.func48 (by kernel_rfl) rfl #[.agg (rcL X a5 q5 a6 q6), .agg (rcL Y b5 r5 b6 r6)] (by rfl) rfl rfl (by simp only [List.map_toArray, List.map_cons, List.map_nil]; rfl) ?_
            with_reducible refine ((HSB.out _ Hwe.out)).mono ?_
            rintro e wf ⟨rfl, hb⟩
            have Hwf := Aside0.mk (below_step Hwe.out hb)
            clear hb
            refine ⟨_, rfl, ?_⟩
            refine hK.out _ _ (Hwf.out) (fun hHeld => ?_)
            clear hK K
            refine norm_ (a' := ?_) ?_ ?_
            rotate_left
            · show Act.put _ (some 50) _ = _
              simp only [Act.put, List.setIfInBounds_toArray, List.set_cons_zero, List.set_cons_succ, i64_w, i32_w]
              rfl
            refine pure_ (i := 19) (N := some 51) (v := ?_) (a' := ?_) #[true, true, true, true, true, true, true, true, true, true, true, true, true, true, true, true, true, true, true, true, false, false, false, false, false, false, false, false] rfl rfl (by kernel_rfl) (fun _ _ _ h => h) (Or.inl ⟨by rfl, ?_⟩) ?_ ?_
            rotate_left
            · intro w'
              go_simp
              with_reducible rfl
            rotate_left
            · simp only [Act.put, List.setIfInBounds_toArray, List.set_cons_zero, List.set_cons_succ, i64_w, i32_w]
              rfl
            refine pure_ (i := 20) (N := some 52) (v := ?_) (a' := ?_) #[true, true, true, true, true, true, true, true, true, true, true, true, true, true, true, true, true, true, true, true, true, false, false, false, false, false, false, false] rfl rfl (by kernel_rfl) (fun _ _ _ h => h) (Or.inl ⟨by rfl, ?_⟩) ?_ ?_
            rotate_left
            · intro w'
              go_simp
              with_reducible rfl
            rotate_left
            · simp only [Act.put, List.setIfInBounds_toArray, List.set_cons_zero, List.set_cons_succ, i64_w, i32_w]
              rfl
            refine pure_ (i := 21) (N := some 53) (v := ?_) (a' := ?_) #[true, true, true, true, true, true, true, true, true, true, true, true, true, true, true, true, true, true, true, true, true, true, false, false, false, false, false, false] rfl rfl (by kernel_rfl) (fun _ _ _ h => h) (Or.inl ⟨by rfl, ?_⟩) ?_ ?_
            rotate_left
            · intro w'
              go_simp
              with_reducible rfl
            rotate_left
            · simp only [Act.put, List.setIfInBounds_toArray, List.set_cons_zero, List.set_cons_succ, i64_w, i32_w]
              rfl
            refine take_ (i := 22) (N := some 54) (v := ?_) (a' := ?_) #[true, true, true, true, true, true, true, true, true, true, true, true, true, true, true, true, true, true, true, true, true, true, true, false, false, false, false, false] rfl rfl (by kernel_rfl) (fun _ _ _ h => h) (Or.inl ⟨by rfl, ?_⟩) hHeld ?_ ?_
            rotate_left
            · intro w' s0
              obtain ⟨m0, m1, m2, m3, m4, m5, m6⟩ := rcF (blk_below HP5.out.1 s0)
              obtain ⟨n0, n1, n2, n3, n4, n5, n6⟩ := rcF (blk_below HP6.out.1 s0)
              obtain ⟨o0, o1, o2, o3, o4, o5, o6⟩ := rcF (blk_below HP4.out s0)
              go_simp
              with_reducible rfl
            rotate_left
            · simp only [Act.put, List.setIfInBounds_toArray, List.set_cons_zero, List.set_cons_succ, i64_w, i32_w]
              rfl
            refine take_ (i := 23) (N := some 55) (v := ?_) (a' := ?_) #[true, true, true, true, true, true, true, true, true, true, true, true, true, true, true, true, true, true, true, true, true, true, true, true, false, false, false, false] rfl rfl (by kernel_rfl) (fun _ _ _ h => h) (Or.inl ⟨by rfl, ?_⟩) hHeld ?_ ?_
            rotate_left
            · intro w' s0
              obtain ⟨m0, m1, m2, m3, m4, m5, m6⟩ := rcF (blk_below HP5.out.1 s0)
              obtain ⟨n0, n1, n2, n3, n4, n5, n6⟩ := rcF (blk_below HP6.out.1 s0)
              obtain ⟨o0, o1, o2, o3, o4, o5, o6⟩ := rcF (blk_below HP4.out s0)
              go_simp
              with_reducible rfl
            rotate_left
            · simp only [Act.put, List.setIfInBounds_toArray, List.set_cons_zero, List.set_cons_succ, i64_w, i32_w]
              rfl
            refine one_ (i := 24) (N := some 56) #[true, true, true, true, true, true, true, true, true, true, true, true, true, true, true, true, true, true, true, true, true, true, true, true, true, false, false, false] rfl rfl (by kernel_rfl) (by decide) (fun K hK => ?_)
            refine goes_ Try.func15 (by kernel_rfl) rfl #[.agg (rcL x A5 c5 A6 c6)] (by rfl) rfl rfl (by simp only [List.map_toArray, List.map_cons, List.map_nil]; rfl) ?_
            with_reducible refine ((HFW.out _ Hwf.out)).mono ?_
            rintro e wg ⟨z5, t5, z6, t6, rfl, hs, hb⟩
            have Hwg := Aside0.mk (below_step Hwf.out hb)
            have HRS := Aside0.mk hs
            clear hs hb
            refine ⟨_, rfl, ?_⟩
            refine hK.out _ _ (Hwg.out) (fun hHeld => ?_)
            clear hK K
            refine norm_ (a' := ?_) ?_ ?_
            rotate_left
            · show Act.put _ (some 56) _ = _
              simp only [Act.put, List.setIfInBounds_toArray, List.set_cons_zero, List.set_cons_succ, i64_w, i32_w]
              rfl
            refine one_ (i := 25) (N := some 57) #[true, true, true, true, true, true, true, true, true, true, true, true, true, true, true, true, true, true, true, true, true, true, true, true, true, true, false, false] rfl rfl (by kernel_rfl) (by decide) (fun K hK => ?_)
            refine goes_ Try.func19 (by kernel_rfl) rfl #[.agg (rcL X a5 q5 a6 q6), .agg (rcL X z5 t5 z6 t6)] (by rfl) rfl rfl (by simp only [List.map_toArray, List.map_cons, List.map_nil]; rfl) ?_
            with_reducible refine ((HSC.out _ Hwg.out _ _ _ _ _ HRS.out)).mono ?_
            rintro e wh ⟨rfl, hb⟩
            have Hwh := Aside0.mk (below_step Hwg.out hb)
            clear hb
            refine ⟨_, rfl, ?_⟩
            refine hK.out _ _ (Hwh.out) (fun hHeld => ?_)
            clear hK K
            refine norm_ (a' := ?_) ?_ ?_
            rotate_left
            · show Act.put _ (some 57) _ = _
              simp only [Act.put, List.setIfInBounds_toArray, List.set_cons_zero, List.set_cons_succ, i64_w, i32_w]
              rfl
            refine pure_ (i := 26) (N := some 58) (v := ?_) (a' := ?_) #[true, true, true, true, true, true, true, true, true, true, true, true, true, true, true, true, true, true, true, true, true, true, true, true, true, true, true, false] rfl rfl (by kernel_rfl) (fun _ _ _ h => h) (Or.inl ⟨by rfl, ?_⟩) ?_ ?_
            rotate_left
            · intro w'
              go_simp
              with_reducible rfl
            rotate_left
            · simp only [Act.put, List.setIfInBounds_toArray, List.set_cons_zero, List.set_cons_succ, i64_w, i32_w]
              rfl
            refine pure_ (i := 27) (N := some 59) (v := ?_) (a' := ?_) #[true, true, true, true, true, true, true, true, true, true, true, true, true, true, true, true, true, true, true, true, true, true, true, true, true, true, true, true] rfl rfl (by kernel_rfl) (fun _ _ _ h => h) (Or.inl ⟨by rfl, ?_⟩) ?_ ?_
            rotate_left
            · intro w'
              go_simp
              with_reducible rfl
            rotate_left
            · simp only [Act.put, List.setIfInBounds_toArray, List.set_cons_zero, List.set_cons_succ, i64_w, i32_w]
              rfl
            refine done_ (by kernel_rfl) ?_
            go_wp2_with fail
            go_meet
            exact ⟨rfl, Hwh⟩
          | true =>
            refine start_ (n := 28) (S := fun w' => Below wd.heap.size wd w') (ds := []) #[false, false, false, false, false, false, false, false, false, false, false, false, false, false, false, false, false, false, false, false, false, false, false, false, false, false, false, false] (by kernel_rfl) rfl rfl ((below_drew1 (Below.refl _ _))) (fun hHeld => ?_)
            refine pure_ (i := 0) (N := some 32) (v := ?_) (a' := ?_) #[true, false, false, false, false, false, false, false, false, false, false, false, false, false, false, false, false, false, false, false, false, false, false, false, false, false, false, false] rfl rfl (by kernel_rfl) (fun _ _ _ h => h) (Or.inl ⟨by rfl, ?_⟩) ?_ ?_
            rotate_left
            · intro w'
              go_simp
              with_reducible rfl
            rotate_left
            · simp only [Act.put, List.setIfInBounds_toArray, List.set_cons_zero, List.set_cons_succ, i64_w, i32_w]
              rfl
            refine pure_ (i := 1) (N := some 33) (v := ?_) (a' := ?_) #[true, true, false, false, false, false, false, false, false, false, false, false, false, false, false, false, false, false, false, false, false, false, false, false, false, false, false, false] rfl rfl (by kernel_rfl) (fun _ _ _ h => h) (Or.inl ⟨by rfl, ?_⟩) ?_ ?_
            rotate_left
            · intro w'
              go_simp
              with_reducible rfl
            rotate_left
            · simp only [Act.put, List.setIfInBounds_toArray, List.set_cons_zero, List.set_cons_succ, i64_w, i32_w]
              rfl
            refine pure_ (i := 2) (N := some 34) (v := ?_) (a' := ?_) #[true, true, true, false, false, false, false, false, false, false, false, false, false, false, false, false, false, false, false, false, false, false, false, false, false, false, false, false] rfl rfl (by kernel_rfl) (fun _ _ _ h => h) (Or.inl ⟨by rfl, ?_⟩) ?_ ?_
            rotate_left
            · intro w'
              go_simp
              with_reducible rfl
            rotate_left
            · simp only [Act.put, List.setIfInBounds_toArray, List.set_cons_zero, List.set_cons_succ, i64_w, i32_w]
              rfl
            refine pure_ (i := 3) (N := some 35) (v := ?_) (a' := ?_) #[true, true, true, true, false, false, false, false, false, false, false, false, false, false, false, false, false, false, false, false, false, false, false, false, false, false, false, false] rfl rfl (by kernel_rfl) (fun _ _ _ h => h) (Or.inl ⟨by rfl, ?_⟩) ?_ ?_
            rotate_left
            · intro w'
              go_simp
              with_reducible rfl
            rotate_left
            · simp only [Act.put, List.setIfInBounds_toArray, List.set_cons_zero, List.set_cons_succ, i64_w, i32_w]
              rfl
            refine pure_ (i := 4) (N := some 36) (v := ?_) (a' := ?_) #[true, true, true, true, true, false, false, false, false, false, false, false, false, false, false, false, false, false, false, false, false, false, false, false, false, false, false, false] rfl rfl (by kernel_rfl) (fun _ _ _ h => h) (Or.inl ⟨by rfl, ?_⟩) ?_ ?_
            rotate_left
            · intro w'
              go_simp
              with_reducible rfl
            rotate_left
            · simp only [Act.put, List.setIfInBounds_toArray, List.set_cons_zero, List.set_cons_succ, i64_w, i32_w]
              rfl
            refine pure_ (i := 5) (N := some 37) (v := ?_) (a' := ?_) #[true, true, true, true, true, true, false, false, false, false, false, false, false, false, false, false, false, false, false, false, false, false, false, false, false, false, false, false] rfl rfl (by kernel_rfl) (fun _ _ _ h => h) (Or.inl ⟨by rfl, ?_⟩) ?_ ?_
            rotate_left
            · intro w'
              go_simp
              with_reducible rfl
            rotate_left
            · simp only [Act.put, List.setIfInBounds_toArray, List.set_cons_zero, List.set_cons_succ, i64_w, i32_w]
              rfl
            refine pure_ (i := 6) (N := some 38) (v := ?_) (a' := ?_) #[true, true, true, true, true, true, true, false, false, false, false, false, false, false, false, false, false, false, false, false, false, false, false, false, false, false, false, false] rfl rfl (by kernel_rfl) (fun _ _ _ h => h) (Or.inl ⟨by rfl, ?_⟩) ?_ ?_
            rotate_left
            · intro w'
              go_simp
              with_reducible rfl
            rotate_left
            · simp only [Act.put, List.setIfInBounds_toArray, List.set_cons_zero, List.set_cons_succ, i64_w, i32_w]
              rfl
            refine pure_ (i := 7) (N := some 39) (v := ?_) (a' := ?_) #[true, true, true, true, true, true, true, true, false, false, false, false, false, false, false, false, false, false, false, false, false, false, false, false, false, false, false, false] rfl rfl (by kernel_rfl) (fun _ _ _ h => h) (Or.inl ⟨by rfl, ?_⟩) ?_ ?_
            rotate_left
            · intro w'
              go_simp
              with_reducible rfl
            rotate_left
            · simp only [Act.put, List.setIfInBounds_toArray, List.set_cons_zero, List.set_cons_succ, i64_w, i32_w]
              rfl
            refine pure_ (i := 8) (N := some 40) (v := undef) (a' := ?_) #[true, true, true, true, true, true, true, true, true, false, false, false, false, false, false, false, false, false, false, false, false, false, false, false, false, false, false, false] rfl rfl (by kernel_rfl) (fun _ _ _ h => h) (Or.inr ⟨by rfl, rfl⟩) ?_ ?_
            rotate_left
            · simp only [Act.put, List.setIfInBounds_toArray, List.set_cons_zero, List.set_cons_succ, i64_w, i32_w]
              rfl
            refine pure_ (i := 9) (N := some 41) (v := undef) (a' := ?_) #[true, true, true, true, true, true, true, true, true, true, false, false, false, false, false, false, false, false, false, false, false, false, false, false, false, false, false, false] rfl rfl (by kernel_rfl) (fun _ _ _ h => h) (Or.inr ⟨by rfl, rfl⟩) ?_ ?_
            rotate_left
            · simp only [Act.put, List.setIfInBounds_toArray, List.set_cons_zero, List.set_cons_succ, i64_w, i32_w]
              rfl
            refine pure_ (i := 10) (N := some 42) (v := ?_) (a' := ?_) #[true, true, true, true, true, true, true, true, true, true, true, false, false, false, false, false, false, false, false, false, false, false, false, false, false, false, false, false] rfl rfl (by kernel_rfl) (fun _ _ _ h => h) (Or.inl ⟨by rfl, ?_⟩) ?_ ?_
            rotate_left
            · intro w'
              go_simp
              with_reducible rfl
            rotate_left
            · simp only [Act.put, List.setIfInBounds_toArray, List.set_cons_zero, List.set_cons_succ, i64_w, i32_w]
              rfl
            refine pure_ (i := 11) (N := some 43) (v := ?_) (a' := ?_) #[true, true, true, true, true, true, true, true, true, true, true, true, false, false, false, false, false, false, false, false, false, false, false, false, false, false, false, false] rfl rfl (by kernel_rfl) (fun _ _ _ h => h) (Or.inl ⟨by rfl, ?_⟩) ?_ ?_
            rotate_left
            · intro w'
              go_simp
              with_reducible rfl
            rotate_left
            · simp only [Act.put, List.setIfInBounds_toArray, List.set_cons_zero, List.set_cons_succ, i64_w, i32_w]
              rfl
            refine pure_ (i := 12) (N := some 44) (v := ?_) (a' := ?_) #[true, true, true, true, true, true, true, true, true, true, true, true, true, false, false, false, false, false, false, false, false, false, false, false, false, false, false, false] rfl rfl (by kernel_rfl) (fun _ _ _ h => h) (Or.inl ⟨by rfl, ?_⟩) ?_ ?_
            rotate_left
            · intro w'
              go_simp
              with_reducible rfl
            rotate_left
            · simp only [Act.put, List.setIfInBounds_toArray, List.set_cons_zero, List.set_cons_succ, i64_w, i32_w]
              rfl
            refine take_ (i := 13) (N := some 45) (v := ?_) (a' := ?_) #[true, true, true, true, true, true, true, true, true, true, true, true, true, true, false, false, false, false, false, false, false, false, false, false, false, false, false, false] rfl rfl (by kernel_rfl) (fun _ _ _ h => h) (Or.inl ⟨by rfl, ?_⟩) hHeld ?_ ?_
            rotate_left
            · intro w' s0
              obtain ⟨m0, m1, m2, m3, m4, m5, m6⟩ := rcF (blk_below HP5.out.1 s0)
              obtain ⟨n0, n1, n2, n3, n4, n5, n6⟩ := rcF (blk_below HP6.out.1 s0)
              obtain ⟨o0, o1, o2, o3, o4, o5, o6⟩ := rcF (blk_below HP4.out s0)
              go_simp
              with_reducible rfl
            rotate_left
            · simp only [Act.put, List.setIfInBounds_toArray, List.set_cons_zero, List.set_cons_succ, i64_w, i32_w]
              rfl
            refine take_ (i := 14) (N := some 46) (v := ?_) (a' := ?_) #[true, true, true, true, true, true, true, true, true, true, true, true, true, true, true, false, false, false, false, false, false, false, false, false, false, false, false, false] rfl rfl (by kernel_rfl) (fun _ _ _ h => h) (Or.inl ⟨by rfl, ?_⟩) hHeld ?_ ?_
            rotate_left
            · intro w' s0
              obtain ⟨m0, m1, m2, m3, m4, m5, m6⟩ := rcF (blk_below HP5.out.1 s0)
              obtain ⟨n0, n1, n2, n3, n4, n5, n6⟩ := rcF (blk_below HP6.out.1 s0)
              obtain ⟨o0, o1, o2, o3, o4, o5, o6⟩ := rcF (blk_below HP4.out s0)
              go_simp
              with_reducible rfl
            rotate_left
            · simp only [Act.put, List.setIfInBounds_toArray, List.set_cons_zero, List.set_cons_succ, i64_w, i32_w]
              rfl
            refine take_ (i := 16) (N := some 48) (v := ?_) (a' := ?_) #[true, true, true, true, true, true, true, true, true, true, true, true, true, true, true, false, true, false, false, false, false, false, false, false, false, false, false, false] rfl rfl (by kernel_rfl) (fun _ _ _ h => h) (Or.inl ⟨by rfl, ?_⟩) hHeld ?_ ?_
            rotate_left
            · intro w' s0
              obtain ⟨m0, m1, m2, m3, m4, m5, m6⟩ := rcF (blk_below HP5.out.1 s0)
              obtain ⟨n0, n1, n2, n3, n4, n5, n6⟩ := rcF (blk_below HP6.out.1 s0)
              obtain ⟨o0, o1, o2, o3, o4, o5, o6⟩ := rcF (blk_below HP4.out s0)
              go_simp
              with_reducible rfl
            rotate_left
            · simp only [Act.put, List.setIfInBounds_toArray, List.set_cons_zero, List.set_cons_succ, i64_w, i32_w]
              rfl
            refine take_ (i := 17) (N := some 49) (v := ?_) (a' := ?_) #[true, true, true, true, true, true, true, true, true, true, true, true, true, true, true, false, true, true, false, false, false, false, false, false, false, false, false, false] rfl rfl (by kernel_rfl) (fun _ _ _ h => h) (Or.inl ⟨by rfl, ?_⟩) hHeld ?_ ?_
            rotate_left
            · intro w' s0
              obtain ⟨m0, m1, m2, m3, m4, m5, m6⟩ := rcF (blk_below HP5.out.1 s0)
              obtain ⟨n0, n1, n2, n3, n4, n5, n6⟩ := rcF (blk_below HP6.out.1 s0)
              obtain ⟨o0, o1, o2, o3, o4, o5, o6⟩ := rcF (blk_below HP4.out s0)
              go_simp
              with_reducible rfl
            rotate_left
            · simp only [Act.put, List.setIfInBounds_toArray, List.set_cons_zero, List.set_cons_succ, i64_w, i32_w]
              rfl
            refine one_ (i := 15) (N := some 47) #[true, true, true, true, true, true, true, true, true, true, true, true, true, true, true, true, true, true, false, false, false, false, false, false, false, false, false, false] rfl rfl (by kernel_rfl) (by decide) (fun K hK => ?_)
            refine goes_ Try.func19 (by kernel_rfl) rfl #[.agg (rcL X a5 q5 a6 q6), .agg (rcL Y b5 r5 b6 r6)] (by rfl) rfl rfl (by simp only [List.map_toArray, List.map_cons, List.map_nil]; rfl) ?_
            with_reducible refine ((HSA.out _ (by first | exact hHeld | exact below_drew1 (Below.refl _ _)))).mono ?_
            rintro e we ⟨rfl, hb⟩
            have Hwe := Aside0.mk (below_step hHeld hb)
            clear hb
            refine ⟨_, rfl, ?_⟩
            refine hK.out _ _ (Hwe.out) (fun hHeld => ?_)
            clear hK K
            refine norm_ (a' := ?_) ?_ ?_
            rotate_left
            · show Act.put _ (some 47) _ = _
              simp only [Act.put, List.setIfInBounds_toArray, List.set_cons_zero, List.set_cons_succ, i64_w, i32_w]
              rfl
            refine one_ (i := 18) (N := some 50) #[true, true, true, true, true, true, true, true, true, true, true, true, true, true, true, true, true, true, true, false, false, false, false, false, false, false, false, false] rfl rfl (by kernel_rfl) (by decide) (fun K hK => ?_)
            refine goes_ Try.func48 (by kernel_rfl) rfl #[.agg (rcL X a5 q5 a6 q6), .agg (rcL Y b5 r5 b6 r6)] (by rfl) rfl rfl (by simp only [List.map_toArray, List.map_cons, List.map_nil]; rfl) ?_
            with_reducible refine ((HSB.out _ Hwe.out)).mono ?_
            rintro e wf ⟨rfl, hb⟩
            have Hwf := Aside0.mk (below_step Hwe.out hb)
            clear hb
            refine ⟨_, rfl, ?_⟩
            refine hK.out _ _ (Hwf.out) (fun hHeld => ?_)
            clear hK K
            refine norm_ (a' := ?_) ?_ ?_
            rotate_left
            · show Act.put _ (some 50) _ = _
              simp only [Act.put, List.setIfInBounds_toArray, List.set_cons_zero, List.set_cons_succ, i64_w, i32_w]
              rfl
            refine pure_ (i := 19) (N := some 51) (v := ?_) (a' := ?_) #[true, true, true, true, true, true, true, true, true, true, true, true, true, true, true, true, true, true, true, true, false, false, false, false, false, false, false, false] rfl rfl (by kernel_rfl) (fun _ _ _ h => h) (Or.inl ⟨by rfl, ?_⟩) ?_ ?_
            rotate_left
            · intro w'
              go_simp
              with_reducible rfl
            rotate_left
            · simp only [Act.put, List.setIfInBounds_toArray, List.set_cons_zero, List.set_cons_succ, i64_w, i32_w]
              rfl
            refine pure_ (i := 20) (N := some 52) (v := ?_) (a' := ?_) #[true, true, true, true, true, true, true, true, true, true, true, true, true, true, true, true, true, true, true, true, true, false, false, false, false, false, false, false] rfl rfl (by kernel_rfl) (fun _ _ _ h => h) (Or.inl ⟨by rfl, ?_⟩) ?_ ?_
            rotate_left
            · intro w'
              go_simp
              with_reducible rfl
            rotate_left
            · simp only [Act.put, List.setIfInBounds_toArray, List.set_cons_zero, List.set_cons_succ, i64_w, i32_w]
              rfl
            refine pure_ (i := 21) (N := some 53) (v := ?_) (a' := ?_) #[true, true, true, true, true, true, true, true, true, true, true, true, true, true, true, true, true, true, true, true, true, true, false, false, false, false, false, false] rfl rfl (by kernel_rfl) (fun _ _ _ h => h) (Or.inl ⟨by rfl, ?_⟩) ?_ ?_
            rotate_left
            · intro w'
              go_simp
              with_reducible rfl
            rotate_left
            · simp only [Act.put, List.setIfInBounds_toArray, List.set_cons_zero, List.set_cons_succ, i64_w, i32_w]
              rfl
            refine take_ (i := 22) (N := some 54) (v := ?_) (a' := ?_) #[true, true, true, true, true, true, true, true, true, true, true, true, true, true, true, true, true, true, true, true, true, true, true, false, false, false, false, false] rfl rfl (by kernel_rfl) (fun _ _ _ h => h) (Or.inl ⟨by rfl, ?_⟩) hHeld ?_ ?_
            rotate_left
            · intro w' s0
              obtain ⟨m0, m1, m2, m3, m4, m5, m6⟩ := rcF (blk_below HP5.out.1 s0)
              obtain ⟨n0, n1, n2, n3, n4, n5, n6⟩ := rcF (blk_below HP6.out.1 s0)
              obtain ⟨o0, o1, o2, o3, o4, o5, o6⟩ := rcF (blk_below HP4.out s0)
              go_simp
              with_reducible rfl
            rotate_left
            · simp only [Act.put, List.setIfInBounds_toArray, List.set_cons_zero, List.set_cons_succ, i64_w, i32_w]
              rfl
            refine take_ (i := 23) (N := some 55) (v := ?_) (a' := ?_) #[true, true, true, true, true, true, true, true, true, true, true, true, true, true, true, true, true, true, true, true, true, true, true, true, false, false, false, false] rfl rfl (by kernel_rfl) (fun _ _ _ h => h) (Or.inl ⟨by rfl, ?_⟩) hHeld ?_ ?_
            rotate_left
            · intro w' s0
              obtain ⟨m0, m1, m2, m3, m4, m5, m6⟩ := rcF (blk_below HP5.out.1 s0)
              obtain ⟨n0, n1, n2, n3, n4, n5, n6⟩ := rcF (blk_below HP6.out.1 s0)
              obtain ⟨o0, o1, o2, o3, o4, o5, o6⟩ := rcF (blk_below HP4.out s0)
              go_simp
              with_reducible rfl
            rotate_left
            · simp only [Act.put, List.setIfInBounds_toArray, List.set_cons_zero, List.set_cons_succ, i64_w, i32_w]
              rfl
            refine one_ (i := 24) (N := some 56) #[true, true, true, true, true, true, true, true, true, true, true, true, true, true, true, true, true, true, true, true, true, true, true, true, true, false, false, false] rfl rfl (by kernel_rfl) (by decide) (fun K hK => ?_)
            refine goes_ Try.func15 (by kernel_rfl) rfl #[.agg (rcL x A5 c5 A6 c6)] (by rfl) rfl rfl (by simp only [List.map_toArray, List.map_cons, List.map_nil]; rfl) ?_
            with_reducible refine ((HFW.out _ Hwf.out)).mono ?_
            rintro e wg ⟨z5, t5, z6, t6, rfl, hs, hb⟩
            have Hwg := Aside0.mk (below_step Hwf.out hb)
            have HRS := Aside0.mk hs
            clear hs hb
            refine ⟨_, rfl, ?_⟩
            refine hK.out _ _ (Hwg.out) (fun hHeld => ?_)
            clear hK K
            refine norm_ (a' := ?_) ?_ ?_
            rotate_left
            · show Act.put _ (some 56) _ = _
              simp only [Act.put, List.setIfInBounds_toArray, List.set_cons_zero, List.set_cons_succ, i64_w, i32_w]
              rfl
            refine one_ (i := 25) (N := some 57) #[true, true, true, true, true, true, true, true, true, true, true, true, true, true, true, true, true, true, true, true, true, true, true, true, true, true, false, false] rfl rfl (by kernel_rfl) (by decide) (fun K hK => ?_)
            refine goes_ Try.func19 (by kernel_rfl) rfl #[.agg (rcL X a5 q5 a6 q6), .agg (rcL X z5 t5 z6 t6)] (by rfl) rfl rfl (by simp only [List.map_toArray, List.map_cons, List.map_nil]; rfl) ?_
            with_reducible refine ((HSC.out _ Hwg.out _ _ _ _ _ HRS.out)).mono ?_
            rintro e wh ⟨rfl, hb⟩
            have Hwh := Aside0.mk (below_step Hwg.out hb)
            clear hb
            refine ⟨_, rfl, ?_⟩
            refine hK.out _ _ (Hwh.out) (fun hHeld => ?_)
            clear hK K
            refine norm_ (a' := ?_) ?_ ?_
            rotate_left
            · show Act.put _ (some 57) _ = _
              simp only [Act.put, List.setIfInBounds_toArray, List.set_cons_zero, List.set_cons_succ, i64_w, i32_w]
              rfl
            refine pure_ (i := 26) (N := some 58) (v := ?_) (a' := ?_) #[true, true, true, true, true, true, true, true, true, true, true, true, true, true, true, true, true, true, true, true, true, true, true, true, true, true, true, false] rfl rfl (by kernel_rfl) (fun _ _ _ h => h) (Or.inl ⟨by rfl, ?_⟩) ?_ ?_
            rotate_left
            · intro w'
              go_simp
              with_reducible rfl
            rotate_left
            · simp only [Act.put, List.setIfInBounds_toArray, List.set_cons_zero, List.set_cons_succ, i64_w, i32_w]
              rfl
            refine pure_ (i := 27) (N := some 59) (v := ?_) (a' := ?_) #[true, true, true, true, true, true, true, true, true, true, true, true, true, true, true, true, true, true, true, true, true, true, true, true, true, true, true, true] rfl rfl (by kernel_rfl) (fun _ _ _ h => h) (Or.inl ⟨by rfl, ?_⟩) ?_ ?_
            rotate_left
            · intro w'
              go_simp
              with_reducible rfl
            rotate_left
            · simp only [Act.put, List.setIfInBounds_toArray, List.set_cons_zero, List.set_cons_succ, i64_w, i32_w]
              rfl
            refine done_ (by kernel_rfl) ?_
            go_wp2_with fail
            go_meet
            exact ⟨rfl, Hwh⟩
        | false =>
          have hn := HNN.out
          rw [if_neg (by decide)] at hn
          subst hn
          clear HNN
          cases s with
          | false =>
            refine start_ (n := 28) (S := fun w' => Below wd.heap.size wd w') (ds := []) #[false, false, false, false, false, false, false, false, false, false, false, false, false, false, false, false, false, false, false, false, false, false, false, false, false, false, false, false] (by kernel_rfl) rfl rfl ((below_drew1 (Below.refl _ _))) (fun hHeld => ?_)
            refine pure_ (i := 0) (N := some 32) (v := ?_) (a' := ?_) #[true, false, false, false, false, false, false, false, false, false, false, false, false, false, false, false, false, false, false, false, false, false, false, false, false, false, false, false] rfl rfl (by kernel_rfl) (fun _ _ _ h => h) (Or.inl ⟨by rfl, ?_⟩) ?_ ?_
            rotate_left
            · intro w'
              go_simp
              with_reducible rfl
            rotate_left
            · simp only [Act.put, List.setIfInBounds_toArray, List.set_cons_zero, List.set_cons_succ, i64_w, i32_w]
              rfl
            refine pure_ (i := 1) (N := some 33) (v := ?_) (a' := ?_) #[true, true, false, false, false, false, false, false, false, false, false, false, false, false, false, false, false, false, false, false, false, false, false, false, false, false, false, false] rfl rfl (by kernel_rfl) (fun _ _ _ h => h) (Or.inl ⟨by rfl, ?_⟩) ?_ ?_
            rotate_left
            · intro w'
              go_simp
              with_reducible rfl
            rotate_left
            · simp only [Act.put, List.setIfInBounds_toArray, List.set_cons_zero, List.set_cons_succ, i64_w, i32_w]
              rfl
            refine pure_ (i := 2) (N := some 34) (v := ?_) (a' := ?_) #[true, true, true, false, false, false, false, false, false, false, false, false, false, false, false, false, false, false, false, false, false, false, false, false, false, false, false, false] rfl rfl (by kernel_rfl) (fun _ _ _ h => h) (Or.inl ⟨by rfl, ?_⟩) ?_ ?_
            rotate_left
            · intro w'
              go_simp
              with_reducible rfl
            rotate_left
            · simp only [Act.put, List.setIfInBounds_toArray, List.set_cons_zero, List.set_cons_succ, i64_w, i32_w]
              rfl
            refine pure_ (i := 3) (N := some 35) (v := ?_) (a' := ?_) #[true, true, true, true, false, false, false, false, false, false, false, false, false, false, false, false, false, false, false, false, false, false, false, false, false, false, false, false] rfl rfl (by kernel_rfl) (fun _ _ _ h => h) (Or.inl ⟨by rfl, ?_⟩) ?_ ?_
            rotate_left
            · intro w'
              go_simp
              with_reducible rfl
            rotate_left
            · simp only [Act.put, List.setIfInBounds_toArray, List.set_cons_zero, List.set_cons_succ, i64_w, i32_w]
              rfl
            refine pure_ (i := 4) (N := some 36) (v := ?_) (a' := ?_) #[true, true, true, true, true, false, false, false, false, false, false, false, false, false, false, false, false, false, false, false, false, false, false, false, false, false, false, false] rfl rfl (by kernel_rfl) (fun _ _ _ h => h) (Or.inl ⟨by rfl, ?_⟩) ?_ ?_
            rotate_left
            · intro w'
              go_simp
              with_reducible rfl
            rotate_left
            · simp only [Act.put, List.setIfInBounds_toArray, List.set_cons_zero, List.set_cons_succ, i64_w, i32_w]
              rfl
            refine pure_ (i := 5) (N := some 37) (v := ?_) (a' := ?_) #[true, true, true, true, true, true, false, false, false, false, false, false, false, false, false, false, false, false, false, false, false, false, false, false, false, false, false, false] rfl rfl (by kernel_rfl) (fun _ _ _ h => h) (Or.inl ⟨by rfl, ?_⟩) ?_ ?_
            rotate_left
            · intro w'
              go_simp
              with_reducible rfl
            rotate_left
            · simp only [Act.put, List.setIfInBounds_toArray, List.set_cons_zero, List.set_cons_succ, i64_w, i32_w]
              rfl
            refine pure_ (i := 6) (N := some 38) (v := ?_) (a' := ?_) #[true, true, true, true, true, true, true, false, false, false, false, false, false, false, false, false, false, false, false, false, false, false, false, false, false, false, false, false] rfl rfl (by kernel_rfl) (fun _ _ _ h => h) (Or.inl ⟨by rfl, ?_⟩) ?_ ?_
            rotate_left
            · intro w'
              go_simp
              with_reducible rfl
            rotate_left
            · simp only [Act.put, List.setIfInBounds_toArray, List.set_cons_zero, List.set_cons_succ, i64_w, i32_w]
              rfl
            refine pure_ (i := 7) (N := some 39) (v := ?_) (a' := ?_) #[true, true, true, true, true, true, true, true, false, false, false, false, false, false, false, false, false, false, false, false, false, false, false, false, false, false, false, false] rfl rfl (by kernel_rfl) (fun _ _ _ h => h) (Or.inl ⟨by rfl, ?_⟩) ?_ ?_
            rotate_left
            · intro w'
              go_simp
              with_reducible rfl
            rotate_left
            · simp only [Act.put, List.setIfInBounds_toArray, List.set_cons_zero, List.set_cons_succ, i64_w, i32_w]
              rfl
            refine pure_ (i := 8) (N := some 40) (v := ?_) (a' := ?_) #[true, true, true, true, true, true, true, true, true, false, false, false, false, false, false, false, false, false, false, false, false, false, false, false, false, false, false, false] rfl rfl (by kernel_rfl) (fun _ _ _ h => h) (Or.inl ⟨by rfl, ?_⟩) ?_ ?_
            rotate_left
            · intro w'
              go_simp
              with_reducible rfl
            rotate_left
            · simp only [Act.put, List.setIfInBounds_toArray, List.set_cons_zero, List.set_cons_succ, i64_w, i32_w]
              rfl
            refine pure_ (i := 9) (N := some 41) (v := ?_) (a' := ?_) #[true, true, true, true, true, true, true, true, true, true, false, false, false, false, false, false, false, false, false, false, false, false, false, false, false, false, false, false] rfl rfl (by kernel_rfl) (fun _ _ _ h => h) (Or.inl ⟨by rfl, ?_⟩) ?_ ?_
            rotate_left
            · intro w'
              go_simp
              with_reducible rfl
            rotate_left
            · simp only [Act.put, List.setIfInBounds_toArray, List.set_cons_zero, List.set_cons_succ, i64_w, i32_w]
              rfl
            refine pure_ (i := 10) (N := some 42) (v := ?_) (a' := ?_) #[true, true, true, true, true, true, true, true, true, true, true, false, false, false, false, false, false, false, false, false, false, false, false, false, false, false, false, false] rfl rfl (by kernel_rfl) (fun _ _ _ h => h) (Or.inl ⟨by rfl, ?_⟩) ?_ ?_
            rotate_left
            · intro w'
              go_simp
              with_reducible rfl
            rotate_left
            · simp only [Act.put, List.setIfInBounds_toArray, List.set_cons_zero, List.set_cons_succ, i64_w, i32_w]
              rfl
            refine pure_ (i := 11) (N := some 43) (v := ?_) (a' := ?_) #[true, true, true, true, true, true, true, true, true, true, true, true, false, false, false, false, false, false, false, false, false, false, false, false, false, false, false, false] rfl rfl (by kernel_rfl) (fun _ _ _ h => h) (Or.inl ⟨by rfl, ?_⟩) ?_ ?_
            rotate_left
            · intro w'
              go_simp
              with_reducible rfl
            rotate_left
            · simp only [Act.put, List.setIfInBounds_toArray, List.set_cons_zero, List.set_cons_succ, i64_w, i32_w]
              rfl
            refine pure_ (i := 12) (N := some 44) (v := ?_) (a' := ?_) #[true, true, true, true, true, true, true, true, true, true, true, true, true, false, false, false, false, false, false, false, false, false, false, false, false, false, false, false] rfl rfl (by kernel_rfl) (fun _ _ _ h => h) (Or.inl ⟨by rfl, ?_⟩) ?_ ?_
            rotate_left
            · intro w'
              go_simp
              with_reducible rfl
            rotate_left
            · simp only [Act.put, List.setIfInBounds_toArray, List.set_cons_zero, List.set_cons_succ, i64_w, i32_w]
              rfl
            refine take_ (i := 13) (N := some 45) (v := ?_) (a' := ?_) #[true, true, true, true, true, true, true, true, true, true, true, true, true, true, false, false, false, false, false, false, false, false, false, false, false, false, false, false] rfl rfl (by kernel_rfl) (fun _ _ _ h => h) (Or.inl ⟨by rfl, ?_⟩) hHeld ?_ ?_
            rotate_left
            · intro w' s0
              obtain ⟨m0, m1, m2, m3, m4, m5, m6⟩ := rcF (blk_below HP5.out.1 s0)
              obtain ⟨n0, n1, n2, n3, n4, n5, n6⟩ := rcF (blk_below HP6.out.1 s0)
              obtain ⟨o0, o1, o2, o3, o4, o5, o6⟩ := rcF (blk_below HP4.out s0)
              go_simp
              with_reducible rfl
            rotate_left
            · simp only [Act.put, List.setIfInBounds_toArray, List.set_cons_zero, List.set_cons_succ, i64_w, i32_w]
              rfl
            refine take_ (i := 14) (N := some 46) (v := ?_) (a' := ?_) #[true, true, true, true, true, true, true, true, true, true, true, true, true, true, true, false, false, false, false, false, false, false, false, false, false, false, false, false] rfl rfl (by kernel_rfl) (fun _ _ _ h => h) (Or.inl ⟨by rfl, ?_⟩) hHeld ?_ ?_
            rotate_left
            · intro w' s0
              obtain ⟨m0, m1, m2, m3, m4, m5, m6⟩ := rcF (blk_below HP5.out.1 s0)
              obtain ⟨n0, n1, n2, n3, n4, n5, n6⟩ := rcF (blk_below HP6.out.1 s0)
              obtain ⟨o0, o1, o2, o3, o4, o5, o6⟩ := rcF (blk_below HP4.out s0)
              go_simp
              with_reducible rfl
            rotate_left
            · simp only [Act.put, List.setIfInBounds_toArray, List.set_cons_zero, List.set_cons_succ, i64_w, i32_w]
              rfl
            refine take_ (i := 16) (N := some 48) (v := ?_) (a' := ?_) #[true, true, true, true, true, true, true, true, true, true, true, true, true, true, true, false, true, false, false, false, false, false, false, false, false, false, false, false] rfl rfl (by kernel_rfl) (fun _ _ _ h => h) (Or.inl ⟨by rfl, ?_⟩) hHeld ?_ ?_
            rotate_left
            · intro w' s0
              obtain ⟨m0, m1, m2, m3, m4, m5, m6⟩ := rcF (blk_below HP5.out.1 s0)
              obtain ⟨n0, n1, n2, n3, n4, n5, n6⟩ := rcF (blk_below HP6.out.1 s0)
              obtain ⟨o0, o1, o2, o3, o4, o5, o6⟩ := rcF (blk_below HP4.out s0)
              go_simp
              with_reducible rfl
            rotate_left
            · simp only [Act.put, List.setIfInBounds_toArray, List.set_cons_zero, List.set_cons_succ, i64_w, i32_w]
              rfl
            refine take_ (i := 17) (N := some 49) (v := ?_) (a' := ?_) #[true, true, true, true, true, true, true, true, true, true, true, true, true, true, true, false, true, true, false, false, false, false, false, false, false, false, false, false] rfl rfl (by kernel_rfl) (fun _ _ _ h => h) (Or.inl ⟨by rfl, ?_⟩) hHeld ?_ ?_
            rotate_left
            · intro w' s0
              obtain ⟨m0, m1, m2, m3, m4, m5, m6⟩ := rcF (blk_below HP5.out.1 s0)
              obtain ⟨n0, n1, n2, n3, n4, n5, n6⟩ := rcF (blk_below HP6.out.1 s0)
              obtain ⟨o0, o1, o2, o3, o4, o5, o6⟩ := rcF (blk_below HP4.out s0)
              go_simp
              with_reducible rfl
            rotate_left
            · simp only [Act.put, List.setIfInBounds_toArray, List.set_cons_zero, List.set_cons_succ, i64_w, i32_w]
              rfl
            refine one_ (i := 15) (N := some 47) #[true, true, true, true, true, true, true, true, true, true, true, true, true, true, true, true, true, true, false, false, false, false, false, false, false, false, false, false] rfl rfl (by kernel_rfl) (by decide) (fun K hK => ?_)
            refine goes_ Try.func19 (by kernel_rfl) rfl #[.agg (rcL X a5 q5 a6 q6), .agg (rcL Y b5 r5 b6 r6)] (by rfl) rfl rfl (by simp only [List.map_toArray, List.map_cons, List.map_nil]; rfl) ?_
            with_reducible refine ((HSA.out _ (by first | exact hHeld | exact below_drew1 (Below.refl _ _)))).mono ?_
            rintro e we ⟨rfl, hb⟩
            have Hwe := Aside0.mk (below_step hHeld hb)
            clear hb
            refine ⟨_, rfl, ?_⟩
            refine hK.out _ _ (Hwe.out) (fun hHeld => ?_)
            clear hK K
            refine norm_ (a' := ?_) ?_ ?_
            rotate_left
            · show Act.put _ (some 47) _ = _
              simp only [Act.put, List.setIfInBounds_toArray, List.set_cons_zero, List.set_cons_succ, i64_w, i32_w]
              rfl
            refine one_ (i := 18) (N := some 50) #[true, true, true, true, true, true, true, true, true, true, true, true, true, true, true, true, true, true, true, false, false, false, false, false, false, false, false, false] rfl rfl (by kernel_rfl) (by decide) (fun K hK => ?_)
            refine goes_ Try.func48 (by kernel_rfl) rfl #[.agg (rcL X a5 q5 a6 q6), .agg (rcL Y b5 r5 b6 r6)] (by rfl) rfl rfl (by simp only [List.map_toArray, List.map_cons, List.map_nil]; rfl) ?_
            with_reducible refine ((HSB.out _ Hwe.out)).mono ?_
            rintro e wf ⟨rfl, hb⟩
            have Hwf := Aside0.mk (below_step Hwe.out hb)
            clear hb
            refine ⟨_, rfl, ?_⟩
            refine hK.out _ _ (Hwf.out) (fun hHeld => ?_)
            clear hK K
            refine norm_ (a' := ?_) ?_ ?_
            rotate_left
            · show Act.put _ (some 50) _ = _
              simp only [Act.put, List.setIfInBounds_toArray, List.set_cons_zero, List.set_cons_succ, i64_w, i32_w]
              rfl
            refine pure_ (i := 19) (N := some 51) (v := ?_) (a' := ?_) #[true, true, true, true, true, true, true, true, true, true, true, true, true, true, true, true, true, true, true, true, false, false, false, false, false, false, false, false] rfl rfl (by kernel_rfl) (fun _ _ _ h => h) (Or.inl ⟨by rfl, ?_⟩) ?_ ?_
            rotate_left
            · intro w'
              go_simp
              with_reducible rfl
            rotate_left
            · simp only [Act.put, List.setIfInBounds_toArray, List.set_cons_zero, List.set_cons_succ, i64_w, i32_w]
              rfl
            refine pure_ (i := 20) (N := some 52) (v := ?_) (a' := ?_) #[true, true, true, true, true, true, true, true, true, true, true, true, true, true, true, true, true, true, true, true, true, false, false, false, false, false, false, false] rfl rfl (by kernel_rfl) (fun _ _ _ h => h) (Or.inl ⟨by rfl, ?_⟩) ?_ ?_
            rotate_left
            · intro w'
              go_simp
              with_reducible rfl
            rotate_left
            · simp only [Act.put, List.setIfInBounds_toArray, List.set_cons_zero, List.set_cons_succ, i64_w, i32_w]
              rfl
            refine pure_ (i := 21) (N := some 53) (v := ?_) (a' := ?_) #[true, true, true, true, true, true, true, true, true, true, true, true, true, true, true, true, true, true, true, true, true, true, false, false, false, false, false, false] rfl rfl (by kernel_rfl) (fun _ _ _ h => h) (Or.inl ⟨by rfl, ?_⟩) ?_ ?_
            rotate_left
            · intro w'
              go_simp
              with_reducible rfl
            rotate_left
            · simp only [Act.put, List.setIfInBounds_toArray, List.set_cons_zero, List.set_cons_succ, i64_w, i32_w]
              rfl
            refine take_ (i := 22) (N := some 54) (v := ?_) (a' := ?_) #[true, true, true, true, true, true, true, true, true, true, true, true, true, true, true, true, true, true, true, true, true, true, true, false, false, false, false, false] rfl rfl (by kernel_rfl) (fun _ _ _ h => h) (Or.inl ⟨by rfl, ?_⟩) hHeld ?_ ?_
            rotate_left
            · intro w' s0
              obtain ⟨m0, m1, m2, m3, m4, m5, m6⟩ := rcF (blk_below HP5.out.1 s0)
              obtain ⟨n0, n1, n2, n3, n4, n5, n6⟩ := rcF (blk_below HP6.out.1 s0)
              obtain ⟨o0, o1, o2, o3, o4, o5, o6⟩ := rcF (blk_below HP4.out s0)
              go_simp
              with_reducible rfl
            rotate_left
            · simp only [Act.put, List.setIfInBounds_toArray, List.set_cons_zero, List.set_cons_succ, i64_w, i32_w]
              rfl
            refine take_ (i := 23) (N := some 55) (v := ?_) (a' := ?_) #[true, true, true, true, true, true, true, true, true, true, true, true, true, true, true, true, true, true, true, true, true, true, true, true, false, false, false, false] rfl rfl (by kernel_rfl) (fun _ _ _ h => h) (Or.inl ⟨by rfl, ?_⟩) hHeld ?_ ?_
            rotate_left
            · intro w' s0
              obtain ⟨m0, m1, m2, m3, m4, m5, m6⟩ := rcF (blk_below HP5.out.1 s0)
              obtain ⟨n0, n1, n2, n3, n4, n5, n6⟩ := rcF (blk_below HP6.out.1 s0)
              obtain ⟨o0, o1, o2, o3, o4, o5, o6⟩ := rcF (blk_below HP4.out s0)
              go_simp
              with_reducible rfl
            rotate_left
            · simp only [Act.put, List.setIfInBounds_toArray, List.set_cons_zero, List.set_cons_succ, i64_w, i32_w]
              rfl
            refine one_ (i := 24) (N := some 56) #[true, true, true, true, true, true, true, true, true, true, true, true, true, true, true, true, true, true, true, true, true, true, true, true, true, false, false, false] rfl rfl (by kernel_rfl) (by decide) (fun K hK => ?_)
            refine goes_ Try.func15 (by kernel_rfl) rfl #[.agg (rcL x A5 c5 A6 c6)] (by rfl) rfl rfl (by simp only [List.map_toArray, List.map_cons, List.map_nil]; rfl) ?_
            with_reducible refine ((HFW.out _ Hwf.out)).mono ?_
            rintro e wg ⟨z5, t5, z6, t6, rfl, hs, hb⟩
            have Hwg := Aside0.mk (below_step Hwf.out hb)
            have HRS := Aside0.mk hs
            clear hs hb
            refine ⟨_, rfl, ?_⟩
            refine hK.out _ _ (Hwg.out) (fun hHeld => ?_)
            clear hK K
            refine norm_ (a' := ?_) ?_ ?_
            rotate_left
            · show Act.put _ (some 56) _ = _
              simp only [Act.put, List.setIfInBounds_toArray, List.set_cons_zero, List.set_cons_succ, i64_w, i32_w]
              rfl
            refine one_ (i := 25) (N := some 57) #[true, true, true, true, true, true, true, true, true, true, true, true, true, true, true, true, true, true, true, true, true, true, true, true, true, true, false, false] rfl rfl (by kernel_rfl) (by decide) (fun K hK => ?_)
            refine goes_ Try.func19 (by kernel_rfl) rfl #[.agg (rcL X a5 q5 a6 q6), .agg (rcL X z5 t5 z6 t6)] (by rfl) rfl rfl (by simp only [List.map_toArray, List.map_cons, List.map_nil]; rfl) ?_
            with_reducible refine ((HSC.out _ Hwg.out _ _ _ _ _ HRS.out)).mono ?_
            rintro e wh ⟨rfl, hb⟩
            have Hwh := Aside0.mk (below_step Hwg.out hb)
            clear hb
            refine ⟨_, rfl, ?_⟩
            refine hK.out _ _ (Hwh.out) (fun hHeld => ?_)
            clear hK K
            refine norm_ (a' := ?_) ?_ ?_
            rotate_left
            · show Act.put _ (some 57) _ = _
              simp only [Act.put, List.setIfInBounds_toArray, List.set_cons_zero, List.set_cons_succ, i64_w, i32_w]
              rfl
            refine pure_ (i := 26) (N := some 58) (v := ?_) (a' := ?_) #[true, true, true, true, true, true, true, true, true, true, true, true, true, true, true, true, true, true, true, true, true, true, true, true, true, true, true, false] rfl rfl (by kernel_rfl) (fun _ _ _ h => h) (Or.inl ⟨by rfl, ?_⟩) ?_ ?_
            rotate_left
            · intro w'
              go_simp
              with_reducible rfl
            rotate_left
            · simp only [Act.put, List.setIfInBounds_toArray, List.set_cons_zero, List.set_cons_succ, i64_w, i32_w]
              rfl
            refine pure_ (i := 27) (N := some 59) (v := ?_) (a' := ?_) #[true, true, true, true, true, true, true, true, true, true, true, true, true, true, true, true, true, true, true, true, true, true, true, true, true, true, true, true] rfl rfl (by kernel_rfl) (fun _ _ _ h => h) (Or.inl ⟨by rfl, ?_⟩) ?_ ?_
            rotate_left
            · intro w'
              go_simp
              with_reducible rfl
            rotate_left
            · simp only [Act.put, List.setIfInBounds_toArray, List.set_cons_zero, List.set_cons_succ, i64_w, i32_w]
              rfl
            refine done_ (by kernel_rfl) ?_
            go_wp2_with fail
            go_meet
            exact ⟨rfl, Hwh⟩
          | true =>
            refine start_ (n := 28) (S := fun w' => Below wd.heap.size wd w') (ds := []) #[false, false, false, false, false, false, false, false, false, false, false, false, false, false, false, false, false, false, false, false, false, false, false, false, false, false, false, false] (by kernel_rfl) rfl rfl ((below_drew1 (Below.refl _ _))) (fun hHeld => ?_)
            refine pure_ (i := 0) (N := some 32) (v := ?_) (a' := ?_) #[true, false, false, false, false, false, false, false, false, false, false, false, false, false, false, false, false, false, false, false, false, false, false, false, false, false, false, false] rfl rfl (by kernel_rfl) (fun _ _ _ h => h) (Or.inl ⟨by rfl, ?_⟩) ?_ ?_
            rotate_left
            · intro w'
              go_simp
              with_reducible rfl
            rotate_left
            · simp only [Act.put, List.setIfInBounds_toArray, List.set_cons_zero, List.set_cons_succ, i64_w, i32_w]
              rfl
            refine pure_ (i := 1) (N := some 33) (v := ?_) (a' := ?_) #[true, true, false, false, false, false, false, false, false, false, false, false, false, false, false, false, false, false, false, false, false, false, false, false, false, false, false, false] rfl rfl (by kernel_rfl) (fun _ _ _ h => h) (Or.inl ⟨by rfl, ?_⟩) ?_ ?_
            rotate_left
            · intro w'
              go_simp
              with_reducible rfl
            rotate_left
            · simp only [Act.put, List.setIfInBounds_toArray, List.set_cons_zero, List.set_cons_succ, i64_w, i32_w]
              rfl
            refine pure_ (i := 2) (N := some 34) (v := ?_) (a' := ?_) #[true, true, true, false, false, false, false, false, false, false, false, false, false, false, false, false, false, false, false, false, false, false, false, false, false, false, false, false] rfl rfl (by kernel_rfl) (fun _ _ _ h => h) (Or.inl ⟨by rfl, ?_⟩) ?_ ?_
            rotate_left
            · intro w'
              go_simp
              with_reducible rfl
            rotate_left
            · simp only [Act.put, List.setIfInBounds_toArray, List.set_cons_zero, List.set_cons_succ, i64_w, i32_w]
              rfl
            refine pure_ (i := 3) (N := some 35) (v := ?_) (a' := ?_) #[true, true, true, true, false, false, false, false, false, false, false, false, false, false, false, false, false, false, false, false, false, false, false, false, false, false, false, false] rfl rfl (by kernel_rfl) (fun _ _ _ h => h) (Or.inl ⟨by rfl, ?_⟩) ?_ ?_
            rotate_left
            · intro w'
              go_simp
              with_reducible rfl
            rotate_left
            · simp only [Act.put, List.setIfInBounds_toArray, List.set_cons_zero, List.set_cons_succ, i64_w, i32_w]
              rfl
            refine pure_ (i := 4) (N := some 36) (v := ?_) (a' := ?_) #[true, true, true, true, true, false, false, false, false, false, false, false, false, false, false, false, false, false, false, false, false, false, false, false, false, false, false, false] rfl rfl (by kernel_rfl) (fun _ _ _ h => h) (Or.inl ⟨by rfl, ?_⟩) ?_ ?_
            rotate_left
            · intro w'
              go_simp
              with_reducible rfl
            rotate_left
            · simp only [Act.put, List.setIfInBounds_toArray, List.set_cons_zero, List.set_cons_succ, i64_w, i32_w]
              rfl
            refine pure_ (i := 5) (N := some 37) (v := ?_) (a' := ?_) #[true, true, true, true, true, true, false, false, false, false, false, false, false, false, false, false, false, false, false, false, false, false, false, false, false, false, false, false] rfl rfl (by kernel_rfl) (fun _ _ _ h => h) (Or.inl ⟨by rfl, ?_⟩) ?_ ?_
            rotate_left
            · intro w'
              go_simp
              with_reducible rfl
            rotate_left
            · simp only [Act.put, List.setIfInBounds_toArray, List.set_cons_zero, List.set_cons_succ, i64_w, i32_w]
              rfl
            refine pure_ (i := 6) (N := some 38) (v := ?_) (a' := ?_) #[true, true, true, true, true, true, true, false, false, false, false, false, false, false, false, false, false, false, false, false, false, false, false, false, false, false, false, false] rfl rfl (by kernel_rfl) (fun _ _ _ h => h) (Or.inl ⟨by rfl, ?_⟩) ?_ ?_
            rotate_left
            · intro w'
              go_simp
              with_reducible rfl
            rotate_left
            · simp only [Act.put, List.setIfInBounds_toArray, List.set_cons_zero, List.set_cons_succ, i64_w, i32_w]
              rfl
            refine pure_ (i := 7) (N := some 39) (v := ?_) (a' := ?_) #[true, true, true, true, true, true, true, true, false, false, false, false, false, false, false, false, false, false, false, false, false, false, false, false, false, false, false, false] rfl rfl (by kernel_rfl) (fun _ _ _ h => h) (Or.inl ⟨by rfl, ?_⟩) ?_ ?_
            rotate_left
            · intro w'
              go_simp
              with_reducible rfl
            rotate_left
            · simp only [Act.put, List.setIfInBounds_toArray, List.set_cons_zero, List.set_cons_succ, i64_w, i32_w]
              rfl
            refine pure_ (i := 8) (N := some 40) (v := ?_) (a' := ?_) #[true, true, true, true, true, true, true, true, true, false, false, false, false, false, false, false, false, false, false, false, false, false, false, false, false, false, false, false] rfl rfl (by kernel_rfl) (fun _ _ _ h => h) (Or.inl ⟨by rfl, ?_⟩) ?_ ?_
            rotate_left
            · intro w'
              go_simp
              with_reducible rfl
            rotate_left
            · simp only [Act.put, List.setIfInBounds_toArray, List.set_cons_zero, List.set_cons_succ, i64_w, i32_w]
              rfl
            refine pure_ (i := 9) (N := some 41) (v := ?_) (a' := ?_) #[true, true, true, true, true, true, true, true, true, true, false, false, false, false, false, false, false, false, false, false, false, false, false, false, false, false, false, false] rfl rfl (by kernel_rfl) (fun _ _ _ h => h) (Or.inl ⟨by rfl, ?_⟩) ?_ ?_
            rotate_left
            · intro w'
              go_simp
              with_reducible rfl
            rotate_left
            · simp only [Act.put, List.setIfInBounds_toArray, List.set_cons_zero, List.set_cons_succ, i64_w, i32_w]
              rfl
            refine pure_ (i := 10) (N := some 42) (v := ?_) (a' := ?_) #[true, true, true, true, true, true, true, true, true, true, true, false, false, false, false, false, false, false, false, false, false, false, false, false, false, false, false, false] rfl rfl (by kernel_rfl) (fun _ _ _ h => h) (Or.inl ⟨by rfl, ?_⟩) ?_ ?_
            rotate_left
            · intro w'
              go_simp
              with_reducible rfl
            rotate_left
            · simp only [Act.put, List.setIfInBounds_toArray, List.set_cons_zero, List.set_cons_succ, i64_w, i32_w]
              rfl
            refine pure_ (i := 11) (N := some 43) (v := ?_) (a' := ?_) #[true, true, true, true, true, true, true, true, true, true, true, true, false, false, false, false, false, false, false, false, false, false, false, false, false, false, false, false] rfl rfl (by kernel_rfl) (fun _ _ _ h => h) (Or.inl ⟨by rfl, ?_⟩) ?_ ?_
            rotate_left
            · intro w'
              go_simp
              with_reducible rfl
            rotate_left
            · simp only [Act.put, List.setIfInBounds_toArray, List.set_cons_zero, List.set_cons_succ, i64_w, i32_w]
              rfl
            refine pure_ (i := 12) (N := some 44) (v := ?_) (a' := ?_) #[true, true, true, true, true, true, true, true, true, true, true, true, true, false, false, false, false, false, false, false, false, false, false, false, false, false, false, false] rfl rfl (by kernel_rfl) (fun _ _ _ h => h) (Or.inl ⟨by rfl, ?_⟩) ?_ ?_
            rotate_left
            · intro w'
              go_simp
              with_reducible rfl
            rotate_left
            · simp only [Act.put, List.setIfInBounds_toArray, List.set_cons_zero, List.set_cons_succ, i64_w, i32_w]
              rfl
            refine take_ (i := 13) (N := some 45) (v := ?_) (a' := ?_) #[true, true, true, true, true, true, true, true, true, true, true, true, true, true, false, false, false, false, false, false, false, false, false, false, false, false, false, false] rfl rfl (by kernel_rfl) (fun _ _ _ h => h) (Or.inl ⟨by rfl, ?_⟩) hHeld ?_ ?_
            rotate_left
            · intro w' s0
              obtain ⟨m0, m1, m2, m3, m4, m5, m6⟩ := rcF (blk_below HP5.out.1 s0)
              obtain ⟨n0, n1, n2, n3, n4, n5, n6⟩ := rcF (blk_below HP6.out.1 s0)
              obtain ⟨o0, o1, o2, o3, o4, o5, o6⟩ := rcF (blk_below HP4.out s0)
              go_simp
              with_reducible rfl
            rotate_left
            · simp only [Act.put, List.setIfInBounds_toArray, List.set_cons_zero, List.set_cons_succ, i64_w, i32_w]
              rfl
            refine take_ (i := 14) (N := some 46) (v := ?_) (a' := ?_) #[true, true, true, true, true, true, true, true, true, true, true, true, true, true, true, false, false, false, false, false, false, false, false, false, false, false, false, false] rfl rfl (by kernel_rfl) (fun _ _ _ h => h) (Or.inl ⟨by rfl, ?_⟩) hHeld ?_ ?_
            rotate_left
            · intro w' s0
              obtain ⟨m0, m1, m2, m3, m4, m5, m6⟩ := rcF (blk_below HP5.out.1 s0)
              obtain ⟨n0, n1, n2, n3, n4, n5, n6⟩ := rcF (blk_below HP6.out.1 s0)
              obtain ⟨o0, o1, o2, o3, o4, o5, o6⟩ := rcF (blk_below HP4.out s0)
              go_simp
              with_reducible rfl
            rotate_left
            · simp only [Act.put, List.setIfInBounds_toArray, List.set_cons_zero, List.set_cons_succ, i64_w, i32_w]
              rfl
            refine take_ (i := 16) (N := some 48) (v := ?_) (a' := ?_) #[true, true, true, true, true, true, true, true, true, true, true, true, true, true, true, false, true, false, false, false, false, false, false, false, false, false, false, false] rfl rfl (by kernel_rfl) (fun _ _ _ h => h) (Or.inl ⟨by rfl, ?_⟩) hHeld ?_ ?_
            rotate_left
            · intro w' s0
              obtain ⟨m0, m1, m2, m3, m4, m5, m6⟩ := rcF (blk_below HP5.out.1 s0)
              obtain ⟨n0, n1, n2, n3, n4, n5, n6⟩ := rcF (blk_below HP6.out.1 s0)
              obtain ⟨o0, o1, o2, o3, o4, o5, o6⟩ := rcF (blk_below HP4.out s0)
              go_simp
              with_reducible rfl
            rotate_left
            · simp only [Act.put, List.setIfInBounds_toArray, List.set_cons_zero, List.set_cons_succ, i64_w, i32_w]
              rfl
            refine take_ (i := 17) (N := some 49) (v := ?_) (a' := ?_) #[true, true, true, true, true, true, true, true, true, true, true, true, true, true, true, false, true, true, false, false, false, false, false, false, false, false, false, false] rfl rfl (by kernel_rfl) (fun _ _ _ h => h) (Or.inl ⟨by rfl, ?_⟩) hHeld ?_ ?_
            rotate_left
            · intro w' s0
              obtain ⟨m0, m1, m2, m3, m4, m5, m6⟩ := rcF (blk_below HP5.out.1 s0)
              obtain ⟨n0, n1, n2, n3, n4, n5, n6⟩ := rcF (blk_below HP6.out.1 s0)
              obtain ⟨o0, o1, o2, o3, o4, o5, o6⟩ := rcF (blk_below HP4.out s0)
              go_simp
              with_reducible rfl
            rotate_left
            · simp only [Act.put, List.setIfInBounds_toArray, List.set_cons_zero, List.set_cons_succ, i64_w, i32_w]
              rfl
            refine one_ (i := 15) (N := some 47) #[true, true, true, true, true, true, true, true, true, true, true, true, true, true, true, true, true, true, false, false, false, false, false, false, false, false, false, false] rfl rfl (by kernel_rfl) (by decide) (fun K hK => ?_)
            refine goes_ Try.func19 (by kernel_rfl) rfl #[.agg (rcL X a5 q5 a6 q6), .agg (rcL Y b5 r5 b6 r6)] (by rfl) rfl rfl (by simp only [List.map_toArray, List.map_cons, List.map_nil]; rfl) ?_
            with_reducible refine ((HSA.out _ (by first | exact hHeld | exact below_drew1 (Below.refl _ _)))).mono ?_
            rintro e we ⟨rfl, hb⟩
            have Hwe := Aside0.mk (below_step hHeld hb)
            clear hb
            refine ⟨_, rfl, ?_⟩
            refine hK.out _ _ (Hwe.out) (fun hHeld => ?_)
            clear hK K
            refine norm_ (a' := ?_) ?_ ?_
            rotate_left
            · show Act.put _ (some 47) _ = _
              simp only [Act.put, List.setIfInBounds_toArray, List.set_cons_zero, List.set_cons_succ, i64_w, i32_w]
              rfl
            refine one_ (i := 18) (N := some 50) #[true, true, true, true, true, true, true, true, true, true, true, true, true, true, true, true, true, true, true, false, false, false, false, false, false, false, false, false] rfl rfl (by kernel_rfl) (by decide) (fun K hK => ?_)
            refine goes_ Try.func48 (by kernel_rfl) rfl #[.agg (rcL X a5 q5 a6 q6), .agg (rcL Y b5 r5 b6 r6)] (by rfl) rfl rfl (by simp only [List.map_toArray, List.map_cons, List.map_nil]; rfl) ?_
            with_reducible refine ((HSB.out _ Hwe.out)).mono ?_
            rintro e wf ⟨rfl, hb⟩
            have Hwf := Aside0.mk (below_step Hwe.out hb)
            clear hb
            refine ⟨_, rfl, ?_⟩
            refine hK.out _ _ (Hwf.out) (fun hHeld => ?_)
            clear hK K
            refine norm_ (a' := ?_) ?_ ?_
            rotate_left
            · show Act.put _ (some 50) _ = _
              simp only [Act.put, List.setIfInBounds_toArray, List.set_cons_zero, List.set_cons_succ, i64_w, i32_w]
              rfl
            refine pure_ (i := 19) (N := some 51) (v := ?_) (a' := ?_) #[true, true, true, true, true, true, true, true, true, true, true, true, true, true, true, true, true, true, true, true, false, false, false, false, false, false, false, false] rfl rfl (by kernel_rfl) (fun _ _ _ h => h) (Or.inl ⟨by rfl, ?_⟩) ?_ ?_
            rotate_left
            · intro w'
              go_simp
              with_reducible rfl
            rotate_left
            · simp only [Act.put, List.setIfInBounds_toArray, List.set_cons_zero, List.set_cons_succ, i64_w, i32_w]
              rfl
            refine pure_ (i := 20) (N := some 52) (v := ?_) (a' := ?_) #[true, true, true, true, true, true, true, true, true, true, true, true, true, true, true, true, true, true, true, true, true, false, false, false, false, false, false, false] rfl rfl (by kernel_rfl) (fun _ _ _ h => h) (Or.inl ⟨by rfl, ?_⟩) ?_ ?_
            rotate_left
            · intro w'
              go_simp
              with_reducible rfl
            rotate_left
            · simp only [Act.put, List.setIfInBounds_toArray, List.set_cons_zero, List.set_cons_succ, i64_w, i32_w]
              rfl
            refine pure_ (i := 21) (N := some 53) (v := ?_) (a' := ?_) #[true, true, true, true, true, true, true, true, true, true, true, true, true, true, true, true, true, true, true, true, true, true, false, false, false, false, false, false] rfl rfl (by kernel_rfl) (fun _ _ _ h => h) (Or.inl ⟨by rfl, ?_⟩) ?_ ?_
            rotate_left
            · intro w'
              go_simp
              with_reducible rfl
            rotate_left
            · simp only [Act.put, List.setIfInBounds_toArray, List.set_cons_zero, List.set_cons_succ, i64_w, i32_w]
              rfl
            refine take_ (i := 22) (N := some 54) (v := ?_) (a' := ?_) #[true, true, true, true, true, true, true, true, true, true, true, true, true, true, true, true, true, true, true, true, true, true, true, false, false, false, false, false] rfl rfl (by kernel_rfl) (fun _ _ _ h => h) (Or.inl ⟨by rfl, ?_⟩) hHeld ?_ ?_
            rotate_left
            · intro w' s0
              obtain ⟨m0, m1, m2, m3, m4, m5, m6⟩ := rcF (blk_below HP5.out.1 s0)
              obtain ⟨n0, n1, n2, n3, n4, n5, n6⟩ := rcF (blk_below HP6.out.1 s0)
              obtain ⟨o0, o1, o2, o3, o4, o5, o6⟩ := rcF (blk_below HP4.out s0)
              go_simp
              with_reducible rfl
            rotate_left
            · simp only [Act.put, List.setIfInBounds_toArray, List.set_cons_zero, List.set_cons_succ, i64_w, i32_w]
              rfl
            refine take_ (i := 23) (N := some 55) (v := ?_) (a' := ?_) #[true, true, true, true, true, true, true, true, true, true, true, true, true, true, true, true, true, true, true, true, true, true, true, true, false, false, false, false] rfl rfl (by kernel_rfl) (fun _ _ _ h => h) (Or.inl ⟨by rfl, ?_⟩) hHeld ?_ ?_
            rotate_left
            · intro w' s0
              obtain ⟨m0, m1, m2, m3, m4, m5, m6⟩ := rcF (blk_below HP5.out.1 s0)
              obtain ⟨n0, n1, n2, n3, n4, n5, n6⟩ := rcF (blk_below HP6.out.1 s0)
              obtain ⟨o0, o1, o2, o3, o4, o5, o6⟩ := rcF (blk_below HP4.out s0)
              go_simp
              with_reducible rfl
            rotate_left
            · simp only [Act.put, List.setIfInBounds_toArray, List.set_cons_zero, List.set_cons_succ, i64_w, i32_w]
              rfl
            refine one_ (i := 24) (N := some 56) #[true, true, true, true, true, true, true, true, true, true, true, true, true, true, true, true, true, true, true, true, true, true, true, true, true, false, false, false] rfl rfl (by kernel_rfl) (by decide) (fun K hK => ?_)
            refine goes_ Try.func15 (by kernel_rfl) rfl #[.agg (rcL x A5 c5 A6 c6)] (by rfl) rfl rfl (by simp only [List.map_toArray, List.map_cons, List.map_nil]; rfl) ?_
            with_reducible refine ((HFW.out _ Hwf.out)).mono ?_
            rintro e wg ⟨z5, t5, z6, t6, rfl, hs, hb⟩
            have Hwg := Aside0.mk (below_step Hwf.out hb)
            have HRS := Aside0.mk hs
            clear hs hb
            refine ⟨_, rfl, ?_⟩
            refine hK.out _ _ (Hwg.out) (fun hHeld => ?_)
            clear hK K
            refine norm_ (a' := ?_) ?_ ?_
            rotate_left
            · show Act.put _ (some 56) _ = _
              simp only [Act.put, List.setIfInBounds_toArray, List.set_cons_zero, List.set_cons_succ, i64_w, i32_w]
              rfl
            refine one_ (i := 25) (N := some 57) #[true, true, true, true, true, true, true, true, true, true, true, true, true, true, true, true, true, true, true, true, true, true, true, true, true, true, false, false] rfl rfl (by kernel_rfl) (by decide) (fun K hK => ?_)
            refine goes_ Try.func19 (by kernel_rfl) rfl #[.agg (rcL X a5 q5 a6 q6), .agg (rcL X z5 t5 z6 t6)] (by rfl) rfl rfl (by simp only [List.map_toArray, List.map_cons, List.map_nil]; rfl) ?_
            with_reducible refine ((HSC.out _ Hwg.out _ _ _ _ _ HRS.out)).mono ?_
            rintro e wh ⟨rfl, hb⟩
            have Hwh := Aside0.mk (below_step Hwg.out hb)
            clear hb
            refine ⟨_, rfl, ?_⟩
            refine hK.out _ _ (Hwh.out) (fun hHeld => ?_)
            clear hK K
            refine norm_ (a' := ?_) ?_ ?_
            rotate_left
            · show Act.put _ (some 57) _ = _
              simp only [Act.put, List.setIfInBounds_toArray, List.set_cons_zero, List.set_cons_succ, i64_w, i32_w]
              rfl
            refine pure_ (i := 26) (N := some 58) (v := ?_) (a' := ?_) #[true, true, true, true, true, true, true, true, true, true, true, true, true, true, true, true, true, true, true, true, true, true, true, true, true, true, true, false] rfl rfl (by kernel_rfl) (fun _ _ _ h => h) (Or.inl ⟨by rfl, ?_⟩) ?_ ?_
            rotate_left
            · intro w'
              go_simp
              with_reducible rfl
            rotate_left
            · simp only [Act.put, List.setIfInBounds_toArray, List.set_cons_zero, List.set_cons_succ, i64_w, i32_w]
              rfl
            refine pure_ (i := 27) (N := some 59) (v := ?_) (a' := ?_) #[true, true, true, true, true, true, true, true, true, true, true, true, true, true, true, true, true, true, true, true, true, true, true, true, true, true, true, true] rfl rfl (by kernel_rfl) (fun _ _ _ h => h) (Or.inl ⟨by rfl, ?_⟩) ?_ ?_
            rotate_left
            · intro w'
              go_simp
              with_reducible rfl
            rotate_left
            · simp only [Act.put, List.setIfInBounds_toArray, List.set_cons_zero, List.set_cons_succ, i64_w, i32_w]
              rfl
            refine done_ (by kernel_rfl) ?_
            go_wp2_with fail
            go_meet
            exact ⟨rfl, Hwh⟩
      case rest =>
      obtain ⟨rfl, HBe⟩ := hcut
      obtain ⟨we, rfl⟩ : ∃ we, we = wc := ⟨_, rfl⟩
      clear HSA HSB HSC
      replace HP5 := Aside0.mk (HP5.out.below HBe.out)
      replace HP6 := Aside0.mk (HP6.out.below HBe.out)
      replace HP4 := Aside0.mk (blk_below HP4.out HBe.out)
      have HBWe := Aside0.mk (below_step HBWd.out HBe.out)
      have HENC := Aside0.mk (encU X a5 q5 a6 q6 we HP5.out.2.1.1 HP5.out.2.1.2 HP5.out.2.2.1)
      obtain ⟨m0, m1, m2, m3, m4, m5, m6⟩ := rcF HP5.out.1
      go_upto_region 13 with (go_at_call 51; refine HENC.out.mono ?_; rintro e wk ⟨ve, ne, le, rfl, ho, hne, hle, hb⟩; have HNE := Aside0.mk hne; have HLE := Aside0.mk hle; obtain ⟨A9, c9, hv9, hc9, hC9⟩ := Kd.R_reads ho; subst hv9; have HC9 := Aside0.mk hC9; have HL9 := Aside0.mk hc9; have HBk2 := Aside0.mk hb; clear ho hne hle hb hC9 hc9)
      clear HENC m0 m1 m2 m3 m4 m5 m6
      replace HP5 := Aside0.mk (HP5.out.below HBk2.out)
      replace HP6 := Aside0.mk (HP6.out.below HBk2.out)
      replace HP4 := Aside0.mk (blk_below HP4.out HBk2.out)
      have HBdk := Aside0.mk (below_step HBe.out HBk2.out)
      have HBWk := Aside0.mk (below_step HBWe.out HBk2.out)
      replace HFW := Aside0.mk (fun (W' : World) (h : Below wk.heap.size wk W') => HFW.out W' (below_step HBdk.out h))
      replace HSD := Aside0.mk (fun (W' : World) (h : Below wk.heap.size wk W') => HSD.out W' (below_step HBdk.out h))
      clear HBWe HBWd HBe HBk2
      go_cut [96] (fun v96 wc => v96 = .bool false ∧ Aside0 (Below wk.heap.size wk wc))
      case first =>
        rw [← HRTT.out] at HNE HLE
        cases rt with
        | true =>
          have hn := HNE.out
          rw [if_pos rfl] at hn HLE
          subst hn
          have hl9 := HLE.out
          subst hl9
          clear HNE HLE
          have HBYT := Aside0.mk (recBs_byte X)
          have HOKX := Aside0.mk (show recOk X = true from HRTT.out.symm)
          have HBYS := Aside0.mk (fun (W2 : World) (h : Below wk.heap.size wk W2) => refBytes X a5 q5 a6 q6 W2 (Kd.C_below HP5.out.2.1.1 h) (Kd.C_below HP5.out.2.2.1 h) HOKX.out)
          generalize recBs X = bx at *
          refine start_ (n := 32) (S := fun w' => Below wk.heap.size wk w') (ds := []) #[false, false, false, false, false, false, false, false, false, false, false, false, false, false, false, false, false, false, false, false, false, false, false, false, false, false, false, false, false, false, false, false] (by kernel_rfl) rfl rfl ((below_drew1 (Below.refl _ _))) (fun hHeld => ?_)
          refine pure_ (i := 0) (N := some 65) (v := ?_) (a' := ?_) #[true, false, false, false, false, false, false, false, false, false, false, false, false, false, false, false, false, false, false, false, false, false, false, false, false, false, false, false, false, false, false, false] rfl rfl (by kernel_rfl) (fun _ _ _ h => h) (Or.inl ⟨by rfl, ?_⟩) ?_ ?_
          rotate_left
          · intro w'
            go_simp
            with_reducible rfl
          rotate_left
          · simp only [Act.put, List.setIfInBounds_toArray, List.set_cons_zero, List.set_cons_succ, i64_w, i32_w]
            rfl
          refine pure_ (i := 1) (N := some 66) (v := ?_) (a' := ?_) #[true, true, false, false, false, false, false, false, false, false, false, false, false, false, false, false, false, false, false, false, false, false, false, false, false, false, false, false, false, false, false, false] rfl rfl (by kernel_rfl) (fun _ _ _ h => h) (Or.inl ⟨by rfl, ?_⟩) ?_ ?_
          rotate_left
          · intro w'
            go_simp
            with_reducible rfl
          rotate_left
          · simp only [Act.put, List.setIfInBounds_toArray, List.set_cons_zero, List.set_cons_succ, i64_w, i32_w]
            rfl
          refine pure_ (i := 2) (N := some 67) (v := ?_) (a' := ?_) #[true, true, true, false, false, false, false, false, false, false, false, false, false, false, false, false, false, false, false, false, false, false, false, false, false, false, false, false, false, false, false, false] rfl rfl (by kernel_rfl) (fun _ _ _ h => h) (Or.inl ⟨by rfl, ?_⟩) ?_ ?_
          rotate_left
          · intro w'
            go_simp
            with_reducible rfl
          rotate_left
          · simp only [Act.put, List.setIfInBounds_toArray, List.set_cons_zero, List.set_cons_succ, i64_w, i32_w]
            rfl
          refine pure_ (i := 3) (N := some 68) (v := ?_) (a' := ?_) #[true, true, true, true, false, false, false, false, false, false, false, false, false, false, false, false, false, false, false, false, false, false, false, false, false, false, false, false, false, false, false, false] rfl rfl (by kernel_rfl) (fun _ _ _ h => h) (Or.inl ⟨by rfl, ?_⟩) ?_ ?_
          rotate_left
          · intro w'
            go_simp
            with_reducible rfl
          rotate_left
          · simp only [Act.put, List.setIfInBounds_toArray, List.set_cons_zero, List.set_cons_succ, i64_w, i32_w]
            rfl
          refine pure_ (i := 4) (N := some 69) (v := ?_) (a' := ?_) #[true, true, true, true, true, false, false, false, false, false, false, false, false, false, false, false, false, false, false, false, false, false, false, false, false, false, false, false, false, false, false, false] rfl rfl (by kernel_rfl) (fun _ _ _ h => h) (Or.inl ⟨by rfl, ?_⟩) ?_ ?_
          rotate_left
          · intro w'
            go_simp
            with_reducible rfl
          rotate_left
          · simp only [Act.put, List.setIfInBounds_toArray, List.set_cons_zero, List.set_cons_succ, i64_w, i32_w]
            rfl
          refine pure_ (i := 5) (N := some 70) (v := ?_) (a' := ?_) #[true, true, true, true, true, true, false, false, false, false, false, false, false, false, false, false, false, false, false, false, false, false, false, false, false, false, false, false, false, false, false, false] rfl rfl (by kernel_rfl) (fun _ _ _ h => h) (Or.inl ⟨by rfl, ?_⟩) ?_ ?_
          rotate_left
          · intro w'
            go_simp
            with_reducible rfl
          rotate_left
          · simp only [Act.put, List.setIfInBounds_toArray, List.set_cons_zero, List.set_cons_succ, i64_w, i32_w]
            rfl
          refine take_ (i := 6) (N := some 71) (v := ?_) (a' := ?_) #[true, true, true, true, true, true, true, false, false, false, false, false, false, false, false, false, false, false, false, false, false, false, false, false, false, false, false, false, false, false, false, false] rfl rfl (by kernel_rfl) (fun _ _ _ h => h) (Or.inl ⟨by rfl, ?_⟩) hHeld ?_ ?_
          rotate_left
          · intro w' s0
            obtain ⟨m0, m1, m2, m3, m4, m5, m6⟩ := rcF (blk_below HP5.out.1 s0)
            obtain ⟨n0, n1, n2, n3, n4, n5, n6⟩ := rcF (blk_below HP6.out.1 s0)
            obtain ⟨o0, o1, o2, o3, o4, o5, o6⟩ := rcF (blk_below HP4.out s0)
            go_simp
            with_reducible rfl
          rotate_left
          · simp only [Act.put, List.setIfInBounds_toArray, List.set_cons_zero, List.set_cons_succ, i64_w, i32_w]
            rfl
          refine one_ (i := 7) (N := some 72) #[true, true, true, true, true, true, true, true, false, false, false, false, false, false, false, false, false, false, false, false, false, false, false, false, false, false, false, false, false, false, false, false] rfl rfl (by kernel_rfl) (by decide) (fun K hK => ?_)
          refine goes_ Try.func52 (by kernel_rfl) rfl #[.agg (rcL X a5 q5 a6 q6)] (by rfl) rfl rfl (by simp only [List.map_toArray, List.map_cons, List.map_nil]; rfl) ?_
          with_reducible refine ((HBYS.out _ (by first | exact hHeld | exact below_drew1 (Below.refl _ _)))).mono ?_
          rintro e wl ⟨vl, rfl, ho, hb⟩
          have Hwl := Aside0.mk (below_step hHeld hb)
          obtain ⟨Al, cl, hvl, hcl, hCl⟩ := Kd.R_reads ho
          subst hvl
          have HEQ := Aside0.mk (P.bytes_Equal.calls A9 c9 bx Al cl bx true wl (Kd.C_below HC9.out Hwl.out) HL9.out hCl hcl (by rw [equal_is bx bx HBYT.out HBYT.out, decide_eq_true rfl]))
          clear ho hb hCl hcl
          refine ⟨_, rfl, ?_⟩
          refine hK.out _ _ (Hwl.out) (fun hHeld => ?_)
          clear hK K
          refine norm_ (a' := ?_) ?_ ?_
          rotate_left
          · show Act.put _ (some 72) _ = _
            simp only [Act.put, List.setIfInBounds_toArray, List.set_cons_zero, List.set_cons_succ, i64_w, i32_w]
            rfl
          refine one_ (i := 8) (N := some 73) #[true, true, true, true, true, true, true, true, true, false, false, false, false, false, false, false, false, false, false, false, false, false, false, false, false, false, false, false, false, false, false, false] rfl rfl (by kernel_rfl) (by decide) (fun K hK => ?_)
          refine goes_ Try.func17 (by kernel_rfl) rfl #[.slice A9 bx.length c9, .slice Al bx.length cl] (by rfl) rfl rfl (by simp only [List.map_toArray, List.map_cons, List.map_nil]; rfl) ?_
          with_reducible refine (HEQ.out).mono ?_
          rintro e wm ⟨rfl, hb⟩
          have Hwm := Aside0.mk (below_step Hwl.out hb.below)
          clear hb
          refine ⟨_, rfl, ?_⟩
          refine hK.out _ _ (Hwm.out) (fun hHeld => ?_)
          clear hK K
          refine norm_ (a' := ?_) ?_ ?_
          rotate_left
          · show Act.put _ (some 73) _ = _
            simp only [Act.put, List.setIfInBounds_toArray, List.set_cons_zero, List.set_cons_succ, i64_w, i32_w]
            rfl
          refine pure_ (i := 9) (N := some 74) (v := ?_) (a' := ?_) #[true, true, true, true, true, true, true, true, true, true, false, false, false, false, false, false, false, false, false, false, false, false, false, false, false, false, false, false, false, false, false, false] rfl rfl (by kernel_rfl) (fun _ _ _ h => h) (Or.inl ⟨by rfl, ?_⟩) ?_ ?_
          rotate_left
          · intro w'
            go_simp
            with_reducible rfl
          rotate_left
          · simp only [Act.put, List.setIfInBounds_toArray, List.set_cons_zero, List.set_cons_succ, i64_w, i32_w]
            rfl
          refine pure_ (i := 10) (N := some 75) (v := ?_) (a' := ?_) #[true, true, true, true, true, true, true, true, true, true, true, false, false, false, false, false, false, false, false, false, false, false, false, false, false, false, false, false, false, false, false, false] rfl rfl (by kernel_rfl) (fun _ _ _ h => h) (Or.inl ⟨by rfl, ?_⟩) ?_ ?_
          rotate_left
          · intro w'
            go_simp
            with_reducible rfl
          rotate_left
          · simp only [Act.put, List.setIfInBounds_toArray, List.set_cons_zero, List.set_cons_succ, i64_w, i32_w]
            rfl
          refine pure_ (i := 11) (N := some 76) (v := ?_) (a' := ?_) #[true, true, true, true, true, true, true, true, true, true, true, true, false, false, false, false, false, false, false, false, false, false, false, false, false, false, false, false, false, false, false, false] rfl rfl (by kernel_rfl) (fun _ _ _ h => h) (Or.inl ⟨by rfl, ?_⟩) ?_ ?_
          rotate_left
          · intro w'
            go_simp
            with_reducible rfl
          rotate_left
          · simp only [Act.put, List.setIfInBounds_toArray, List.set_cons_zero, List.set_cons_succ, i64_w, i32_w]
            rfl
          refine pure_ (i := 12) (N := some 77) (v := ?_) (a' := ?_) #[true, true, true, true, true, true, true, true, true, true, true, true, true, false, false, false, false, false, false, false, false, false, false, false, false, false, false, false, false, false, false, false] rfl rfl (by kernel_rfl) (fun _ _ _ h => h) (Or.inl ⟨by rfl, ?_⟩) ?_ ?_
          rotate_left
          · intro w'
            go_simp
            with_reducible rfl
          rotate_left
          · simp only [Act.put, List.setIfInBounds_toArray, List.set_cons_zero, List.set_cons_succ, i64_w, i32_w]
            rfl
          refine pure_ (i := 13) (N := some 78) (v := ?_) (a' := ?_) #[true, true, true, true, true, true, true, true, true, true, true, true, true, true, false, false, false, false, false, false, false, false, false, false, false, false, false, false, false, false, false, false] rfl rfl (by kernel_rfl) (fun _ _ _ h => h) (Or.inl ⟨by rfl, ?_⟩) ?_ ?_
          rotate_left
          · intro w'
            go_simp
            with_reducible rfl
          rotate_left
          · simp only [Act.put, List.setIfInBounds_toArray, List.set_cons_zero, List.set_cons_succ, i64_w, i32_w]
            rfl
          refine pure_ (i := 14) (N := some 79) (v := ?_) (a' := ?_) #[true, true, true, true, true, true, true, true, true, true, true, true, true, true, true, false, false, false, false, false, false, false, false, false, false, false, false, false, false, false, false, false] rfl rfl (by kernel_rfl) (fun _ _ _ h => h) (Or.inl ⟨by rfl, ?_⟩) ?_ ?_
          rotate_left
          · intro w'
            go_simp
            with_reducible rfl
          rotate_left
          · simp only [Act.put, List.setIfInBounds_toArray, List.set_cons_zero, List.set_cons_succ, i64_w, i32_w]
            rfl
          refine pure_ (i := 15) (N := some 80) (v := ?_) (a' := ?_) #[true, true, true, true, true, true, true, true, true, true, true, true, true, true, true, true, false, false, false, false, false, false, false, false, false, false, false, false, false, false, false, false] rfl rfl (by kernel_rfl) (fun _ _ _ h => h) (Or.inl ⟨by rfl, ?_⟩) ?_ ?_
          rotate_left
          · intro w'
            go_simp
            with_reducible rfl
          rotate_left
          · simp only [Act.put, List.setIfInBounds_toArray, List.set_cons_zero, List.set_cons_succ, i64_w, i32_w]
            rfl
          refine pure_ (i := 16) (N := some 81) (v := undef) (a' := ?_) #[true, true, true, true, true, true, true, true, true, true, true, true, true, true, true, true, true, false, false, false, false, false, false, false, false, false, false, false, false, false, false, false] rfl rfl (by kernel_rfl) (fun _ _ _ h => h) (Or.inr ⟨by rfl, rfl⟩) ?_ ?_
          rotate_left
          · simp only [Act.put, List.setIfInBounds_toArray, List.set_cons_zero, List.set_cons_succ, i64_w, i32_w]
            rfl
          refine pure_ (i := 17) (N := some 82) (v := undef) (a' := ?_) #[true, true, true, true, true, true, true, true, true, true, true, true, true, true, true, true, true, true, false, false, false, false, false, false, false, false, false, false, false, false, false, false] rfl rfl (by kernel_rfl) (fun _ _ _ h => h) (Or.inr ⟨by rfl, rfl⟩) ?_ ?_
          rotate_left
          · simp only [Act.put, List.setIfInBounds_toArray, List.set_cons_zero, List.set_cons_succ, i64_w, i32_w]
            rfl
          refine pure_ (i := 18) (N := some 83) (v := undef) (a' := ?_) #[true, true, true, true, true, true, true, true, true, true, true, true, true, true, true, true, true, true, true, false, false, false, false, false, false, false, false, false, false, false, false, false] rfl rfl (by kernel_rfl) (fun _ _ _ h => h) (Or.inr ⟨by rfl, rfl⟩) ?_ ?_
          rotate_left
          · simp only [Act.put, List.setIfInBounds_toArray, List.set_cons_zero, List.set_cons_succ, i64_w, i32_w]
            rfl
          refine pure_ (i := 19) (N := some 84) (v := undef) (a' := ?_) #[true, true, true, true, true, true, true, true, true, true, true, true, true, true, true, true, true, true, true, true, false, false, false, false, false, false, false, false, false, false, false, false] rfl rfl (by kernel_rfl) (fun _ _ _ h => h) (Or.inr ⟨by rfl, rfl⟩) ?_ ?_
          rotate_left
          · simp only [Act.put, List.setIfInBounds_toArray, List.set_cons_zero, List.set_cons_succ, i64_w, i32_w]
            rfl
          refine pure_ (i := 20) (N := some 85) (v := undef) (a' := ?_) #[true, true, true, true, true, true, true, true, true, true, true, true, true, true, true, true, true, true, true, true, true, false, false, false, false, false, false, false, false, false, false, false] rfl rfl (by kernel_rfl) (fun _ _ _ h => h) (Or.inr ⟨by rfl, rfl⟩) ?_ ?_
          rotate_left
          · simp only [Act.put, List.setIfInBounds_toArray, List.set_cons_zero, List.set_cons_succ, i64_w, i32_w]
            rfl
          refine pure_ (i := 21) (N := some 86) (v := undef) (a' := ?_) #[true, true, true, true, true, true, true, true, true, true, true, true, true, true, true, true, true, true, true, true, true, true, false, false, false, false, false, false, false, false, false, false] rfl rfl (by kernel_rfl) (fun _ _ _ h => h) (Or.inr ⟨by rfl, rfl⟩) ?_ ?_
          rotate_left
          · simp only [Act.put, List.setIfInBounds_toArray, List.set_cons_zero, List.set_cons_succ, i64_w, i32_w]
            rfl
          refine pure_ (i := 22) (N := some 87) (v := undef) (a' := ?_) #[true, true, true, true, true, true, true, true, true, true, true, true, true, true, true, true, true, true, true, true, true, true, true, false, false, false, false, false, false, false, false, false] rfl rfl (by kernel_rfl) (fun _ _ _ h => h) (Or.inr ⟨by rfl, rfl⟩) ?_ ?_
          rotate_left
          · simp only [Act.put, List.setIfInBounds_toArray, List.set_cons_zero, List.set_cons_succ, i64_w, i32_w]
            rfl
          refine pure_ (i := 23) (N := some 88) (v := ?_) (a' := ?_) #[true, true, true, true, true, true, true, true, true, true, true, true, true, true, true, true, true, true, true, true, true, true, true, true, false, false, false, false, false, false, false, false] rfl rfl (by kernel_rfl) (fun _ _ _ h => h) (Or.inl ⟨by rfl, ?_⟩) ?_ ?_
          rotate_left
          · intro w'
            go_simp
            with_reducible rfl
          rotate_left
          · simp only [Act.put, List.setIfInBounds_toArray, List.set_cons_zero, List.set_cons_succ, i64_w, i32_w]
            rfl
          refine pure_ (i := 24) (N := some 89) (v := ?_) (a' := ?_) #[true, true, true, true, true, true, true, true, true, true, true, true, true, true, true, true, true, true, true, true, true, true, true, true, true, false, false, false, false, false, false, false] rfl rfl (by kernel_rfl) (fun _ _ _ h => h) (Or.inl ⟨by rfl, ?_⟩) ?_ ?_
          rotate_left
          · intro w'
            go_simp
            with_reducible rfl
          rotate_left
          · simp only [Act.put, List.setIfInBounds_toArray, List.set_cons_zero, List.set_cons_succ, i64_w, i32_w]
            rfl
          refine pure_ (i := 25) (N := some 90) (v := ?_) (a' := ?_) #[true, true, true, true, true, true, true, true, true, true, true, true, true, true, true, true, true, true, true, true, true, true, true, true, true, true, false, false, false, false, false, false] rfl rfl (by kernel_rfl) (fun _ _ _ h => h) (Or.inl ⟨by rfl, ?_⟩) ?_ ?_
          rotate_left
          · intro w'
            go_simp
            with_reducible rfl
          rotate_left
          · simp only [Act.put, List.setIfInBounds_toArray, List.set_cons_zero, List.set_cons_succ, i64_w, i32_w]
            rfl
          refine take_ (i := 26) (N := some 91) (v := ?_) (a' := ?_) #[true, true, true, true, true, true, true, true, true, true, true, true, true, true, true, true, true, true, true, true, true, true, true, true, true, true, true, false, false, false, false, false] rfl rfl (by kernel_rfl) (fun _ _ _ h => h) (Or.inl ⟨by rfl, ?_⟩) hHeld ?_ ?_
          rotate_left
          · intro w' s0
            obtain ⟨m0, m1, m2, m3, m4, m5, m6⟩ := rcF (blk_below HP5.out.1 s0)
            obtain ⟨n0, n1, n2, n3, n4, n5, n6⟩ := rcF (blk_below HP6.out.1 s0)
            obtain ⟨o0, o1, o2, o3, o4, o5, o6⟩ := rcF (blk_below HP4.out s0)
            go_simp
            with_reducible rfl
          rotate_left
          · simp only [Act.put, List.setIfInBounds_toArray, List.set_cons_zero, List.set_cons_succ, i64_w, i32_w]
            rfl
          refine take_ (i := 27) (N := some 92) (v := ?_) (a' := ?_) #[true, true, true, true, true, true, true, true, true, true, true, true, true, true, true, true, true, true, true, true, true, true, true, true, true, true, true, true, false, false, false, false] rfl rfl (by kernel_rfl) (fun _ _ _ h => h) (Or.inl ⟨by rfl, ?_⟩) hHeld ?_ ?_
          rotate_left
          · intro w' s0
            obtain ⟨m0, m1, m2, m3, m4, m5, m6⟩ := rcF (blk_below HP5.out.1 s0)
            obtain ⟨n0, n1, n2, n3, n4, n5, n6⟩ := rcF (blk_below HP6.out.1 s0)
            obtain ⟨o0, o1, o2, o3, o4, o5, o6⟩ := rcF (blk_below HP4.out s0)
            go_simp
            with_reducible rfl
          rotate_left
          · simp only [Act.put, List.setIfInBounds_toArray, List.set_cons_zero, List.set_cons_succ, i64_w, i32_w]
            rfl
          refine one_ (i := 28) (N := some 93) #[true, true, true, true, true, true, true, true, true, true, true, true, true, true, true, true, true, true, true, true, true, true, true, true, true, true, true, true, true, false, false, false] rfl rfl (by kernel_rfl) (by decide) (fun K hK => ?_)
          refine goes_ Try.func15 (by kernel_rfl) rfl #[.agg (rcL x A5 c5 A6 c6)] (by rfl) rfl rfl (by simp only [List.map_toArray, List.map_cons, List.map_nil]; rfl) ?_
          with_reducible refine ((HFW.out _ Hwm.out)).mono ?_
          rintro e wn ⟨z5, t5, z6, t6, rfl, hs, hb⟩
          have Hwn := Aside0.mk (below_step Hwm.out hb)
          have HRS := Aside0.mk hs
          clear hs hb
          refine ⟨_, rfl, ?_⟩
          refine hK.out _ _ (Hwn.out) (fun hHeld => ?_)
          clear hK K
          refine norm_ (a' := ?_) ?_ ?_
          rotate_left
          · show Act.put _ (some 93) _ = _
            simp only [Act.put, List.setIfInBounds_toArray, List.set_cons_zero, List.set_cons_succ, i64_w, i32_w]
            rfl
          refine one_ (i := 29) (N := some 94) #[true, true, true, true, true, true, true, true, true, true, true, true, true, true, true, true, true, true, true, true, true, true, true, true, true, true, true, true, true, true, false, false] rfl rfl (by kernel_rfl) (by decide) (fun K hK => ?_)
          refine goes_ Try.func48 (by kernel_rfl) rfl #[.agg (rcL X a5 q5 a6 q6), .agg (rcL X z5 t5 z6 t6)] (by rfl) rfl rfl (by simp only [List.map_toArray, List.map_cons, List.map_nil]; rfl) ?_
          with_reducible refine ((HSD.out _ Hwn.out _ _ _ _ _ HRS.out)).mono ?_
          rintro e wp ⟨rfl, hb⟩
          have Hwp := Aside0.mk (below_step Hwn.out hb)
          clear hb
          refine ⟨_, rfl, ?_⟩
          refine hK.out _ _ (Hwp.out) (fun hHeld => ?_)
          clear hK K
          refine norm_ (a' := ?_) ?_ ?_
          rotate_left
          · show Act.put _ (some 94) _ = _
            simp only [Act.put, List.setIfInBounds_toArray, List.set_cons_zero, List.set_cons_succ, i64_w, i32_w]
            rfl
          refine pure_ (i := 30) (N := some 95) (v := ?_) (a' := ?_) #[true, true, true, true, true, true, true, true, true, true, true, true, true, true, true, true, true, true, true, true, true, true, true, true, true, true, true, true, true, true, true, false] rfl rfl (by kernel_rfl) (fun _ _ _ h => h) (Or.inl ⟨by rfl, ?_⟩) ?_ ?_
          rotate_left
          · intro w'
            go_simp
            with_reducible rfl
          rotate_left
          · simp only [Act.put, List.setIfInBounds_toArray, List.set_cons_zero, List.set_cons_succ, i64_w, i32_w]
            rfl
          refine pure_ (i := 31) (N := some 96) (v := ?_) (a' := ?_) #[true, true, true, true, true, true, true, true, true, true, true, true, true, true, true, true, true, true, true, true, true, true, true, true, true, true, true, true, true, true, true, true] rfl rfl (by kernel_rfl) (fun _ _ _ h => h) (Or.inl ⟨by rfl, ?_⟩) ?_ ?_
          rotate_left
          · intro w'
            go_simp
            with_reducible rfl
          rotate_left
          · simp only [Act.put, List.setIfInBounds_toArray, List.set_cons_zero, List.set_cons_succ, i64_w, i32_w]
            rfl
          refine done_ (by kernel_rfl) ?_
          go_wp2_with fail
          go_meet
          exact ⟨rfl, Hwp⟩
        | false =>
          have hn := HNE.out
          rw [if_neg (by decide)] at hn HLE
          subst hn
          have hl9 := HLE.out
          subst hl9
          clear HNE HLE
          refine start_ (n := 32) (S := fun w' => Below wk.heap.size wk w') (ds := []) #[false, false, false, false, false, false, false, false, false, false, false, false, false, false, false, false, false, false, false, false, false, false, false, false, false, false, false, false, false, false, false, false] (by kernel_rfl) rfl rfl ((below_drew1 (Below.refl _ _))) (fun hHeld => ?_)
          refine pure_ (i := 0) (N := some 65) (v := ?_) (a' := ?_) #[true, false, false, false, false, false, false, false, false, false, false, false, false, false, false, false, false, false, false, false, false, false, false, false, false, false, false, false, false, false, false, false] rfl rfl (by kernel_rfl) (fun _ _ _ h => h) (Or.inl ⟨by rfl, ?_⟩) ?_ ?_
          rotate_left
          · intro w'
            go_simp
            with_reducible rfl
          rotate_left
          · simp only [Act.put, List.setIfInBounds_toArray, List.set_cons_zero, List.set_cons_succ, i64_w, i32_w]
            rfl
          refine pure_ (i := 1) (N := some 66) (v := ?_) (a' := ?_) #[true, true, false, false, false, false, false, false, false, false, false, false, false, false, false, false, false, false, false, false, false, false, false, false, false, false, false, false, false, false, false, false] rfl rfl (by kernel_rfl) (fun _ _ _ h => h) (Or.inl ⟨by rfl, ?_⟩) ?_ ?_
          rotate_left
          · intro w'
            go_simp
            with_reducible rfl
          rotate_left
          · simp only [Act.put, List.setIfInBounds_toArray, List.set_cons_zero, List.set_cons_succ, i64_w, i32_w]
            rfl
          refine pure_ (i := 2) (N := some 67) (v := undef) (a' := ?_) #[true, true, true, false, false, false, false, false, false, false, false, false, false, false, false, false, false, false, false, false, false, false, false, false, false, false, false, false, false, false, false, false] rfl rfl (by kernel_rfl) (fun _ _ _ h => h) (Or.inr ⟨by rfl, rfl⟩) ?_ ?_
          rotate_left
          · simp only [Act.put, List.setIfInBounds_toArray, List.set_cons_zero, List.set_cons_succ, i64_w, i32_w]
            rfl
          refine pure_ (i := 3) (N := some 68) (v := undef) (a' := ?_) #[true, true, true, true, false, false, false, false, false, false, false, false, false, false, false, false, false, false, false, false, false, false, false, false, false, false, false, false, false, false, false, false] rfl rfl (by kernel_rfl) (fun _ _ _ h => h) (Or.inr ⟨by rfl, rfl⟩) ?_ ?_
          rotate_left
          · simp only [Act.put, List.setIfInBounds_toArray, List.set_cons_zero, List.set_cons_succ, i64_w, i32_w]
            rfl
          refine pure_ (i := 4) (N := some 69) (v := undef) (a' := ?_) #[true, true, true, true, true, false, false, false, false, false, false, false, false, false, false, false, false, false, false, false, false, false, false, false, false, false, false, false, false, false, false, false] rfl rfl (by kernel_rfl) (fun _ _ _ h => h) (Or.inr ⟨by rfl, rfl⟩) ?_ ?_
          rotate_left
          · simp only [Act.put, List.setIfInBounds_toArray, List.set_cons_zero, List.set_cons_succ, i64_w, i32_w]
            rfl
          refine pure_ (i := 5) (N := some 70) (v := undef) (a' := ?_) #[true, true, true, true, true, true, false, false, false, false, false, false, false, false, false, false, false, false, false, false, false, false, false, false, false, false, false, false, false, false, false, false] rfl rfl (by kernel_rfl) (fun _ _ _ h => h) (Or.inr ⟨by rfl, rfl⟩) ?_ ?_
          rotate_left
          · simp only [Act.put, List.setIfInBounds_toArray, List.set_cons_zero, List.set_cons_succ, i64_w, i32_w]
            rfl
          refine pure_ (i := 6) (N := some 71) (v := undef) (a' := ?_) #[true, true, true, true, true, true, true, false, false, false, false, false, false, false, false, false, false, false, false, false, false, false, false, false, false, false, false, false, false, false, false, false] rfl rfl (by kernel_rfl) (fun _ _ _ h => h) (Or.inr ⟨by rfl, rfl⟩) ?_ ?_
          rotate_left
          · simp only [Act.put, List.setIfInBounds_toArray, List.set_cons_zero, List.set_cons_succ, i64_w, i32_w]
            rfl
          refine pure_ (i := 7) (N := some 72) (v := undef) (a' := ?_) #[true, true, true, true, true, true, true, true, false, false, false, false, false, false, false, false, false, false, false, false, false, false, false, false, false, false, false, false, false, false, false, false] rfl rfl (by kernel_rfl) (fun _ _ _ h => h) (Or.inr ⟨by rfl, rfl⟩) ?_ ?_
          rotate_left
          · simp only [Act.put, List.setIfInBounds_toArray, List.set_cons_zero, List.set_cons_succ, i64_w, i32_w]
            rfl
          refine pure_ (i := 8) (N := some 73) (v := undef) (a' := ?_) #[true, true, true, true, true, true, true, true, true, false, false, false, false, false, false, false, false, false, false, false, false, false, false, false, false, false, false, false, false, false, false, false] rfl rfl (by kernel_rfl) (fun _ _ _ h => h) (Or.inr ⟨by rfl, rfl⟩) ?_ ?_
          rotate_left
          · simp only [Act.put, List.setIfInBounds_toArray, List.set_cons_zero, List.set_cons_succ, i64_w, i32_w]
            rfl
          refine pure_ (i := 9) (N := some 74) (v := undef) (a' := ?_) #[true, true, true, true, true, true, true, true, true, true, false, false, false, false, false, false, false, false, false, false, false, false, false, false, false, false, false, false, false, false, false, false] rfl rfl (by kernel_rfl) (fun _ _ _ h => h) (Or.inr ⟨by rfl, rfl⟩) ?_ ?_
          rotate_left
          · simp only [Act.put, List.setIfInBounds_toArray, List.set_cons_zero, List.set_cons_succ, i64_w, i32_w]
            rfl
          refine pure_ (i := 10) (N := some 75) (v := undef) (a' := ?_) #[true, true, true, true, true, true, true, true, true, true, true, false, false, false, false, false, false, false, false, false, false, false, false, false, false, false, false, false, false, false, false, false] rfl rfl (by kernel_rfl) (fun _ _ _ h => h) (Or.inr ⟨by rfl, rfl⟩) ?_ ?_
          rotate_left
          · simp only [Act.put, List.setIfInBounds_toArray, List.set_cons_zero, List.set_cons_succ, i64_w, i32_w]
            rfl
          refine pure_ (i := 11) (N := some 76) (v := ?_) (a' := ?_) #[true, true, true, true, true, true, true, true, true, true, true, true, false, false, false, false, false, false, false, false, false, false, false, false, false, false, false, false, false, false, false, false] rfl rfl (by kernel_rfl) (fun _ _ _ h => h) (Or.inl ⟨by rfl, ?_⟩) ?_ ?_
          rotate_left
          · intro w'
            go_simp
            with_reducible rfl
          rotate_left
          · simp only [Act.put, List.setIfInBounds_toArray, List.set_cons_zero, List.set_cons_succ, i64_w, i32_w]
            rfl
          refine pure_ (i := 12) (N := some 77) (v := ?_) (a' := ?_) #[true, true, true, true, true, true, true, true, true, true, true, true, true, false, false, false, false, false, false, false, false, false, false, false, false, false, false, false, false, false, false, false] rfl rfl (by kernel_rfl) (fun _ _ _ h => h) (Or.inl ⟨by rfl, ?_⟩) ?_ ?_
          rotate_left
          · intro w'
            go_simp
            with_reducible rfl
          rotate_left
          · simp only [Act.put, List.setIfInBounds_toArray, List.set_cons_zero, List.set_cons_succ, i64_w, i32_w]
            rfl
          refine pure_ (i := 13) (N := some 78) (v := ?_) (a' := ?_) #[true, true, true, true, true, true, true, true, true, true, true, true, true, true, false, false, false, false, false, false, false, false, false, false, false, false, false, false, false, false, false, false] rfl rfl (by kernel_rfl) (fun _ _ _ h => h) (Or.inl ⟨by rfl, ?_⟩) ?_ ?_
          rotate_left
          · intro w'
            go_simp
            with_reducible rfl
          rotate_left
          · simp only [Act.put, List.setIfInBounds_toArray, List.set_cons_zero, List.set_cons_succ, i64_w, i32_w]
            rfl
          refine pure_ (i := 14) (N := some 79) (v := ?_) (a' := ?_) #[true, true, true, true, true, true, true, true, true, true, true, true, true, true, true, false, false, false, false, false, false, false, false, false, false, false, false, false, false, false, false, false] rfl rfl (by kernel_rfl) (fun _ _ _ h => h) (Or.inl ⟨by rfl, ?_⟩) ?_ ?_
          rotate_left
          · intro w'
            go_simp
            with_reducible rfl
          rotate_left
          · simp only [Act.put, List.setIfInBounds_toArray, List.set_cons_zero, List.set_cons_succ, i64_w, i32_w]
            rfl
          refine pure_ (i := 15) (N := some 80) (v := ?_) (a' := ?_) #[true, true, true, true, true, true, true, true, true, true, true, true, true, true, true, true, false, false, false, false, false, false, false, false, false, false, false, false, false, false, false, false] rfl rfl (by kernel_rfl) (fun _ _ _ h => h) (Or.inl ⟨by rfl, ?_⟩) ?_ ?_
          rotate_left
          · intro w'
            go_simp
            with_reducible rfl
          rotate_left
          · simp only [Act.put, List.setIfInBounds_toArray, List.set_cons_zero, List.set_cons_succ, i64_w, i32_w]
            rfl
          refine pure_ (i := 16) (N := some 81) (v := ?_) (a' := ?_) #[true, true, true, true, true, true, true, true, true, true, true, true, true, true, true, true, true, false, false, false, false, false, false, false, false, false, false, false, false, false, false, false] rfl rfl (by kernel_rfl) (fun _ _ _ h => h) (Or.inl ⟨by rfl, ?_⟩) ?_ ?_
          rotate_left
          · intro w'
            go_simp
            with_reducible rfl
          rotate_left
          · simp only [Act.put, List.setIfInBounds_toArray, List.set_cons_zero, List.set_cons_succ, i64_w, i32_w]
            rfl
          refine pure_ (i := 17) (N := some 82) (v := ?_) (a' := ?_) #[true, true, true, true, true, true, true, true, true, true, true, true, true, true, true, true, true, true, false, false, false, false, false, false, false, false, false, false, false, false, false, false] rfl rfl (by kernel_rfl) (fun _ _ _ h => h) (Or.inl ⟨by rfl, ?_⟩) ?_ ?_
          rotate_left
          · intro w'
            go_simp
            with_reducible rfl
          rotate_left
          · simp only [Act.put, List.setIfInBounds_toArray, List.set_cons_zero, List.set_cons_succ, i64_w, i32_w]
            rfl
          refine pure_ (i := 18) (N := some 83) (v := ?_) (a' := ?_) #[true, true, true, true, true, true, true, true, true, true, true, true, true, true, true, true, true, true, true, false, false, false, false, false, false, false, false, false, false, false, false, false] rfl rfl (by kernel_rfl) (fun _ _ _ h => h) (Or.inl ⟨by rfl, ?_⟩) ?_ ?_
          rotate_left
          · intro w'
            go_simp
            with_reducible rfl
          rotate_left
          · simp only [Act.put, List.setIfInBounds_toArray, List.set_cons_zero, List.set_cons_succ, i64_w, i32_w]
            rfl
          refine pure_ (i := 19) (N := some 84) (v := ?_) (a' := ?_) #[true, true, true, true, true, true, true, true, true, true, true, true, true, true, true, true, true, true, true, true, false, false, false, false, false, false, false, false, false, false, false, false] rfl rfl (by kernel_rfl) (fun _ _ _ h => h) (Or.inl ⟨by rfl, ?_⟩) ?_ ?_
          rotate_left
          · intro w'
            go_simp
            with_reducible rfl
          rotate_left
          · simp only [Act.put, List.setIfInBounds_toArray, List.set_cons_zero, List.set_cons_succ, i64_w, i32_w]
            rfl
          refine pure_ (i := 20) (N := some 85) (v := ?_) (a' := ?_) #[true, true, true, true, true, true, true, true, true, true, true, true, true, true, true, true, true, true, true, true, true, false, false, false, false, false, false, false, false, false, false, false] rfl rfl (by kernel_rfl) (fun _ _ _ h => h) (Or.inl ⟨by rfl, ?_⟩) ?_ ?_
          rotate_left
          · intro w'
            go_simp
            with_reducible rfl
          rotate_left
          · simp only [Act.put, List.setIfInBounds_toArray, List.set_cons_zero, List.set_cons_succ, i64_w, i32_w]
            rfl
          refine pure_ (i := 21) (N := some 86) (v := ?_) (a' := ?_) #[true, true, true, true, true, true, true, true, true, true, true, true, true, true, true, true, true, true, true, true, true, true, false, false, false, false, false, false, false, false, false, false] rfl rfl (by kernel_rfl) (fun _ _ _ h => h) (Or.inl ⟨by rfl, ?_⟩) ?_ ?_
          rotate_left
          · intro w'
            go_simp
            with_reducible rfl
          rotate_left
          · simp only [Act.put, List.setIfInBounds_toArray, List.set_cons_zero, List.set_cons_succ, i64_w, i32_w]
            rfl
          refine pure_ (i := 22) (N := some 87) (v := ?_) (a' := ?_) #[true, true, true, true, true, true, true, true, true, true, true, true, true, true, true, true, true, true, true, true, true, true, true, false, false, false, false, false, false, false, false, false] rfl rfl (by kernel_rfl) (fun _ _ _ h => h) (Or.inl ⟨by rfl, ?_⟩) ?_ ?_
          rotate_left
          · intro w'
            go_simp
            with_reducible rfl
          rotate_left
          · simp only [Act.put, List.setIfInBounds_toArray, List.set_cons_zero, List.set_cons_succ, i64_w, i32_w]
            rfl
          refine pure_ (i := 23) (N := some 88) (v := ?_) (a' := ?_) #[true, true, true, true, true, true, true, true, true, true, true, true, true, true, true, true, true, true, true, true, true, true, true, true, false, false, false, false, false, false, false, false] rfl rfl (by kernel_rfl) (fun _ _ _ h => h) (Or.inl ⟨by rfl, ?_⟩) ?_ ?_
          rotate_left
          · intro w'
            go_simp
            with_reducible rfl
          rotate_left
          · simp only [Act.put, List.setIfInBounds_toArray, List.set_cons_zero, List.set_cons_succ, i64_w, i32_w]
            rfl
          refine pure_ (i := 24) (N := some 89) (v := ?_) (a' := ?_) #[true, true, true, true, true, true, true, true, true, true, true, true, true, true, true, true, true, true, true, true, true, true, true, true, true, false, false, false, false, false, false, false] rfl rfl (by kernel_rfl) (fun _ _ _ h => h) (Or.inl ⟨by rfl, ?_⟩) ?_ ?_
          rotate_left
          · intro w'
            go_simp
            with_reducible rfl
          rotate_left
          · simp only [Act.put, List.setIfInBounds_toArray, List.set_cons_zero, List.set_cons_succ, i64_w, i32_w]
            rfl
          refine pure_ (i := 25) (N := some 90) (v := ?_) (a' := ?_) #[true, true, true, true, true, true, true, true, true, true, true, true, true, true, true, true, true, true, true, true, true, true, true, true, true, true, false, false, false, false, false, false] rfl rfl (by kernel_rfl) (fun _ _ _ h => h) (Or.inl ⟨by rfl, ?_⟩) ?_ ?_
          rotate_left
          · intro w'
            go_simp
            with_reducible rfl
          rotate_left
          · simp only [Act.put, List.setIfInBounds_toArray, List.set_cons_zero, List.set_cons_succ, i64_w, i32_w]
            rfl
          refine take_ (i := 26) (N := some 91) (v := ?_) (a' := ?_) #[true, true, true, true, true, true, true, true, true, true, true, true, true, true, true, true, true, true, true, true, true, true, true, true, true, true, true, false, false, false, false, false] rfl rfl (by kernel_rfl) (fun _ _ _ h => h) (Or.inl ⟨by rfl, ?_⟩) hHeld ?_ ?_
          rotate_left
          · intro w' s0
            obtain ⟨m0, m1, m2, m3, m4, m5, m6⟩ := rcF (blk_below HP5.out.1 s0)
            obtain ⟨n0, n1, n2, n3, n4, n5, n6⟩ := rcF (blk_below HP6.out.1 s0)
            obtain ⟨o0, o1, o2, o3, o4, o5, o6⟩ := rcF (blk_below HP4.out s0)
            go_simp
            with_reducible rfl
          rotate_left
          · simp only [Act.put, List.setIfInBounds_toArray, List.set_cons_zero, List.set_cons_succ, i64_w, i32_w]
            rfl
          refine take_ (i := 27) (N := some 92) (v := ?_) (a' := ?_) #[true, true, true, true, true, true, true, true, true, true, true, true, true, true, true, true, true, true, true, true, true, true, true, true, true, true, true, true, false, false, false, false] rfl rfl (by kernel_rfl) (fun _ _ _ h => h) (Or.inl ⟨by rfl, ?_⟩) hHeld ?_ ?_
          rotate_left
          · intro w' s0
            obtain ⟨m0, m1, m2, m3, m4, m5, m6⟩ := rcF (blk_below HP5.out.1 s0)
            obtain ⟨n0, n1, n2, n3, n4, n5, n6⟩ := rcF (blk_below HP6.out.1 s0)
            obtain ⟨o0, o1, o2, o3, o4, o5, o6⟩ := rcF (blk_below HP4.out s0)
            go_simp
            with_reducible rfl
          rotate_left
          · simp only [Act.put, List.setIfInBounds_toArray, List.set_cons_zero, List.set_cons_succ, i64_w, i32_w]
            rfl
          refine one_ (i := 28) (N := some 93) #[true, true, true, true, true, true, true, true, true, true, true, true, true, true, true, true, true, true, true, true, true, true, true, true, true, true, true, true, true, false, false, false] rfl rfl (by kernel_rfl) (by decide) (fun K hK => ?_)
          refine goes_ Try.func15 (by kernel_rfl) rfl #[.agg (rcL x A5 c5 A6 c6)] (by rfl) rfl rfl (by simp only [List.map_toArray, List.map_cons, List.map_nil]; rfl) ?_
          with_reducible refine ((HFW.out _ hHeld)).mono ?_
          rintro e wn ⟨z5, t5, z6, t6, rfl, hs, hb⟩
          have Hwn := Aside0.mk (below_step hHeld hb)
          have HRS := Aside0.mk hs
          clear hs hb
          refine ⟨_, rfl, ?_⟩
          refine hK.out _ _ (Hwn.out) (fun hHeld => ?_)
          clear hK K
          refine norm_ (a' := ?_) ?_ ?_
          rotate_left
          · show Act.put _ (some 93) _ = _
            simp only [Act.put, List.setIfInBounds_toArray, List.set_cons_zero, List.set_cons_succ, i64_w, i32_w]
            rfl
          refine one_ (i := 29) (N := some 94) #[true, true, true, true, true, true, true, true, true, true, true, true, true, true, true, true, true, true, true, true, true, true, true, true, true, true, true, true, true, true, false, false] rfl rfl (by kernel_rfl) (by decide) (fun K hK => ?_)
          refine goes_ Try.func48 (by kernel_rfl) rfl #[.agg (rcL X a5 q5 a6 q6), .agg (rcL X z5 t5 z6 t6)] (by rfl) rfl rfl (by simp only [List.map_toArray, List.map_cons, List.map_nil]; rfl) ?_
          with_reducible refine ((HSD.out _ Hwn.out _ _ _ _ _ HRS.out)).mono ?_
          rintro e wp ⟨rfl, hb⟩
          have Hwp := Aside0.mk (below_step Hwn.out hb)
          clear hb
          refine ⟨_, rfl, ?_⟩
          refine hK.out _ _ (Hwp.out) (fun hHeld => ?_)
          clear hK K
          refine norm_ (a' := ?_) ?_ ?_
          rotate_left
          · show Act.put _ (some 94) _ = _
            simp only [Act.put, List.setIfInBounds_toArray, List.set_cons_zero, List.set_cons_succ, i64_w, i32_w]
            rfl
          refine pure_ (i := 30) (N := some 95) (v := ?_) (a' := ?_) #[true, true, true, true, true, true, true, true, true, true, true, true, true, true, true, true, true, true, true, true, true, true, true, true, true, true, true, true, true, true, true, false] rfl rfl (by kernel_rfl) (fun _ _ _ h => h) (Or.inl ⟨by rfl, ?_⟩) ?_ ?_
          rotate_left
          · intro w'
            go_simp
            with_reducible rfl
          rotate_left
          · simp only [Act.put, List.setIfInBounds_toArray, List.set_cons_zero, List.set_cons_succ, i64_w, i32_w]
            rfl
          refine pure_ (i := 31) (N := some 96) (v := ?_) (a' := ?_) #[true, true, true, true, true, true, true, true, true, true, true, true, true, true, true, true, true, true, true, true, true, true, true, true, true, true, true, true, true, true, true, true] rfl rfl (by kernel_rfl) (fun _ _ _ h => h) (Or.inl ⟨by rfl, ?_⟩) ?_ ?_
          rotate_left
          · intro w'
            go_simp
            with_reducible rfl
          rotate_left
          · simp only [Act.put, List.setIfInBounds_toArray, List.set_cons_zero, List.set_cons_succ, i64_w, i32_w]
            rfl
          refine done_ (by kernel_rfl) ?_
          go_wp2_with fail
          go_meet
          exact ⟨rfl, Hwp⟩
      case rest =>
      obtain ⟨rfl, HBe⟩ := hcut
      have HBE := Aside0.mk (below_step HBWk.out HBe.out)
      go_wp2_with fail
      go_roundg (l.length - (kk + 1))
      case measure => omega
      case rel => exact ⟨kk + 1, by have := HLT.out; omega, by omega, by go_num, HBE⟩

end Go.Proofs.Ytngjaaldidmgjaa.G
